/- A part of the proof in YtfhdmfcfcgbgeaaGreatLtX30. -/
import Derived.Deep.RegionHeld3
import Derived.Test.YtfhdmfcfcgbgeaaGreatLtX7
namespace Go.Proofs.YtfhdmfcfcgbgeaaGreat
set_option linter.unusedVariables false
set_option linter.unusedSimpArgs false
set_option maxHeartbeats 1000000
set_option maxRecDepth 100000
open Go.RowKit
def Za.zero : Za := { af := [], aa := { ac := [], ai := [] }, ak := 0, ag := [], av := 0, ah := [], ax := false }
def VJ (s : ByteArray) : Nat → Int × Int
 | 0 => (1, 0)
 | k + 1 => (((VJ s k).1 + ((s.get! k).toNat : Int) + 1) % 9973, ((VJ s k).2 + ((VJ s k).1 + ((s.get! k).toNat : Int) + 1) % 9973) % 9973)
def QY (s : ByteArray) : Int := (VJ s s.size).1 * 9973 + (VJ s s.size).2
theorem Zgo (s : ByteArray) (k : Nat) : 0 ≤ (VJ s k).1 ∧ (VJ s k).1 < 9973 ∧ 0 ≤ (VJ s k).2 ∧ (VJ s k).2 < 9973 := by
 cases k with
 | zero => simp [VJ]
 | succ k => unfold VJ; dsimp only; omega
theorem Zlu (s : ByteArray) : 0 ≤ QY s ∧ QY s ≤ 99460728 := by
 have := Zgo s s.size;unfold QY; omega
theorem Zds (s : ByteArray) (k : Nat) : (0 : Int) ≤ ((s.get! k).toNat : Int) ∧ ((s.get! k).toNat : Int) ≤ 255 := by
 have := (s.get! k).toNat_lt
 omega
def Zz (p : Nat → Bool) : Nat → Nat → Nat
 | 0, k => k
 | f + 1, k => if p k then k else Zz p f (k + 1)
theorem Vd {p : Nat → Bool} {f k : Nat} (h : p k = true) : Zz p (f + 1) k = k := by simp [Zz, h]
theorem UM {p : Nat → Bool} {f k : Nat} (h : p k = false) : Zz p (f + 1) k = Zz p f (k + 1) := by simp [Zz, h]
theorem Qo (p : Nat → Bool) (f k : Nat) : k ≤ Zz p f k ∧ Zz p f k ≤ k + f := by
 induction f generalizing k with
 | zero => simp [Zz]
 | succ f ih =>
  unfold Zz
  split
  ·omega
  ·have := ih (k + 1); omega
theorem ZdJ (p : Nat → Bool) (f k : Nat) (h : Zz p f k < k + f) : p (Zz p f k) = true := by
 induction f generalizing k with
 | zero => simp [Zz] at h
 | succ f ih =>
  unfold Zz at h ⊢
  split
  ·assumption
  ·rename_i hp
   rw [if_neg hp] at h;exact ih (k + 1) (by omega)
theorem Zbw {p q : Nat → Bool} (f k : Nat) (h : ∀ i, k ≤ i → i < k + f → p i = q i) : Zz p f k = Zz q f k := by
 induction f generalizing k with
 | zero => rfl
 | succ f ih =>
  unfold Zz;rw [h k (Nat.le_refl _) (by omega), ih (k + 1) (fun i h1 h2 => h i (by omega) (by omega))]
theorem Zhi {p : Nat → Bool} (n f k : Nat) (h : ∀ i, k ≤ i → i < k + n → p i = false) : Zz p (n + f) k = Zz p f (k + n) := by
 induction n generalizing k with
 | zero => simp
 | succ n ih =>
  rw [show n + 1 + f = (n + f) + 1 by omega, UM (h k (Nat.le_refl _) (by omega)), ih (k + 1) (fun i h1 h2 => h i (by omega) (by omega)), show k + 1 + n = k + (n + 1) by omega]
def Yj (at_ birth level : Int) (text : ByteArray) : PtrD := { aA := at_, al := birth, aw := text.size, aC := QY text, ar := level }
def PtrD.zero : PtrD := { aA := 0, al := 0, aw := 0, aC := 0, ar := 0 }
def YN (at_ birth level : Int) (text : ByteArray) : Bool := inB text.size 1 128 && (Yj at_ birth level text).ok
def Je (at_ birth level : Int) (text : ByteArray) : PtrD := if YN at_ birth level text then Yj at_ birth level text else PtrD.zero
theorem Zbx {a b l : Int} {s : ByteArray} (h : YN a b l s = false) : Je a b l s = PtrD.zero := by unfold Je; rw [h]; rfl
theorem Zan {a b l : Int} {s : ByteArray} (h : YN a b l s = true) : Je a b l s = Yj a b l s := by unfold Je; rw [h]; rfl
def Uo (st : Za) (text : ByteArray) (i : Nat) : Bool := ((st.af.getD i ByteArray.empty).toList == text.toList) && decide (st.aa.ai.getD i 0 < st.ak) && decide (st.aa.ac.getD i 0 < st.ak)
def Zgp (k : Nat) : Int := if k < 64 then (k : Int) else -1
def ZaJ (st : Za) (text : ByteArray) : Int := Zgp (Zz (Uo st text) 56 8)
def VP (s : Zo) (i : Nat) : Bool := s.ac.getD i 0 == 0
def Up (s : Zo) : Int := Zgp (Zz (VP s) 56 8)
theorem Zjr {k : Nat} (h : k < 64) : Zgp k = k := by simp [Zgp, h]
theorem Jz {p : Nat → Bool} {k : Nat} (hk : k < 64) (hp : p k = false) {n : Nat} (h : Zz p 56 8 = n) (hn : n = Zz p (64 - k) k) : Zz p 56 8 = Zz p (64 - (k + 1)) (k + 1) := by
 rw [h, hn, show 64 - k = (64 - (k + 1)) + 1 by omega, UM hp]
theorem Zao {p : Nat → Bool} {k : Nat} (hk : k < 64) (hp : p k = true) (h : Zz p 56 8 = Zz p (64 - k) k) : Zz p 56 8 = k := by
 rw [h, show 64 - k = (63 - k) + 1 by omega, Vd hp]
theorem Zby {p : Nat → Bool} {k : Nat} (hk : k = 64) (h : Zz p 56 8 = Zz p (64 - k) k) : Zz p 56 8 = 64 := by
 rw [h, hk]; rfl
def inL (xs : List Int) (n : Int) : Bool := xs.any (· == n)
theorem Zlv {xs : List Int} {k : Nat} {n : Int} (hk : k < xs.length) (h : (xs.getD k 0 == n) = true) : inL xs n = true := by
 unfold inL;rw [List.any_eq_true];refine ⟨xs[k], List.getElem_mem hk, ?_⟩
 simpa [List.getD, hk] using h
theorem Zlw {xs : List Int} {k : Nat} {n : Int} (hk : k < xs.length) (h : (xs.getD k 0 == n) = false) (hp : (xs.take k).any (· == n) = false) : (xs.take (k + 1)).any (· == n) = false := by
 rw [List.take_succ_eq_append_getElem hk, List.any_append, hp]
 simpa [List.getD, hk] using h
theorem Zng {xs : List Int} {k : Nat} {n : Int} (hk : ¬ k < xs.length) (hp : (xs.take k).any (· == n) = false) : inL xs n = false := by
 rw [List.take_of_length_le (by omega)] at hp; exact hp
def Qj (st : Za) (text : ByteArray) (i : Nat) : Bool := decide (0 < st.aa.ac.getD i 0) && ((st.af.getD i ByteArray.empty).toList == text.toList) && decide (st.aa.ai.getD i 0 < st.ak) && decide (st.aa.ac.getD i 0 < st.ak)
def Xp (st : Za) (i : Nat) : Bool := !decide (0 < st.aa.ac.getD i 0)
def Y5 (st : Za) (text : ByteArray) (level : Int) : Nat := if st.ax && (level == 0) then Zz (Qj st text) 64 0 else 64
def writeAt (st : Za) (text : ByteArray) (level : Int) : Nat := if Y5 st text level < 64 then Y5 st text level else Zz (Xp st) 56 8
def Za.putAt (st : Za) (i : Nat) (rows : List ByteArray) : Za := { st with af := rows, aa := { ac := st.aa.ac.set i (st.aa.ac.getD i 0 + 1), ai := st.aa.ai.set i st.ak } }
theorem Ve {p : Nat → Bool} {k : Nat} (hk : k < 64) (hp : p k = false) (h : Zz p 64 0 = Zz p (64 - k) k) : Zz p 64 0 = Zz p (64 - (k + 1)) (k + 1) := by
 rw [h, show 64 - k = (64 - (k + 1)) + 1 by omega, UM hp]
theorem Zis {p : Nat → Bool} {k : Nat} (hk : k < 64) (hp : p k = true) (h : Zz p 64 0 = Zz p (64 - k) k) : Zz p 64 0 = k := by
 rw [h, show 64 - k = (63 - k) + 1 by omega, Vd hp]
theorem Zj5 {p : Nat → Bool} {k : Nat} (hk : k = 64) (h : Zz p 64 0 = Zz p (64 - k) k) : Zz p 64 0 = 64 := by
 rw [h, hk]; rfl
end Go.Proofs.YtfhdmfcfcgbgeaaGreat
