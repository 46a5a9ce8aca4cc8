/- A part of the proof in YtfhdmfcfcgbgeaaGreatSaX30. -/
import Derived.Deep.RegionHeld3
import Derived.Test.YtfhdmfcfcgbgeaaGreatSaX7
namespace Go.Proofs.YtfhdmfcfcgbgeaaGreat
set_option linter.unusedVariables false
set_option linter.unusedSimpArgs false
set_option maxHeartbeats 1000000
set_option maxRecDepth 100000
open Go.RowKit
def Za.zero : Za := { af := [], aa := { ac := [], ah := [] }, ak := 0, ag := [], aw := 0, aj := [], ax := false }
def VA (s : ByteArray) : Nat → Int × Int
 | 0 => (1, 0)
 | k + 1 => (((VA s k).1 + ((s.get! k).toNat : Int) + 1) % 9973, ((VA s k).2 + ((VA s k).1 + ((s.get! k).toNat : Int) + 1) % 9973) % 9973)
def QO (s : ByteArray) : Int := (VA s s.size).1 * 9973 + (VA s s.size).2
theorem Zgl (s : ByteArray) (k : Nat) : 0 ≤ (VA s k).1 ∧ (VA s k).1 < 9973 ∧ 0 ≤ (VA s k).2 ∧ (VA s k).2 < 9973 := by
 cases k with
 | zero => simp [VA]
 | succ k => unfold VA; dsimp only; omega
theorem Zlt (s : ByteArray) : 0 ≤ QO s ∧ QO s ≤ 99460728 := by
 have := Zgl s s.size;unfold QO; omega
theorem Zdw (s : ByteArray) (k : Nat) : (0 : Int) ≤ ((s.get! k).toNat : Int) ∧ ((s.get! k).toNat : Int) ≤ 255 := by
 have := (s.get! k).toNat_lt
 omega
def Zy (p : Nat → Bool) : Nat → Nat → Nat
 | 0, k => k
 | f + 1, k => if p k then k else Zy p f (k + 1)
theorem U4 {p : Nat → Bool} {f k : Nat} (h : p k = true) : Zy p (f + 1) k = k := by simp [Zy, h]
theorem UE {p : Nat → Bool} {f k : Nat} (h : p k = false) : Zy p (f + 1) k = Zy p f (k + 1) := by simp [Zy, h]
theorem Qc (p : Nat → Bool) (f k : Nat) : k ≤ Zy p f k ∧ Zy p f k ≤ k + f := by
 induction f generalizing k with
 | zero => simp [Zy]
 | succ f ih =>
  unfold Zy
  split
  ·omega
  ·have := ih (k + 1); omega
theorem ZdN (p : Nat → Bool) (f k : Nat) (h : Zy p f k < k + f) : p (Zy p f k) = true := by
 induction f generalizing k with
 | zero => simp [Zy] at h
 | succ f ih =>
  unfold Zy at h ⊢
  split
  ·assumption
  ·rename_i hp
   rw [if_neg hp] at h;exact ih (k + 1) (by omega)
theorem Zbp {p q : Nat → Bool} (f k : Nat) (h : ∀ i, k ≤ i → i < k + f → p i = q i) : Zy p f k = Zy q f k := by
 induction f generalizing k with
 | zero => rfl
 | succ f ih =>
  unfold Zy;rw [h k (Nat.le_refl _) (by omega), ih (k + 1) (fun i h1 h2 => h i (by omega) (by omega))]
theorem Zhi {p : Nat → Bool} (n f k : Nat) (h : ∀ i, k ≤ i → i < k + n → p i = false) : Zy p (n + f) k = Zy p f (k + n) := by
 induction n generalizing k with
 | zero => simp
 | succ n ih =>
  rw [show n + 1 + f = (n + f) + 1 by omega, UE (h k (Nat.le_refl _) (by omega)), ih (k + 1) (fun i h1 h2 => h i (by omega) (by omega)), show k + 1 + n = k + (n + 1) by omega]
def Yf (at_ birth level : Int) (text : ByteArray) : PtrD := { aA := at_, al := birth, av := text.size, aC := QO text, ar := level }
def PtrD.zero : PtrD := { aA := 0, al := 0, av := 0, aC := 0, ar := 0 }
def YK (at_ birth level : Int) (text : ByteArray) : Bool := inB text.size 1 128 && (Yf at_ birth level text).ok
def Q6 (at_ birth level : Int) (text : ByteArray) : PtrD := if YK at_ birth level text then Yf at_ birth level text else PtrD.zero
theorem Zbq {a b l : Int} {s : ByteArray} (h : YK a b l s = false) : Q6 a b l s = PtrD.zero := by unfold Q6; rw [h]; rfl
theorem Zad {a b l : Int} {s : ByteArray} (h : YK a b l s = true) : Q6 a b l s = Yf a b l s := by unfold Q6; rw [h]; rfl
def Uh (st : Za) (text : ByteArray) (i : Nat) : Bool := ((st.af.getD i ByteArray.empty).toList == text.toList) && decide (st.aa.ah.getD i 0 < st.ak) && decide (st.aa.ac.getD i 0 < st.ak)
def Zgm (k : Nat) : Int := if k < 64 then (k : Int) else -1
def Zax (st : Za) (text : ByteArray) : Int := Zgm (Zy (Uh st text) 56 8)
def VG (s : Zp) (i : Nat) : Bool := s.ac.getD i 0 == 0
def Ui (s : Zp) : Int := Zgm (Zy (VG s) 56 8)
theorem Zju {k : Nat} (h : k < 64) : Zgm k = k := by simp [Zgm, h]
theorem Jt {p : Nat → Bool} {k : Nat} (hk : k < 64) (hp : p k = false) {n : Nat} (h : Zy p 56 8 = n) (hn : n = Zy p (64 - k) k) : Zy p 56 8 = Zy p (64 - (k + 1)) (k + 1) := by
 rw [h, hn, show 64 - k = (64 - (k + 1)) + 1 by omega, UE hp]
theorem Zae {p : Nat → Bool} {k : Nat} (hk : k < 64) (hp : p k = true) (h : Zy p 56 8 = Zy p (64 - k) k) : Zy p 56 8 = k := by
 rw [h, show 64 - k = (63 - k) + 1 by omega, U4 hp]
theorem Zbr {p : Nat → Bool} {k : Nat} (hk : k = 64) (h : Zy p 56 8 = Zy p (64 - k) k) : Zy p 56 8 = 64 := by
 rw [h, hk]; rfl
def inL (xs : List Int) (n : Int) : Bool := xs.any (· == n)
theorem Zlu {xs : List Int} {k : Nat} {n : Int} (hk : k < xs.length) (h : (xs.getD k 0 == n) = true) : inL xs n = true := by
 unfold inL;rw [List.any_eq_true];refine ⟨xs[k], List.getElem_mem hk, ?_⟩
 simpa [List.getD, hk] using h
theorem Zlv {xs : List Int} {k : Nat} {n : Int} (hk : k < xs.length) (h : (xs.getD k 0 == n) = false) (hp : (xs.take k).any (· == n) = false) : (xs.take (k + 1)).any (· == n) = false := by
 rw [List.take_succ_eq_append_getElem hk, List.any_append, hp]
 simpa [List.getD, hk] using h
theorem Zng {xs : List Int} {k : Nat} {n : Int} (hk : ¬ k < xs.length) (hp : (xs.take k).any (· == n) = false) : inL xs n = false := by
 rw [List.take_of_length_le (by omega)] at hp; exact hp
def XA (st : Za) (text : ByteArray) (i : Nat) : Bool := decide (0 < st.aa.ac.getD i 0) && ((st.af.getD i ByteArray.empty).toList == text.toList) && decide (st.aa.ah.getD i 0 < st.ak) && decide (st.aa.ac.getD i 0 < st.ak)
def Xg (st : Za) (i : Nat) : Bool := !decide (0 < st.aa.ac.getD i 0)
def YA (st : Za) (text : ByteArray) (level : Int) : Nat := if st.ax && (level == 0) then Zy (XA st text) 64 0 else 64
def writeAt (st : Za) (text : ByteArray) (level : Int) : Nat := if YA st text level < 64 then YA st text level else Zy (Xg st) 56 8
def Za.putAt (st : Za) (i : Nat) (rows : List ByteArray) : Za := { st with af := rows, aa := { ac := st.aa.ac.set i (st.aa.ac.getD i 0 + 1), ah := st.aa.ah.set i st.ak } }
theorem U5 {p : Nat → Bool} {k : Nat} (hk : k < 64) (hp : p k = false) (h : Zy p 64 0 = Zy p (64 - k) k) : Zy p 64 0 = Zy p (64 - (k + 1)) (k + 1) := by
 rw [h, show 64 - k = (64 - (k + 1)) + 1 by omega, UE hp]
theorem Zix {p : Nat → Bool} {k : Nat} (hk : k < 64) (hp : p k = true) (h : Zy p 64 0 = Zy p (64 - k) k) : Zy p 64 0 = k := by
 rw [h, show 64 - k = (63 - k) + 1 by omega, U4 hp]
theorem Zj5 {p : Nat → Bool} {k : Nat} (hk : k = 64) (h : Zy p 64 0 = Zy p (64 - k) k) : Zy p 64 0 = 64 := by
 rw [h, hk]; rfl
end Go.Proofs.YtfhdmfcfcgbgeaaGreat
