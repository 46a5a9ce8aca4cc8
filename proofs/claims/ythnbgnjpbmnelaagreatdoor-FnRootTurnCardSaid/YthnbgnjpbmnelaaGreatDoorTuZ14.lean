/- A part of the proof in YthnbgnjpbmnelaaGreatDoorTuZ31. -/
import Derived.Lib.Atoi
import Derived.Test.YthnbgnjpbmnelaaGreatDoorTuZ13
/- Numbers read from texts: plain. -/
namespace Go.Proofs.YthnbgnjpbmnelaaGreatDoor
set_option linter.unusedVariables false
set_option linter.unusedSimpArgs false
set_option maxHeartbeats 1000000
set_option maxRecDepth 100000
open Go.RowKit Go.Lib

theorem JZ {d : Nat} (h : d < 10) : digitVal (UInt8.ofNat (48 + d)) = some d := by
  unfold digitVal;have : (UInt8.ofNat (48 + d)).toNat = 48 + d := by rw [UInt8.toNat_ofNat']; omega
  rw [this, if_pos (by omega)]
  congr 1; omega
theorem Jv {b : UInt8} {d : Nat} (h : digitVal b = some d) : b = UInt8.ofNat (48 + d) ∧ d < 10 := by
  unfold digitVal at h
  split at h
  · rename_i hb
    obtain rfl := Option.some.inj h;refine ⟨UInt8.toNat_inj.1 ?_, by omega⟩;rw [UInt8.toNat_ofNat']; omega
  · cases h
theorem ZaD (a b : List UInt8) : ∀ acc, decFrom acc (a ++ b) = (decFrom acc a).bind fun n => decFrom n b := by
  induction a with
  | nil => intro acc; rfl
  | cons x t ih =>
    intro acc;show (match digitVal x with | some d => decFrom (acc * 10 + d) (t ++ b) | none => none) = (match digitVal x with | some d => decFrom (acc * 10 + d) t | none => none).bind _
    cases digitVal x with
    | none => rfl
    | some d => exact ih _
theorem J0 {a : List UInt8} {acc n d : Nat} {b : UInt8} (h : decFrom acc a = some n) (hd : digitVal b = some d) : decFrom acc (a ++ [b]) = some (n * 10 + d) := by
  rw [ZaD, h];show (match digitVal b with | some d => decFrom (n * 10 + d) [] | none => none) = _;rw [hd]; rfl
theorem J1 (n : Nat) : decDigits n ≠ [] := fun h => by have := nDigits_pos n; rw [← decDigits_length, h] at this; simp at this
theorem Xt (n : Nat) : decFrom 0 (decDigits n) = some n := by
  induction n using Nat.strongRecOn with
  | _ n ih =>
    by_cases h : n < 10
    · rw [decDigits_one h]
      have := J0 (a := []) (acc := 0) (n := 0) rfl (JZ h)
      simpa using this
    · rw [decDigits, dif_neg h]
      rw [J0 (ih (n / 10) (by omega)) (JZ (by omega))]
      congr 1; omega
theorem Jw (n : Nat) : ∀ b ∈ decDigits n, ∃ d, digitVal b = some d := by
  induction n using Nat.strongRecOn with
  | _ n ih =>
    by_cases h : n < 10
    · rw [decDigits_one h]
      intro b hb;obtain rfl := List.mem_singleton.1 hb;exact ⟨_, JZ h⟩
    · rw [decDigits, dif_neg h]
      intro b hb;rcases List.mem_append.1 hb with hb | hb
      · exact ih (n / 10) (by omega) b hb
      · obtain rfl := List.mem_singleton.1 hb
        exact ⟨_, JZ (by omega)⟩
/-- The number that a number text is of. -/
def Jy (s : ByteArray) : Option Nat := match decNat s.data.toList with
  | some n => if n ≤ 999999999 ∧ ZO n = s then some n else none
  | none => none
theorem U5 {n : Nat} (h : n ≤ 999999999) : Jy (ZO n) = some n := by
  unfold Jy;have : decNat (ZO n).data.toList = some n := by
    unfold decNat;rw [Y3, if_neg (by simp; exact J1 n), Xt]
  rw [this];exact if_pos ⟨h, rfl⟩
theorem Q4 {s : ByteArray} {n : Nat} (h : Jy s = some n) : n ≤ 999999999 ∧ s = ZO n := by
  unfold Jy at h
  cases hd : decNat s.data.toList with
  | none => rw [hd] at h; cases h
  | some m =>
    rw [hd] at h
    by_cases hc : m ≤ 999999999 ∧ ZO m = s
    · have h : (if m ≤ 999999999 ∧ ZO m = s then some m else none) = some n := h
      rw [if_pos hc] at h;obtain rfl := Option.some.inj h;exact ⟨hc.1, hc.2.symm⟩
    · have h : (if m ≤ 999999999 ∧ ZO m = s then some m else none) = some n := h
      rw [if_neg hc] at h; cases h
/-- The program's reading. -/
theorem ZaE (n : Nat) : atoi (ZO n).data.toList = some (n : Int) := by
  rw [Y3]
  cases hl : decDigits n with
  | nil => exact absurd hl (J1 n)
  | cons b t =>
    obtain ⟨d, hd⟩ := Jw n b (by rw [hl]; exact List.mem_cons_self ..);obtain ⟨e, hlt⟩ := Jv hd;have h45 : (b == 45) = false := by
      rw [beq_eq_false_iff_ne]; intro e2;have := congrArg UInt8.toNat (e.symm.trans e2);rw [UInt8.toNat_ofNat'] at this;have h : (45 : UInt8).toNat = 45 := rfl
      omega
    have h43 : (b == 43) = false := by
      rw [beq_eq_false_iff_ne]; intro e2;have := congrArg UInt8.toNat (e.symm.trans e2);rw [UInt8.toNat_ofNat'] at this;have h : (43 : UInt8).toNat = 43 := rfl
      omega
    have hdn : decNat (b :: t) = some n := by
      unfold decNat;rw [if_neg (by simp), ← hl, Xt]
    have hm : atoi (b :: t) = (decNat (b :: t)).map fun (m : Nat) => (m : Int) := by unfold atoi; simp [h45, h43]
    rw [hm, hdn]; rfl
theorem Zdh {s : ByteArray} {n : Int} (h : atoi s.data.toList = some n) (hb : (ZD n) = s) : ∃ m : Nat, n = m ∧ Jy s = some m := by
  by_cases hr : 0 ≤ n ∧ n ≤ 999999999
  · refine ⟨n.toNat, by omega, ?_⟩
    rw [← hb, Y6 hr.1 hr.2]; exact U5 (by omega)
  · rw [U0 hr] at hb
    rw [← hb] at h; cases h
theorem V8 {s : ByteArray} (h : ∀ n : Nat, n ≤ 999999999 → s = ZO n → False) : Jy s = none := by
  cases hg : Jy s with
  | none => rfl
  | some n => exact (h n (Q4 hg).1 (Q4 hg).2).elim
theorem U6 {n : Nat} (h : n ≤ 999999999) : (ZO n).size ≤ 9 := JY (k := 8) (by omega)
end Go.Proofs.YthnbgnjpbmnelaaGreatDoor
