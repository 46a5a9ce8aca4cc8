/- A part of the proof in YthnbgnjpbmnelaaGreatDoorTqX34. -/
import Derived.Lib.Atoi
import Derived.Test.YthnbgnjpbmnelaaGreatDoorTqX13
namespace Go.Proofs.YthnbgnjpbmnelaaGreatDoor
open List (length_append mem_append mem_cons_self mem_singleton)
set_option linter.unusedVariables false
set_option linter.unusedSimpArgs false
set_option maxHeartbeats 1000000
set_option maxRecDepth 100000
open Go.RowKit Go.Lib
theorem Zbn {d : Nat} (h : d < 10) : digitVal (UInt8.ofNat (48 + d)) = some d := by
 unfold digitVal;have : (UInt8.ofNat (48 + d)).toNat = 48 + d := by rw [UInt8.toNat_ofNat']; omega
 rw [this, if_pos (by omega)]
 congr 1; omega
theorem QP {b : UInt8} {d : Nat} (h : digitVal b = some d) : b = UInt8.ofNat (48 + d) ∧ d < 10 := by
 unfold digitVal at h
 split at h
 ·rename_i hb
  obtain rfl := Option.some.inj h;refine ⟨UInt8.toNat_inj.1 ?_, by omega⟩;rw [UInt8.toNat_ofNat']; omega
 ·cases h
theorem ZcI (a b : List UInt8) : ∀ acc, decFrom acc (a ++ b) = (decFrom acc a).bind fun n => decFrom n b := by
 induction a with
 | nil => intro acc; rfl
 | cons x t ih =>
  intro acc;show (match digitVal x with | some d => decFrom (acc * 10 + d) (t ++ b) | none => none) = (match digitVal x with | some d => decFrom (acc * 10 + d) t | none => none).bind _
  cases digitVal x with
  | none => rfl
  | some d => exact ih _
theorem Zbo {a : List UInt8} {acc n d : Nat} {b : UInt8} (h : decFrom acc a = some n) (hd : digitVal b = some d) : decFrom acc (a ++ [b]) = some (n * 10 + d) := by
 rw [ZcI, h];show (match digitVal b with | some d => decFrom (n * 10 + d) [] | none => none) = _;rw [hd]; rfl
theorem JC {a : List UInt8} {acc n : Nat} {b : UInt8} (h : decFrom acc (a ++ [b]) = some n) : ∃ m d, decFrom acc a = some m ∧ digitVal b = some d ∧ n = m * 10 + d := by
 rw [ZcI] at h
 cases h1 : decFrom acc a with
 | none => rw [h1] at h; cases h
 | some m =>
  rw [h1] at h;have h : (match digitVal b with | some d => decFrom (m * 10 + d) [] | none => none) = some n := h
  cases h2 : digitVal b with
  | none => rw [h2] at h; cases h
  | some d => rw [h2] at h; exact ⟨m, d, rfl, rfl, (Option.some.inj h).symm⟩
theorem Zbp (n : Nat) : decDigits n ≠ [] := fun h => by have := nDigits_pos n; rw [← decDigits_length, h] at this; simp at this
theorem QA (n : Nat) : decFrom 0 (decDigits n) = some n := by
 induction n using Nat.strongRecOn with
 | _ n ih =>
  by_cases h : n < 10
  ·rw [decDigits_one h]
   have := Zbo (a := []) (acc := 0) (n := 0) rfl (Zbn h)
   simpa using this
  ·rw [decDigits, dif_neg h]
   rw [Zbo (ih (n / 10) (by omega)) (Zbn (by omega))]
   congr 1; omega
theorem QQ (n : Nat) : ∀ b ∈ decDigits n, ∃ d, digitVal b = some d := by
 induction n using Nat.strongRecOn with
 | _ n ih =>
  by_cases h : n < 10
  ·rw [decDigits_one h]
   intro b hb;obtain rfl := mem_singleton.1 hb;exact ⟨_, Zbn h⟩
  ·rw [decDigits, dif_neg h]
   intro b hb;rcases mem_append.1 hb with hb | hb
   ·exact ih (n / 10) (by omega) b hb
   ·obtain rfl := mem_singleton.1 hb
    exact ⟨_, Zbn (by omega)⟩
theorem ZcJ (n : Nat) (h : 10 ≤ n) : ∃ d, (decDigits n).head? = some (UInt8.ofNat (48 + d)) ∧ 1 ≤ d ∧ d < 10 := by
 induction n using Nat.strongRecOn with
 | _ n ih =>
  rw [decDigits, dif_neg (by omega)]
  by_cases h2 : n / 10 < 10
  ·rw [decDigits_one h2]
   exact ⟨n / 10, rfl, by omega, h2⟩
  ·obtain ⟨d, h3, h4⟩ := ih (n / 10) (by omega) (by omega)
   refine ⟨d, ?_, h4⟩;rw [List.head?_append, h3]; rfl
theorem Zbq : ∀ (k : Nat) (l : List UInt8) (n : Nat), l.length = k + 1 → decFrom 0 l = some n → (l.length = 1 ∨ l.head? ≠ some 48) → decDigits n = l ∧ (l.head? ≠ some 48 → 1 ≤ n)
 | 0, l, n, hl, hd, _ => by
  match l, hl with
  | [b], _ =>
   obtain ⟨m, d, h1, h2, rfl⟩ := JC (a := []) hd;obtain rfl : 0 = m := Option.some.inj h1;obtain ⟨e, hlt⟩ := QP h2;rw [Nat.zero_mul, Nat.zero_add, decDigits_one hlt, ← e];refine ⟨rfl, fun hne => ?_⟩;rcases Nat.eq_zero_or_pos d with rfl | h
   ·exact absurd (by rw [e]; rfl) hne
   ·exact h
 | k + 1, l, n, hl, hd, hc => by
  have hne : l ≠ [] := by intro e; rw [e] at hl; simp at hl
  obtain ⟨a, b, rfl⟩ : ∃ a b, l = a ++ [b] := ⟨l.dropLast, l.getLast hne, (List.dropLast_concat_getLast hne).symm⟩;have hal : a.length = k + 1 := by simpa using hl
  have hane : a ≠ [] := by intro e; rw [e] at hal; simp at hal
  have hh : (a ++ [b]).head? = a.head? := by
   cases a with
   | nil => exact absurd rfl hane
   | cons x t => rfl
  rw [hh] at hc;have hc' : a.head? ≠ some 48 := by
   rcases hc with h | h
   ·rw [length_append, hal] at h; simp at h
   ·exact h
  obtain ⟨m, d, h1, h2, rfl⟩ := JC hd;obtain ⟨i1, i2⟩ := Zbq k a m hal h1 (.inr hc');have hm := i2 hc';obtain ⟨e, hlt⟩ := QP h2;refine ⟨?_, fun _ => by omega⟩;rw [decDigits, dif_neg (by omega), show (m * 10 + d) / 10 = m by omega, show (m * 10 + d) % 10 = d by omega, i1, e]
theorem ZaI : ∀ (k : Nat) (l : List UInt8) (n : Nat), l.length = k → decFrom 0 l = some n → n < 10 ^ k
 | 0, l, n, hl, hd => by
  obtain rfl := List.length_eq_zero_iff.1 hl;obtain rfl : 0 = n := Option.some.inj hd
  decide
 | k + 1, l, n, hl, hd => by
  have hne : l ≠ [] := by intro e; rw [e] at hl; simp at hl
  obtain ⟨a, b, rfl⟩ : ∃ a b, l = a ++ [b] := ⟨l.dropLast, l.getLast hne, (List.dropLast_concat_getLast hne).symm⟩;obtain ⟨m, d, h1, h2, rfl⟩ := JC hd;have := ZaI k a m (by simpa using hl) h1;have := (QP h2).2;rw [Nat.pow_succ]; omega
def QB (s : ByteArray) : Option Nat := match decNat s.data.toList with
 | some n => if n ≤ 999999999 ∧ Zw n = s then some n else none
 | none => none
theorem Vu {n : Nat} (h : n ≤ 999999999) : QB (Zw n) = some n := by
 unfold QB;have : decNat (Zw n).data.toList = some n := by
  unfold decNat;rw [Yd, if_neg (by simp; exact Zbp n), QA]
 rw [this];exact if_pos ⟨h, rfl⟩
theorem XR {s : ByteArray} {n : Nat} (h : QB s = some n) : n ≤ 999999999 ∧ s = Zw n := by
 unfold QB at h
 cases hd : decNat s.data.toList with
 | none => rw [hd] at h; cases h
 | some m =>
  rw [hd] at h
  by_cases hc : m ≤ 999999999 ∧ Zw m = s
  ·have h : (if m ≤ 999999999 ∧ Zw m = s then some m else none) = some n := h
   rw [if_pos hc] at h;obtain rfl := Option.some.inj h;exact ⟨hc.1, hc.2.symm⟩
  ·have h : (if m ≤ 999999999 ∧ Zw m = s then some m else none) = some n := h
   rw [if_neg hc] at h; cases h
theorem ZgU (n : Nat) : atoi (Zw n).data.toList = some (n : Int) := by
 rw [Yd]
 cases hl : decDigits n with
 | nil => exact absurd hl (Zbp n)
 | cons b t =>
  obtain ⟨d, hd⟩ := QQ n b (by rw [hl]; exact mem_cons_self ..);obtain ⟨e, hlt⟩ := QP hd;have h45 : (b == 45) = false := by
   rw [beq_eq_false_iff_ne]; intro e2;have := congrArg UInt8.toNat (e.symm.trans e2);rw [UInt8.toNat_ofNat'] at this;have h : (45 : UInt8).toNat = 45 := rfl
   omega
  have h43 : (b == 43) = false := by
   rw [beq_eq_false_iff_ne]; intro e2;have := congrArg UInt8.toNat (e.symm.trans e2);rw [UInt8.toNat_ofNat'] at this;have h : (43 : UInt8).toNat = 43 := rfl
   omega
  have hdn : decNat (b :: t) = some n := by
   unfold decNat;rw [if_neg (by simp), ← hl, QA]
  have hm : atoi (b :: t) = (decNat (b :: t)).map fun (m : Nat) => (m : Int) := by unfold atoi; simp [h45, h43]
  rw [hm, hdn]; rfl
theorem ZlA {s : ByteArray} {n : Int} (h : atoi s.data.toList = some n) (hb : (ZF n) = s) : ∃ m : Nat, n = m ∧ QB s = some m := by
 by_cases hr : 0 ≤ n ∧ n ≤ 999999999
 ·refine ⟨n.toNat, by omega, ?_⟩
  rw [← hb, YH hr.1 hr.2]; exact Vu (by omega)
 ·rw [Zdp hr] at hb
  rw [← hb] at h; cases h
theorem Zda {s : ByteArray} (h : ∀ n : Nat, n ≤ 999999999 → s = Zw n → False) : QB s = none := by
 cases hg : QB s with
 | none => rfl
 | some n => exact (h n (XR hg).1 (XR hg).2).elim
theorem JD {n : Nat} (h : n ≤ 999999999) : (Zw n).size ≤ 9 := V6 (k := 8) (by omega)
def l1S (s : ByteArray) (n k : Nat) : Prop :=
 (k ≤ 9 ∧ k ≤ s.size ∧ decFrom 0 (s.data.toList.take k) = some n ∧ (k = s.size ∨ k = 9 ∨ ∃ b, s.data.toList[k]? = some b ∧ digitVal b = none) ∧ ¬ (1 < k ∧ s.data.toList.head? = some 48)) ∨
 (n = 0 ∧ k = 1 ∧ s.data.toList.head? = some 48 ∧ ∃ b d, s.data.toList[1]? = some b ∧ digitVal b = some d)
theorem Zji {s : ByteArray} {n k : Nat} (h : l1S s n k) (h0 : k ≠ 0) (hk : k = s.size) : QB s = some n := by
 have hz := Zf s;rcases h with ⟨h1, h2, h3, h4, h5⟩ | ⟨rfl, rfl, h3, b, d, h4, h5⟩
 ·rw [List.take_of_length_le (by omega)] at h3
  have hc := (Zbq (s.size - 1) s.data.toList n (by omega) h3 (by
   by_cases h : s.data.toList.length = 1
   ·exact .inl h
   ·exact .inr fun e => h5 ⟨by omega, e⟩)).1
  have hlt := ZaI s.size s.data.toList n (by omega) h3;have : n < 10 ^ 9 := Nat.lt_of_lt_of_le hlt (Nat.pow_le_pow_right (by omega) (by omega));have hs : s = Zw n := Yo (by rw [Yd, hc]);rw [hs]; exact Vu (by omega)
 ·rw [List.getElem?_eq_none (by omega)] at h4; cases h4
theorem ZlB {s : ByteArray} {n k : Nat} (h : l1S s n k) (hk : k = 0 ∨ k ≠ s.size) : QB s = none := by
 have hz := Zf s;refine Zda fun m hm hs => ?_;have h9 := JD hm;have hp := Zdn m;have hall := QQ m;rw [← Yd, ← hs] at hall;rw [← hs] at h9 hp;rcases h with ⟨h1, h2, h3, h4, h5⟩ | ⟨rfl, rfl, h3, b, d, h4, h5⟩
 ·rcases h4 with h4 | h4 | ⟨b, h4, h6⟩
  ·omega
  ·omega
  ·obtain ⟨d, hd⟩ := hall b (List.mem_of_getElem? h4)
   rw [h6] at hd; cases hd
 ·have h10 : 10 ≤ m := by
   rcases Nat.lt_or_ge m 10 with hlt | hge
   ·have hl := Yd m
    rw [← hs, decDigits_one hlt] at hl;rw [hl] at h4; cases h4
   ·exact hge
  obtain ⟨d', hd, h7, h8⟩ := ZcJ m h10;rw [← Yd, ← hs, h3] at hd;have := congrArg UInt8.toNat (Option.some.inj hd);rw [UInt8.toNat_ofNat'] at this;have h48 : (48 : UInt8).toNat = 48 := rfl
  omega
end Go.Proofs.YthnbgnjpbmnelaaGreatDoor
