/- A part of the proof in YtfhdmfcfcgbgeaaGreatDoorNoX33. -/
import Derived.Lib.Atoi
import Derived.Test.YtfhdmfcfcgbgeaaGreatDoorNoX12
namespace Go.Proofs.YtfhdmfcfcgbgeaaGreatDoor
open Go.Proofs.Tryz
open List (length_append mem_append mem_singleton)
set_option linter.unusedVariables false
set_option linter.unusedSimpArgs false
set_option maxHeartbeats 1000000
set_option maxRecDepth 100000
open Go.RowKit Go.Lib
theorem Zbr {d : Nat} (h : d < 10) : digitVal (UInt8.ofNat (48 + d)) = some d := by
 unfold digitVal;have : (UInt8.ofNat (48 + d)).toNat = 48 + d := by rw [UInt8.toNat_ofNat']; omega
 rw [this, if_pos (by omega)]
 congr 1; omega
theorem JG {b : UInt8} {d : Nat} (h : digitVal b = some d) : b = UInt8.ofNat (48 + d) ∧ d < 10 := by
 unfold digitVal at h
 split at h
 ·rename_i hb
  obtain rfl := Option.some.inj h;refine ⟨UInt8.toNat_inj.1 ?_, by omega⟩;rw [UInt8.toNat_ofNat']; omega
 ·cases h
theorem ZcG (a b : List UInt8) : ∀ acc, decFrom acc (a ++ b) = (decFrom acc a).bind fun n => decFrom n b := by
 induction a with
 | nil => intro acc; rfl
 | cons x t ih =>
  intro acc;show (match digitVal x with | some d => decFrom (acc * 10 + d) (t ++ b) | none => none) = (match digitVal x with | some d => decFrom (acc * 10 + d) t | none => none).bind _
  cases digitVal x with
  | none => rfl
  | some d => exact ih _
theorem Zbs {a : List UInt8} {acc n d : Nat} {b : UInt8} (h : decFrom acc a = some n) (hd : digitVal b = some d) : decFrom acc (a ++ [b]) = some (n * 10 + d) := by
 rw [ZcG, h];show (match digitVal b with | some d => decFrom (n * 10 + d) [] | none => none) = _;rw [hd]; rfl
theorem JH {a : List UInt8} {acc n : Nat} {b : UInt8} (h : decFrom acc (a ++ [b]) = some n) : ∃ m d, decFrom acc a = some m ∧ digitVal b = some d ∧ n = m * 10 + d := by
 rw [ZcG] at h
 cases h1 : decFrom acc a with
 | none => rw [h1] at h; cases h
 | some m =>
  rw [h1] at h;have h : (match digitVal b with | some d => decFrom (m * 10 + d) [] | none => none) = some n := h
  cases h2 : digitVal b with
  | none => rw [h2] at h; cases h
  | some d => rw [h2] at h; exact ⟨m, d, rfl, rfl, (Option.some.inj h).symm⟩
theorem ZfK (n : Nat) : decDigits n ≠ [] := fun h => by have := nDigits_pos n; rw [← decDigits_length, h] at this; simp at this
theorem JI (n : Nat) : decFrom 0 (decDigits n) = some n := by
 induction n using Nat.strongRecOn with
 | _ n ih =>
  by_cases h : n < 10
  ·rw [decDigits_one h]
   have := Zbs (a := []) (acc := 0) (n := 0) rfl (Zbr h)
   simpa using this
  ·rw [decDigits, dif_neg h]
   rw [Zbs (ih (n / 10) (by omega)) (Zbr (by omega))]
   congr 1; omega
theorem JJ (n : Nat) : ∀ b ∈ decDigits n, ∃ d, digitVal b = some d := by
 induction n using Nat.strongRecOn with
 | _ n ih =>
  by_cases h : n < 10
  ·rw [decDigits_one h]
   intro b hb;obtain rfl := mem_singleton.1 hb;exact ⟨_, Zbr h⟩
  ·rw [decDigits, dif_neg h]
   intro b hb;rcases mem_append.1 hb with hb | hb
   ·exact ih (n / 10) (by omega) b hb
   ·obtain rfl := mem_singleton.1 hb
    exact ⟨_, Zbr (by omega)⟩
theorem ZcH (n : Nat) (h : 10 ≤ n) : ∃ d, (decDigits n).head? = some (UInt8.ofNat (48 + d)) ∧ 1 ≤ d ∧ d < 10 := by
 induction n using Nat.strongRecOn with
 | _ n ih =>
  rw [decDigits, dif_neg (by omega)]
  by_cases h2 : n / 10 < 10
  ·rw [decDigits_one h2]
   exact ⟨n / 10, rfl, by omega, h2⟩
  ·obtain ⟨d, h3, h4⟩ := ih (n / 10) (by omega) (by omega)
   refine ⟨d, ?_, h4⟩;rw [List.head?_append, h3]; rfl
theorem Zbt : ∀ (k : Nat) (l : List UInt8) (n : Nat), l.length = k + 1 → decFrom 0 l = some n → (l.length = 1 ∨ l.head? ≠ some 48) → decDigits n = l ∧ (l.head? ≠ some 48 → 1 ≤ n)
 | 0, l, n, hl, hd, _ => by
  match l, hl with
  | [b], _ =>
   obtain ⟨m, d, h1, h2, rfl⟩ := JH (a := []) hd;obtain rfl : 0 = m := Option.some.inj h1;obtain ⟨e, hlt⟩ := JG h2;rw [Nat.zero_mul, Nat.zero_add, decDigits_one hlt, ← e];refine ⟨rfl, fun hne => ?_⟩;rcases Nat.eq_zero_or_pos d with rfl | h
   ·exact absurd (by rw [e]; rfl) hne
   ·exact h
 | k + 1, l, n, hl, hd, hc => by
  have hne : l ≠ [] := by intro e; rw [e] at hl; simp at hl
  obtain ⟨a, b, rfl⟩ : ∃ a b, l = a ++ [b] := ⟨l.dropLast, l.getLast hne, (List.dropLast_concat_getLast hne).symm⟩;have hal : a.length = k + 1 := by simpa using hl
  have hane : a ≠ [] := by intro e; rw [e] at hal; simp at hal
  have hh : (a ++ [b]).head? = a.head? := by
   cases a with
   | nil => exact absurd rfl hane
   | cons x t => rfl
  rw [hh] at hc;have hc' : a.head? ≠ some 48 := by
   rcases hc with h | h
   ·rw [length_append, hal] at h; simp at h
   ·exact h
  obtain ⟨m, d, h1, h2, rfl⟩ := JH hd;obtain ⟨i1, i2⟩ := Zbt k a m hal h1 (.inr hc');have hm := i2 hc';obtain ⟨e, hlt⟩ := JG h2;refine ⟨?_, fun _ => by omega⟩;rw [decDigits, dif_neg (by omega), show (m * 10 + d) / 10 = m by omega, show (m * 10 + d) % 10 = d by omega, i1, e]
theorem ZaJ : ∀ (k : Nat) (l : List UInt8) (n : Nat), l.length = k → decFrom 0 l = some n → n < 10 ^ k
 | 0, l, n, hl, hd => by
  obtain rfl := List.length_eq_zero_iff.1 hl;obtain rfl : 0 = n := Option.some.inj hd
  decide
 | k + 1, l, n, hl, hd => by
  have hne : l ≠ [] := by intro e; rw [e] at hl; simp at hl
  obtain ⟨a, b, rfl⟩ : ∃ a b, l = a ++ [b] := ⟨l.dropLast, l.getLast hne, (List.dropLast_concat_getLast hne).symm⟩;obtain ⟨m, d, h1, h2, rfl⟩ := JH hd;have := ZaJ k a m (by simpa using hl) h1;have := (JG h2).2;rw [Nat.pow_succ]; omega
def Q4 (s : ByteArray) : Option Nat := match decNat s.data.toList with
 | some n => if n ≤ 999999999 ∧ Zy n = s then some n else none
 | none => none
theorem Zbu {n : Nat} (h : n ≤ 999999999) : Q4 (Zy n) = some n := by
 unfold Q4;have : decNat (Zy n).data.toList = some n := by
  unfold decNat;rw [Yp, if_neg (by simp; exact ZfK n), JI]
 rw [this];exact if_pos ⟨h, rfl⟩
theorem XT {s : ByteArray} {n : Nat} (h : Q4 s = some n) : n ≤ 999999999 ∧ s = Zy n := by
 unfold Q4 at h
 cases hd : decNat s.data.toList with
 | none => rw [hd] at h; cases h
 | some m =>
  rw [hd] at h
  by_cases hc : m ≤ 999999999 ∧ Zy m = s
  ·have h : (if m ≤ 999999999 ∧ Zy m = s then some m else none) = some n := h
   rw [if_pos hc] at h;obtain rfl := Option.some.inj h;exact ⟨hc.1, hc.2.symm⟩
  ·have h : (if m ≤ 999999999 ∧ Zy m = s then some m else none) = some n := h
   rw [if_neg hc] at h; cases h
theorem ZmJ {s : ByteArray} (h : ∀ n : Nat, n ≤ 999999999 → s = Zy n → False) : Q4 s = none := by
 cases hg : Q4 s with
 | none => rfl
 | some n => exact (h n (XT hg).1 (XT hg).2).elim
theorem Uo {n : Nat} (h : n ≤ 999999999) : (Zy n).size ≤ 9 := Zab (k := 8) (by omega)
def l1S (s : ByteArray) (n k : Nat) : Prop :=
 (k ≤ 9 ∧ k ≤ s.size ∧ decFrom 0 (s.data.toList.take k) = some n ∧ (k = s.size ∨ k = 9 ∨ ∃ b, s.data.toList[k]? = some b ∧ digitVal b = none) ∧ ¬ (1 < k ∧ s.data.toList.head? = some 48)) ∨
 (n = 0 ∧ k = 1 ∧ s.data.toList.head? = some 48 ∧ ∃ b d, s.data.toList[1]? = some b ∧ digitVal b = some d)
theorem ZiW {s : ByteArray} {n k : Nat} (h : l1S s n k) (h0 : k ≠ 0) (hk : k = s.size) : Q4 s = some n := by
 have hz := Zi s;rcases h with ⟨h1, h2, h3, h4, h5⟩ | ⟨rfl, rfl, h3, b, d, h4, h5⟩
 ·rw [List.take_of_length_le (by omega)] at h3
  have hc := (Zbt (s.size - 1) s.data.toList n (by omega) h3 (by
   by_cases h : s.data.toList.length = 1
   ·exact .inl h
   ·exact .inr fun e => h5 ⟨by omega, e⟩)).1
  have hlt := ZaJ s.size s.data.toList n (by omega) h3;have : n < 10 ^ 9 := Nat.lt_of_lt_of_le hlt (Nat.pow_le_pow_right (by omega) (by omega));have hs : s = Zy n := YA (by rw [Yp, hc]);rw [hs]; exact Zbu (by omega)
 ·rw [List.getElem?_eq_none (by omega)] at h4; cases h4
theorem Zlc {s : ByteArray} {n k : Nat} (h : l1S s n k) (hk : k = 0 ∨ k ≠ s.size) : Q4 s = none := by
 have hz := Zi s;refine ZmJ fun m hm hs => ?_;have h9 := Uo hm;have hp := Zdj m;have hall := JJ m;rw [← Yp, ← hs] at hall;rw [← hs] at h9 hp;rcases h with ⟨h1, h2, h3, h4, h5⟩ | ⟨rfl, rfl, h3, b, d, h4, h5⟩
 ·rcases h4 with h4 | h4 | ⟨b, h4, h6⟩
  ·omega
  ·omega
  ·obtain ⟨d, hd⟩ := hall b (List.mem_of_getElem? h4)
   rw [h6] at hd; cases hd
 ·have h10 : 10 ≤ m := by
   rcases Nat.lt_or_ge m 10 with hlt | hge
   ·have hl := Yp m
    rw [← hs, decDigits_one hlt] at hl;rw [hl] at h4; cases h4
   ·exact hge
  obtain ⟨d', hd, h7, h8⟩ := ZcH m h10;rw [← Yp, ← hs, h3] at hd;have := congrArg UInt8.toNat (Option.some.inj hd);rw [UInt8.toNat_ofNat'] at this;have h48 : (48 : UInt8).toNat = 48 := rfl
  omega
open Go.RowKit
theorem Zdr (s : ByteArray) (w0 : World) (hs : s.size ≤ 9223372036854775806) : Calls prog 99 #[.string s] w0 fun e w' => e = .returned (.int .i64 (Uu s)) ∧ Below w0.heap.size w0 w' := by
 have E := Bx.mk (St.start w0);refine ent func99 ntmps99 ?_;refine xsr<|xr 1 rfl<|xne<|xsr<|xr 1 rfl<|xne<|xsr<|xr 1 rfl<|xne<|xsq<|xsr<|xr 1 rfl<|xne<|xbl ?_;intro a J;refine Zt (ι := Nat) (fun k a w => (k ≤ s.size) ∧ Fr 28 a [(0, .string s), (3, .int .i64 ((Zb6 s k).1)), (4, .int .i64 ((Zb6 s k).2)), (5, .int .i64 (k : Int))] ∧ St w0 ([]) w) (fun k => s.size - k) 0 ⟨(Nat.zero_le _), J.ls _, E.o⟩ ?_;clear J E; clear a;rintro k a w1 ⟨hk, J, E⟩;replace E := Bx.mk E;have hb := ZiT s k;have hbyte := ZiU s k;revert a;refine xsq<|xsr<|xr 2 rfl<|xy rfl (fun a J=>ZO rfl (J.ev rfl) (by kernel_rfl))<|xr 1 rfl<|xne<|xcs 9 rfl (fun cc1=>?_) fun cc1=>?_
 have cc1 := of_decide_eq_true cc1;refine xct rfl<|xsk<|xet<|xsq<|xbl<|xsr<|xr 3 rfl<|xy rfl (fun a J=>YH (i := k) rfl (J.ev rfl) (J.ev rfl) (by kernel_rfl) rfl (by omega))<|xy rfl (fun a J=>Ur rfl (J.ev rfl) (ZiU _ _) (by kernel_rfl) (by kernel_rfl))<|xy rfl (vad rfl)<|xy rfl (vad rfl)<|xy rfl (fun a J=>QB rfl (J.ev rfl) (J.ev rfl) (by omega) (QE (by omega) (by omega)))<|xr 1 rfl<|xne<|xrl<|xr 2 rfl<|xy rfl (vad rfl)<|xy rfl (fun a J=>QB rfl (J.ev rfl) (J.ev rfl) (by omega) (QE (by omega) (by omega)))<|xr 1 rfl<|xni<|xeb<|xet<|xrl<|xr 1 rfl<|xy rfl (vad rfl)<|xr 1 rfl<|xne ?_;intro a J;exact ⟨k + 1, ⟨(by omega), J.less _ ⟨rfl, rfl, rfl, rfl, trivial⟩, E.o⟩, (by omega)⟩;have cc1 := of_decide_eq_false cc1;obtain rfl : k = s.size := by omega
 refine xcf rfl<|xex<|xtx<|xtx<|xbh<|xet<|xsr<|xr 1 rfl<|xy rfl (fun a J=>YY rfl (J.ev rfl) (J.ev rfl) (Yd (by omega)))<|xr 1 rfl<|xy rfl (vad rfl)<|xr 1 rfl<|xne<|xre<|xb1 results99 rfl ?_;exact ⟨rfl, E.o.bel⟩
theorem ZgG (s : ByteArray) (w0 : World) (hs : s.size ≤ 9223372036854775806) : Calls prog 98 #[.string s] w0 fun e w' => e = .returned (.bool (inB (s.size : Int) 1 128)) ∧ Below w0.heap.size w0 w' := by
 have E := Bx.mk (St.start w0);refine ent func98 ntmps98 ?_;refine xsr<|xr 1 rfl<|xne<|xsr<|xr 1 rfl<|xy rfl (fun a J=>ZO rfl (J.ev rfl) (by kernel_rfl)) ?_;refine ycB ((Z7 (s.size : Int) 1 128 _).mono fun _ _ h => ⟨h.1, h.2 ▸ Below.refl _ _⟩) func25 E ?_;clear E;intro w1 E;refine xr 1 rfl<|xne<|xre<|xb1 results98 rfl ?_;exact ⟨rfl, E.o.bel⟩
theorem Qg (at_ birth level : Int) (s : ByteArray) (w0 : World) (hs : s.size ≤ 9223372036854775806) : Calls prog 72 #[.int .i64 at_, .int .i64 birth, .int .i64 level, .string s] w0 fun e w' => e = .returned (.tuple #[pV (Y0 at_ birth level s), .bool (Xu at_ birth level s)]) ∧ Below w0.heap.size w0 w' := by
 have E := Bx.mk (St.start w0);refine ent func72 ntmps72 ?_;refine xsr ?_;refine yal z5 E ?_;clear E;intro w1 b1 E;refine xr 1 rfl<|xne<|xsr<|xr 3 rfl<|xy rfl (fun a J=>ZO rfl (J.ev rfl) (by kernel_rfl))<|xr 1 rfl<|xy rfl (vb [.int .i64 at_, .int .i64 birth, .int .i64 (s.size : Int), .int .i64 0, .int .i64 level] rfl) ?_;refine yal z5 E ?_;clear E;intro w2 b2 E;refine yst E 0 ?_;clear E;intro w3 E;replace E:=E.nm;refine xne<|xsq<|xsr<|xr 1 rfl ?_;refine ycB (ZgG s _ (by omega)) func98 E ?_;clear E;intro w4 E;refine xr 1 rfl<|xne<|xcs 19 rfl (fun cc1=>?_) fun cc1=>?_;intro a J
 -- !(inB (s.size : Int) 1 128)
 revert a;refine xct rfl<|xsr<|xy rfl (vb z5 rfl) ?_;refine yst E 1 ?_;clear E;intro w5 E;replace E:=E.nm;refine xr 1 rfl<|xne<|xre<|xtr ?_;intro a J;refine Z1 J results72 (J.resBox rfl (E.o.box 1 rfl) (by kernel_rfl)) (J.res rfl) ?_;have cc1 := (Bool.not_eq_eq_eq_not.1 cc1);have hk : Xu at_ birth level s = false := by
   unfold Xu YN;rw [cc1]; rfl
 refine ⟨?_, E.o.bel⟩;rw [ZgC hk, hk]; rfl;intro a J
 -- !(inB (s.size : Int) 1 128)
 revert a;refine xcf rfl<|xsk<|xet<|xsr<|xr 1 rfl ?_;refine ycB (Zdr s _ (by omega)) func99 E ?_;clear E;intro w6 E;refine Xf 3 rfl ?_;refine ysF 0 E ?_;clear E;intro w7 E;replace E:=E.nm;refine xne<|xsq<|xsr<|Xw 0 5 E rfl rfl ?_;refine ycB (ZM ({ aB := at_, al := birth, am := (s.size : Int), aC := Uu s, ar := level } : PtrD) _) func24 E ?_;clear E;intro w8 E;refine xr 1 rfl<|xne<|xcs 26 rfl (fun cc2=>?_) fun cc2=>?_;intro a J
 -- !(({ aB := at_, al := birth, am := (s.size : Int), aC := Uu s, ar := level } : PtrD).ok)
 revert a;refine xct rfl<|xsr<|xy rfl (vb z5 rfl) ?_;refine yst E 1 ?_;clear E;intro w9 E;replace E:=E.nm;refine xr 1 rfl<|xne<|xre<|xtr ?_;intro a J;refine Z1 J results72 (J.resBox rfl (E.o.box 1 rfl) (by kernel_rfl)) (J.res rfl) ?_;have cc1 := (Bool.not_eq_eq_eq_not.1 cc1);have cc2 := (Bool.not_eq_eq_eq_not.1 cc2);have hk : Xu at_ birth level s = false := by
   unfold Xu YN;rw [cc1, cc2]; rfl
 refine ⟨?_, E.o.bel⟩;rw [ZgC hk, hk]; rfl;intro a J
 -- !(({ aB := at_, al := birth, am := (s.size : Int), aC := Uu s, ar := level } : PtrD).ok)
 revert a;refine xcf rfl<|xsk<|xet<|xsr<|Xw 0 5 E rfl rfl ?_;refine yst E 1 ?_;clear E;intro w10 E;replace E:=E.nm;refine xr 1 rfl<|xne<|xre ?_;intro a J;refine Z1 J results72 (J.resBox rfl (E.o.box 1 rfl) (by kernel_rfl)) (J.res rfl) ?_;have cc1 := (Bool.not_eq_eq_eq_not.1 cc1);have cc2 := (Bool.not_eq_eq_eq_not.1 cc2);have hk : Xu at_ birth level s = true := by
   unfold Xu YN;rw [cc1, cc2]; rfl
 refine ⟨?_, E.o.bel⟩;rw [ZeL hk, hk]; rfl
end Go.Proofs.YtfhdmfcfcgbgeaaGreatDoor
