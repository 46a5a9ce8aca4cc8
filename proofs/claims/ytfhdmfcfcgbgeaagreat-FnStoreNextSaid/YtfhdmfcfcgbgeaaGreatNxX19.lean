/- A part of the proof in YtfhdmfcfcgbgeaaGreatNxX30. -/
import Derived.Lib.IndexMore
import Derived.Test.YtfhdmfcfcgbgeaaGreatNxX18
namespace Go.Proofs.YtfhdmfcfcgbgeaaGreat
open _root_.ByteArray (size_extract)
open List (cons_append length_append length_cons)
set_option linter.unusedVariables false
set_option linter.unusedSimpArgs false
set_option maxHeartbeats 1000000
set_option maxRecDepth 100000
open Go.RowKit Go.Lib
theorem ZjY (l : List ByteArray) : ∀ a : ByteArray, l.foldl (fun a s => a ++ ZA s.size ++ Zdu ++ s) a = a ++ Yc l := by
 induction l with
 | nil => exact fun a => Yw (by rw [Z3]; simp [Yc])
 | cons y ys ih =>
  intro a;have h1 := ih (a ++ ZA y.size ++ Zdu ++ y);have h2 := ih (ByteArray.empty ++ ZA y.size ++ Zdu ++ y);unfold Yc;rw [List.foldl_cons, List.foldl_cons, h1, h2];exact Yw (by simp only [Z3, List.append_assoc]; simp)
theorem Xa (y : ByteArray) (ys : List ByteArray) : (Yc (y :: ys)).data.toList = (ZA y.size).data.toList ++ 58 :: (y.data.toList ++ (Yc ys).data.toList) := by
 have h := ZjY ys (ByteArray.empty ++ ZA y.size ++ Zdu ++ y);have e : Yc (y :: ys) = ByteArray.empty ++ ZA y.size ++ Zdu ++ y ++ Yc ys := h;rw [e];simp only [Z3, List.append_assoc];simp [Zdu]
theorem Uw : Yc [] = ByteArray.empty := rfl
theorem Zlr (xs ys : List ByteArray) : (Yc (xs ++ ys)).data.toList = (Yc xs).data.toList ++ (Yc ys).data.toList := by
 induction xs with
 | nil => simp [Uw]
 | cons x xs ih => rw [cons_append, Xa, Xa, ih]; simp
theorem ZdB (n : Nat) : (58 : UInt8) ∉ (ZA n).data.toList := by
 intro hx;rw [Yf] at hx;obtain ⟨d, hd⟩ := Jz n 58 hx;obtain ⟨h1, h10⟩ := Jw hd;have hn : (UInt8.ofNat (48 + d)).toNat = 48 + d := by rw [UInt8.toNat_ofNat']; omega
 rw [← h1] at hn;have : (58 : UInt8).toNat = 58 := rfl
 omega
theorem ZnU {a b c d : List UInt8} (ha : (58 : UInt8) ∉ a) (hc : (58 : UInt8) ∉ c) (h : a ++ 58 :: b = c ++ 58 :: d) : a = c ∧ b = d := by
 induction a generalizing c with
 | nil =>
  cases c with
  | nil => simpa using h
  | cons x c => simp at h; exact absurd (by simp [h.1]) hc
 | cons x a ih =>
  cases c with
  | nil => simp at h; exact absurd (by simp [h.1]) ha
  | cons y c =>
   simp only [cons_append, List.cons.injEq] at h;obtain ⟨h1, h2⟩ := ih (fun hm => ha (by simp [hm])) (fun hm => hc (by simp [hm])) h.2;exact ⟨by rw [h.1, h1], h2⟩
theorem Zg2 {m n : Nat} (h : ZA m = ZA n) : m = n := by
 have h1 := Jy m;have h2 := Jy n;rw [← Yf, h, Yf] at h1;exact Option.some.inj (h1.symm.trans h2)
theorem Zg3 {y : ByteArray} {ys : List ByteArray} {d t : List UInt8} (h : (Yc (y :: ys)).data.toList = d ++ 58 :: t) (hd : (58 : UInt8) ∉ d) : d = (ZA y.size).data.toList ∧ t = y.data.toList ++ (Yc ys).data.toList := by
 rw [Xa] at h;have := ZnU (ZdB _) hd h;exact ⟨this.1.symm, this.2.symm⟩
theorem Zf2 (y : ByteArray) (ys : List ByteArray) : (Yc (y :: ys)).data.toList ≠ [] := by rw [Xa]; simp
theorem Vx {xs ys : List ByteArray} (h : Yc xs = Yc ys) : xs = ys := by
 induction xs generalizing ys with
 | nil =>
  cases ys with
  | nil => rfl
  | cons y ys => exact absurd (by rw [← h]; rfl) (Zf2 y ys)
 | cons x xs ih =>
  cases ys with
  | nil => exact absurd (by rw [h]; rfl) (Zf2 x xs)
  | cons y ys =>
   have h1 := Zg3 (y := x) (ys := xs) (d := (ZA y.size).data.toList) (t := y.data.toList ++ (Yc ys).data.toList) (by rw [h, Xa]) (ZdB _);have hz : x.size = y.size := Zg2 (Yw h1.1.symm);have h2 := h1.2;have hl : y.data.toList.length = x.data.toList.length := by rw [← Zi, ← Zi, hz]
   have h3 := List.append_inj h2 hl;rw [Yw h3.1, ih (Yw h3.2.symm)]
structure IsRec (s : ByteArray) (l : List ByteArray) : Prop where
  is : Yc l = s
  many : l.length ≤ 60
theorem IsRec.one {s : ByteArray} {l m : List ByteArray} (h : IsRec s l) (k : IsRec s m) : l = m := Vx (h.is.trans k.is.symm)
structure Ux (s : ByteArray) (ys : List ByteArray) (rest : ByteArray) : Prop where
  is : s.data.toList = (Yc ys).data.toList ++ rest.data.toList
theorem Ux.zero (s : ByteArray) : Ux s [] s := ⟨by simp [Uw]⟩
theorem Ux.done {s rest : ByteArray} {ys : List ByteArray} (h : Ux s ys rest) (h0 : (rest.toList == (⟨#[]⟩ : ByteArray).toList) = true) : Yc ys = s := by
 obtain rfl := ZU h0;exact Yw (by rw [h.is]; simp)
theorem Ux.size {s rest : ByteArray} {ys : List ByteArray} (h : Ux s ys rest) : rest.size ≤ s.size := by
 have := congrArg List.length h.is;rw [length_append, ← Zi, ← Zi, ← Zi] at this
 omega
theorem Ux.left {s rest : ByteArray} {ys l : List ByteArray} (h : Ux s ys rest) (hl : Yc l = s) : ∃ ws, l = ys ++ ws ∧ Yc ws = rest := by
 have key : ∀ (ys l : List ByteArray) (r : List UInt8), (Yc l).data.toList = (Yc ys).data.toList ++ r → ∃ ws, l = ys ++ ws ∧ (Yc ws).data.toList = r := by
  intro ys
  induction ys with
  | nil => exact fun l r e => ⟨l, rfl, by simpa [Uw] using e⟩
  | cons y ys ih =>
   intro l r e
   cases l with
   | nil => rw [Xa, Uw] at e; simp at e
   | cons x xs =>
    rw [Xa y ys] at e;have h1 := Zg3 (y := x) (ys := xs) (d := (ZA y.size).data.toList) (t := y.data.toList ++ (Yc ys).data.toList ++ r) (by rw [e]; simp) (ZdB _);have hz : x.size = y.size := Zg2 (Yw h1.1.symm);have hlen : y.data.toList.length = x.data.toList.length := by rw [← Zi, ← Zi, hz]
    have h3 := List.append_inj (by rw [← List.append_assoc]; exact h1.2) hlen;obtain ⟨ws, e1, e2⟩ := ih xs r h3.2.symm;exact ⟨ws, by rw [← Yw h3.1, e1]; rfl, e2⟩
 obtain ⟨ws, e1, e2⟩ := key ys l rest.data.toList (by rw [hl, h.is]);exact ⟨ws, e1, Yw e2⟩
theorem Ux.step {s rest num tail : ByteArray} {ys : List ByteArray} {n : Nat} (h : Ux s ys rest) (hc : rest.data.toList = num.data.toList ++ 58 :: tail.data.toList) (hn : QX num = some n) (hz : n ≤ tail.size) : Ux s (ys ++ [tail.extract 0 n]) (tail.extract n tail.size) := by
 have hs := (XV hn).2;have hsz : (tail.extract 0 n).size = n := by rw [size_extract]; omega
 refine ⟨?_⟩;rw [h.is, Zlr, Xa, hsz, Uw, hc, hs, Z6, Z6];have e1 : (tail.data.toList.drop 0).take (n - 0) = tail.data.toList.take n := by simp
 have e2 : (tail.data.toList.drop n).take (tail.size - n) = tail.data.toList.drop n := List.take_of_length_le (by rw [List.length_drop, ← Zi]; exact Nat.le_refl _);rw [e1, e2]
 simp
theorem Ux.go {s rest : ByteArray} {ys l : List ByteArray} (h : Ux s ys rest) (hl : Yc l = s) (hs : s.size ≤ 2048) (h60 : l.length ≤ 60) (hne : (rest.toList == (⟨#[]⟩ : ByteArray).toList) = false) : ∃ (y : ByteArray) (ws : List ByteArray), l = ys ++ y :: ws ∧ rest.data.toList = (ZA y.size).data.toList ++ 58 :: (y.data.toList ++ (Yc ws).data.toList) ∧ QX (ZA y.size) = some y.size ∧ ys.length < 60 := by
 obtain ⟨ws, e1, e2⟩ := h.left hl
 cases ws with
 | nil =>
  rw [Uw] at e2;rw [← e2] at hne;rw [show (ByteArray.empty.toList == (⟨#[]⟩ : ByteArray).toList) = true from beq_self_eq_true (a := ByteArray.empty.toList)] at hne
  cases hne
 | cons y ws =>
  have hr : rest.data.toList = (ZA y.size).data.toList ++ 58 :: (y.data.toList ++ (Yc ws).data.toList) := by rw [← e2, Xa]
  refine ⟨y, ws, e1, hr, Zbk ?_, ?_⟩
  ·have h2 := h.size
   have h3 := congrArg List.length hr;rw [length_append, length_cons, length_append] at h3;have h4 := Zi rest;have h5 := Zi y
   omega
  ·rw [e1, length_append, length_cons] at h60; omega
end Go.Proofs.YtfhdmfcfcgbgeaaGreat
