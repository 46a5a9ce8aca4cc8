/- A part of the proof in YtfhdmfcfcgbgeaaGreatRdX29. -/
import Derived.Lib.IndexMore
import Derived.Test.YtfhdmfcfcgbgeaaGreatRdX18
namespace Go.Proofs.YtfhdmfcfcgbgeaaGreat
open _root_.ByteArray (size_extract)
open List (cons_append length_append length_cons)
set_option linter.unusedVariables false
set_option linter.unusedSimpArgs false
set_option maxHeartbeats 1000000
set_option maxRecDepth 100000
open Go.RowKit Go.Lib
theorem Zjq (l : List ByteArray) : ∀ a : ByteArray, l.foldl (fun a s => a ++ Zy s.size ++ Zdc ++ s) a = a ++ Z8 l := by
 induction l with
 | nil => exact fun a => Yv (by rw [ZZ]; simp [Z8])
 | cons y ys ih =>
  intro a;have h1 := ih (a ++ Zy y.size ++ Zdc ++ y);have h2 := ih (ByteArray.empty ++ Zy y.size ++ Zdc ++ y);unfold Z8;rw [List.foldl_cons, List.foldl_cons, h1, h2];exact Yv (by simp only [ZZ, List.append_assoc]; simp)
theorem Xd (y : ByteArray) (ys : List ByteArray) : (Z8 (y :: ys)).data.toList = (Zy y.size).data.toList ++ 58 :: (y.data.toList ++ (Z8 ys).data.toList) := by
 have h := Zjq ys (ByteArray.empty ++ Zy y.size ++ Zdc ++ y);have e : Z8 (y :: ys) = ByteArray.empty ++ Zy y.size ++ Zdc ++ y ++ Z8 ys := h;rw [e];simp only [ZZ, List.append_assoc];simp [Zdc]
theorem Uq : Z8 [] = ByteArray.empty := rfl
theorem ZkV (xs ys : List ByteArray) : (Z8 (xs ++ ys)).data.toList = (Z8 xs).data.toList ++ (Z8 ys).data.toList := by
 induction xs with
 | nil => simp [Uq]
 | cons x xs ih => rw [cons_append, Xd, Xd, ih]; simp
theorem Zdk (n : Nat) : (58 : UInt8) ∉ (Zy n).data.toList := by
 intro hx;rw [Yd] at hx;obtain ⟨d, hd⟩ := Jz n 58 hx;obtain ⟨h1, h10⟩ := Jw hd;have hn : (UInt8.ofNat (48 + d)).toNat = 48 + d := by rw [UInt8.toNat_ofNat']; omega
 rw [← h1] at hn;have : (58 : UInt8).toNat = 58 := rfl
 omega
theorem Zne {a b c d : List UInt8} (ha : (58 : UInt8) ∉ a) (hc : (58 : UInt8) ∉ c) (h : a ++ 58 :: b = c ++ 58 :: d) : a = c ∧ b = d := by
 induction a generalizing c with
 | nil =>
  cases c with
  | nil => simpa using h
  | cons x c => simp at h; exact absurd (by simp [h.1]) hc
 | cons x a ih =>
  cases c with
  | nil => simp at h; exact absurd (by simp [h.1]) ha
  | cons y c =>
   simp only [cons_append, List.cons.injEq] at h;obtain ⟨h1, h2⟩ := ih (fun hm => ha (by simp [hm])) (fun hm => hc (by simp [hm])) h.2;exact ⟨by rw [h.1, h1], h2⟩
theorem ZgA {m n : Nat} (h : Zy m = Zy n) : m = n := by
 have h1 := Jy m;have h2 := Jy n;rw [← Yd, h, Yd] at h1;exact Option.some.inj (h1.symm.trans h2)
theorem ZgB {y : ByteArray} {ys : List ByteArray} {d t : List UInt8} (h : (Z8 (y :: ys)).data.toList = d ++ 58 :: t) (hd : (58 : UInt8) ∉ d) : d = (Zy y.size).data.toList ∧ t = y.data.toList ++ (Z8 ys).data.toList := by
 rw [Xd] at h;have := Zne (Zdk _) hd h;exact ⟨this.1.symm, this.2.symm⟩
theorem ZfG (y : ByteArray) (ys : List ByteArray) : (Z8 (y :: ys)).data.toList ≠ [] := by rw [Xd]; simp
theorem Vu {xs ys : List ByteArray} (h : Z8 xs = Z8 ys) : xs = ys := by
 induction xs generalizing ys with
 | nil =>
  cases ys with
  | nil => rfl
  | cons y ys => exact absurd (by rw [← h]; rfl) (ZfG y ys)
 | cons x xs ih =>
  cases ys with
  | nil => exact absurd (by rw [h]; rfl) (ZfG x xs)
  | cons y ys =>
   have h1 := ZgB (y := x) (ys := xs) (d := (Zy y.size).data.toList) (t := y.data.toList ++ (Z8 ys).data.toList) (by rw [h, Xd]) (Zdk _);have hz : x.size = y.size := ZgA (Yv h1.1.symm);have h2 := h1.2;have hl : y.data.toList.length = x.data.toList.length := by rw [← Zi, ← Zi, hz]
   have h3 := List.append_inj h2 hl;rw [Yv h3.1, ih (Yv h3.2.symm)]
structure IsRec (s : ByteArray) (l : List ByteArray) : Prop where
  is : Z8 l = s
  many : l.length ≤ 60
theorem IsRec.one {s : ByteArray} {l m : List ByteArray} (h : IsRec s l) (k : IsRec s m) : l = m := Vu (h.is.trans k.is.symm)
structure Ur (s : ByteArray) (ys : List ByteArray) (rest : ByteArray) : Prop where
  is : s.data.toList = (Z8 ys).data.toList ++ rest.data.toList
theorem Ur.zero (s : ByteArray) : Ur s [] s := ⟨by simp [Uq]⟩
theorem Ur.done {s rest : ByteArray} {ys : List ByteArray} (h : Ur s ys rest) (h0 : (rest.toList == (⟨#[]⟩ : ByteArray).toList) = true) : Z8 ys = s := by
 obtain rfl := ZS h0;exact Yv (by rw [h.is]; simp)
theorem Ur.size {s rest : ByteArray} {ys : List ByteArray} (h : Ur s ys rest) : rest.size ≤ s.size := by
 have := congrArg List.length h.is;rw [length_append, ← Zi, ← Zi, ← Zi] at this
 omega
theorem Ur.left {s rest : ByteArray} {ys l : List ByteArray} (h : Ur s ys rest) (hl : Z8 l = s) : ∃ ws, l = ys ++ ws ∧ Z8 ws = rest := by
 have key : ∀ (ys l : List ByteArray) (r : List UInt8), (Z8 l).data.toList = (Z8 ys).data.toList ++ r → ∃ ws, l = ys ++ ws ∧ (Z8 ws).data.toList = r := by
  intro ys
  induction ys with
  | nil => exact fun l r e => ⟨l, rfl, by simpa [Uq] using e⟩
  | cons y ys ih =>
   intro l r e
   cases l with
   | nil => rw [Xd, Uq] at e; simp at e
   | cons x xs =>
    rw [Xd y ys] at e;have h1 := ZgB (y := x) (ys := xs) (d := (Zy y.size).data.toList) (t := y.data.toList ++ (Z8 ys).data.toList ++ r) (by rw [e]; simp) (Zdk _);have hz : x.size = y.size := ZgA (Yv h1.1.symm);have hlen : y.data.toList.length = x.data.toList.length := by rw [← Zi, ← Zi, hz]
    have h3 := List.append_inj (by rw [← List.append_assoc]; exact h1.2) hlen;obtain ⟨ws, e1, e2⟩ := ih xs r h3.2.symm;exact ⟨ws, by rw [← Yv h3.1, e1]; rfl, e2⟩
 obtain ⟨ws, e1, e2⟩ := key ys l rest.data.toList (by rw [hl, h.is]);exact ⟨ws, e1, Yv e2⟩
theorem Ur.step {s rest num tail : ByteArray} {ys : List ByteArray} {n : Nat} (h : Ur s ys rest) (hc : rest.data.toList = num.data.toList ++ 58 :: tail.data.toList) (hn : QX num = some n) (hz : n ≤ tail.size) : Ur s (ys ++ [tail.extract 0 n]) (tail.extract n tail.size) := by
 have hs := (XY hn).2;have hsz : (tail.extract 0 n).size = n := by rw [size_extract]; omega
 refine ⟨?_⟩;rw [h.is, ZkV, Xd, hsz, Uq, hc, hs, Z1, Z1];have e1 : (tail.data.toList.drop 0).take (n - 0) = tail.data.toList.take n := by simp
 have e2 : (tail.data.toList.drop n).take (tail.size - n) = tail.data.toList.drop n := List.take_of_length_le (by rw [List.length_drop, ← Zi]; exact Nat.le_refl _);rw [e1, e2]
 simp
theorem Ur.go {s rest : ByteArray} {ys l : List ByteArray} (h : Ur s ys rest) (hl : Z8 l = s) (hs : s.size ≤ 2048) (h60 : l.length ≤ 60) (hne : (rest.toList == (⟨#[]⟩ : ByteArray).toList) = false) : ∃ (y : ByteArray) (ws : List ByteArray), l = ys ++ y :: ws ∧ rest.data.toList = (Zy y.size).data.toList ++ 58 :: (y.data.toList ++ (Z8 ws).data.toList) ∧ QX (Zy y.size) = some y.size ∧ ys.length < 60 := by
 obtain ⟨ws, e1, e2⟩ := h.left hl
 cases ws with
 | nil =>
  rw [Uq] at e2;rw [← e2] at hne;rw [show (ByteArray.empty.toList == (⟨#[]⟩ : ByteArray).toList) = true from beq_self_eq_true (a := ByteArray.empty.toList)] at hne
  cases hne
 | cons y ws =>
  have hr : rest.data.toList = (Zy y.size).data.toList ++ 58 :: (y.data.toList ++ (Z8 ws).data.toList) := by rw [← e2, Xd]
  refine ⟨y, ws, e1, hr, Zbf ?_, ?_⟩
  ·have h2 := h.size
   have h3 := congrArg List.length hr;rw [length_append, length_cons, length_append] at h3;have h4 := Zi rest;have h5 := Zi y
   omega
  ·rw [e1, length_append, length_cons] at h60; omega
end Go.Proofs.YtfhdmfcfcgbgeaaGreat
