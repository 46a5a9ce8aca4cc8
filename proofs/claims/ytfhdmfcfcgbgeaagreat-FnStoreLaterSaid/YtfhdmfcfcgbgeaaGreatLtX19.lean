/- A part of the proof in YtfhdmfcfcgbgeaaGreatLtX30. -/
import Derived.Lib.IndexMore
import Derived.Test.YtfhdmfcfcgbgeaaGreatLtX18
namespace Go.Proofs.YtfhdmfcfcgbgeaaGreat
open _root_.ByteArray (size_extract)
open List (cons_append length_append length_cons)
set_option linter.unusedVariables false
set_option linter.unusedSimpArgs false
set_option maxHeartbeats 1000000
set_option maxRecDepth 100000
open Go.RowKit Go.Lib
theorem Zke (l : List ByteArray) : ∀ a : ByteArray, l.foldl (fun a s => a ++ ZB s.size ++ ZdL ++ s) a = a ++ Yf l := by
 induction l with
 | nil => exact fun a => YE (by rw [Z6]; simp [Yf])
 | cons y ys ih =>
  intro a;have h1 := ih (a ++ ZB y.size ++ ZdL ++ y);have h2 := ih (ByteArray.empty ++ ZB y.size ++ ZdL ++ y);unfold Yf;rw [List.foldl_cons, List.foldl_cons, h1, h2];exact YE (by simp only [Z6, List.append_assoc]; simp)
theorem Xr (y : ByteArray) (ys : List ByteArray) : (Yf (y :: ys)).data.toList = (ZB y.size).data.toList ++ 58 :: (y.data.toList ++ (Yf ys).data.toList) := by
 have h := Zke ys (ByteArray.empty ++ ZB y.size ++ ZdL ++ y);have e : Yf (y :: ys) = ByteArray.empty ++ ZB y.size ++ ZdL ++ y ++ Yf ys := h;rw [e];simp only [Z6, List.append_assoc];simp [ZdL]
theorem UN : Yf [] = ByteArray.empty := rfl
theorem ZlJ (xs ys : List ByteArray) : (Yf (xs ++ ys)).data.toList = (Yf xs).data.toList ++ (Yf ys).data.toList := by
 induction xs with
 | nil => simp [UN]
 | cons x xs ih => rw [cons_append, Xr, Xr, ih]; simp
theorem ZdX (n : Nat) : (58 : UInt8) ∉ (ZB n).data.toList := by
 intro hx;rw [Yk] at hx;obtain ⟨d, hd⟩ := JV n 58 hx;obtain ⟨h1, h10⟩ := JS hd;have hn : (UInt8.ofNat (48 + d)).toNat = 48 + d := by rw [UInt8.toNat_ofNat']; omega
 rw [← h1] at hn;have : (58 : UInt8).toNat = 58 := rfl
 omega
theorem Zn8 {a b c d : List UInt8} (ha : (58 : UInt8) ∉ a) (hc : (58 : UInt8) ∉ c) (h : a ++ 58 :: b = c ++ 58 :: d) : a = c ∧ b = d := by
 induction a generalizing c with
 | nil =>
  cases c with
  | nil => simpa using h
  | cons x c => simp at h; exact absurd (by simp [h.1]) hc
 | cons x a ih =>
  cases c with
  | nil => simp at h; exact absurd (by simp [h.1]) ha
  | cons y c =>
   simp only [cons_append, List.cons.injEq] at h;obtain ⟨h1, h2⟩ := ih (fun hm => ha (by simp [hm])) (fun hm => hc (by simp [hm])) h.2;exact ⟨by rw [h.1, h1], h2⟩
theorem Zhn {m n : Nat} (h : ZB m = ZB n) : m = n := by
 have h1 := JU m;have h2 := JU n;rw [← Yk, h, Yk] at h1;exact Option.some.inj (h1.symm.trans h2)
theorem Zho {y : ByteArray} {ys : List ByteArray} {d t : List UInt8} (h : (Yf (y :: ys)).data.toList = d ++ 58 :: t) (hd : (58 : UInt8) ∉ d) : d = (ZB y.size).data.toList ∧ t = y.data.toList ++ (Yf ys).data.toList := by
 rw [Xr] at h;have := Zn8 (ZdX _) hd h;exact ⟨this.1.symm, this.2.symm⟩
theorem Zgu (y : ByteArray) (ys : List ByteArray) : (Yf (y :: ys)).data.toList ≠ [] := by rw [Xr]; simp
theorem VU {xs ys : List ByteArray} (h : Yf xs = Yf ys) : xs = ys := by
 induction xs generalizing ys with
 | nil =>
  cases ys with
  | nil => rfl
  | cons y ys => exact absurd (by rw [← h]; rfl) (Zgu y ys)
 | cons x xs ih =>
  cases ys with
  | nil => exact absurd (by rw [h]; rfl) (Zgu x xs)
  | cons y ys =>
   have h1 := Zho (y := x) (ys := xs) (d := (ZB y.size).data.toList) (t := y.data.toList ++ (Yf ys).data.toList) (by rw [h, Xr]) (ZdX _);have hz : x.size = y.size := Zhn (YE h1.1.symm);have h2 := h1.2;have hl : y.data.toList.length = x.data.toList.length := by rw [← Zi, ← Zi, hz]
   have h3 := List.append_inj h2 hl;rw [YE h3.1, ih (YE h3.2.symm)]
structure IsRec (s : ByteArray) (l : List ByteArray) : Prop where
  is : Yf l = s
  many : l.length ≤ 60
theorem IsRec.one {s : ByteArray} {l m : List ByteArray} (h : IsRec s l) (k : IsRec s m) : l = m := VU (h.is.trans k.is.symm)
structure UO (s : ByteArray) (ys : List ByteArray) (rest : ByteArray) : Prop where
  is : s.data.toList = (Yf ys).data.toList ++ rest.data.toList
theorem UO.zero (s : ByteArray) : UO s [] s := ⟨by simp [UN]⟩
theorem UO.done {s rest : ByteArray} {ys : List ByteArray} (h : UO s ys rest) (h0 : (rest.toList == (⟨#[]⟩ : ByteArray).toList) = true) : Yf ys = s := by
 obtain rfl := ZX h0;exact YE (by rw [h.is]; simp)
theorem UO.size {s rest : ByteArray} {ys : List ByteArray} (h : UO s ys rest) : rest.size ≤ s.size := by
 have := congrArg List.length h.is;rw [length_append, ← Zi, ← Zi, ← Zi] at this
 omega
theorem UO.left {s rest : ByteArray} {ys l : List ByteArray} (h : UO s ys rest) (hl : Yf l = s) : ∃ ws, l = ys ++ ws ∧ Yf ws = rest := by
 have key : ∀ (ys l : List ByteArray) (r : List UInt8), (Yf l).data.toList = (Yf ys).data.toList ++ r → ∃ ws, l = ys ++ ws ∧ (Yf ws).data.toList = r := by
  intro ys
  induction ys with
  | nil => exact fun l r e => ⟨l, rfl, by simpa [UN] using e⟩
  | cons y ys ih =>
   intro l r e
   cases l with
   | nil => rw [Xr, UN] at e; simp at e
   | cons x xs =>
    rw [Xr y ys] at e;have h1 := Zho (y := x) (ys := xs) (d := (ZB y.size).data.toList) (t := y.data.toList ++ (Yf ys).data.toList ++ r) (by rw [e]; simp) (ZdX _);have hz : x.size = y.size := Zhn (YE h1.1.symm);have hlen : y.data.toList.length = x.data.toList.length := by rw [← Zi, ← Zi, hz]
    have h3 := List.append_inj (by rw [← List.append_assoc]; exact h1.2) hlen;obtain ⟨ws, e1, e2⟩ := ih xs r h3.2.symm;exact ⟨ws, by rw [← YE h3.1, e1]; rfl, e2⟩
 obtain ⟨ws, e1, e2⟩ := key ys l rest.data.toList (by rw [hl, h.is]);exact ⟨ws, e1, YE e2⟩
theorem UO.step {s rest num tail : ByteArray} {ys : List ByteArray} {n : Nat} (h : UO s ys rest) (hc : rest.data.toList = num.data.toList ++ 58 :: tail.data.toList) (hn : Jh num = some n) (hz : n ≤ tail.size) : UO s (ys ++ [tail.extract 0 n]) (tail.extract n tail.size) := by
 have hs := (Qa hn).2;have hsz : (tail.extract 0 n).size = n := by rw [size_extract]; omega
 refine ⟨?_⟩;rw [h.is, ZlJ, Xr, hsz, UN, hc, hs, Z8, Z8];have e1 : (tail.data.toList.drop 0).take (n - 0) = tail.data.toList.take n := by simp
 have e2 : (tail.data.toList.drop n).take (tail.size - n) = tail.data.toList.drop n := List.take_of_length_le (by rw [List.length_drop, ← Zi]; exact Nat.le_refl _);rw [e1, e2]
 simp
theorem UO.go {s rest : ByteArray} {ys l : List ByteArray} (h : UO s ys rest) (hl : Yf l = s) (hs : s.size ≤ 2048) (h60 : l.length ≤ 60) (hne : (rest.toList == (⟨#[]⟩ : ByteArray).toList) = false) : ∃ (y : ByteArray) (ws : List ByteArray), l = ys ++ y :: ws ∧ rest.data.toList = (ZB y.size).data.toList ++ 58 :: (y.data.toList ++ (Yf ws).data.toList) ∧ Jh (ZB y.size) = some y.size ∧ ys.length < 60 := by
 obtain ⟨ws, e1, e2⟩ := h.left hl
 cases ws with
 | nil =>
  rw [UN] at e2;rw [← e2] at hne;rw [show (ByteArray.empty.toList == (⟨#[]⟩ : ByteArray).toList) = true from beq_self_eq_true (a := ByteArray.empty.toList)] at hne
  cases hne
 | cons y ws =>
  have hr : rest.data.toList = (ZB y.size).data.toList ++ 58 :: (y.data.toList ++ (Yf ws).data.toList) := by rw [← e2, Xr]
  refine ⟨y, ws, e1, hr, ZbE ?_, ?_⟩
  ·have h2 := h.size
   have h3 := congrArg List.length hr;rw [length_append, length_cons, length_append] at h3;have h4 := Zi rest;have h5 := Zi y
   omega
  ·rw [e1, length_append, length_cons] at h60; omega
end Go.Proofs.YtfhdmfcfcgbgeaaGreat
