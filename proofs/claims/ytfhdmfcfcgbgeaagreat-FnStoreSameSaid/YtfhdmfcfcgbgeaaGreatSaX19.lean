/- A part of the proof in YtfhdmfcfcgbgeaaGreatSaX30. -/
import Derived.Lib.IndexMore
import Derived.Test.YtfhdmfcfcgbgeaaGreatSaX18
namespace Go.Proofs.YtfhdmfcfcgbgeaaGreat
open _root_.ByteArray (size_extract)
open List (cons_append length_append length_cons)
set_option linter.unusedVariables false
set_option linter.unusedSimpArgs false
set_option maxHeartbeats 1000000
set_option maxRecDepth 100000
open Go.RowKit Go.Lib
theorem Zke (l : List ByteArray) : ∀ a : ByteArray, l.foldl (fun a s => a ++ ZB s.size ++ ZdP ++ s) a = a ++ Ye l := by
 induction l with
 | nil => exact fun a => Yz (by rw [Z6]; simp [Ye])
 | cons y ys ih =>
  intro a;have h1 := ih (a ++ ZB y.size ++ ZdP ++ y);have h2 := ih (ByteArray.empty ++ ZB y.size ++ ZdP ++ y);unfold Ye;rw [List.foldl_cons, List.foldl_cons, h1, h2];exact Yz (by simp only [Z6, List.append_assoc]; simp)
theorem Xi (y : ByteArray) (ys : List ByteArray) : (Ye (y :: ys)).data.toList = (ZB y.size).data.toList ++ 58 :: (y.data.toList ++ (Ye ys).data.toList) := by
 have h := Zke ys (ByteArray.empty ++ ZB y.size ++ ZdP ++ y);have e : Ye (y :: ys) = ByteArray.empty ++ ZB y.size ++ ZdP ++ y ++ Ye ys := h;rw [e];simp only [Z6, List.append_assoc];simp [ZdP]
theorem UF : Ye [] = ByteArray.empty := rfl
theorem ZlI (xs ys : List ByteArray) : (Ye (xs ++ ys)).data.toList = (Ye xs).data.toList ++ (Ye ys).data.toList := by
 induction xs with
 | nil => simp [UF]
 | cons x xs ih => rw [cons_append, Xi, Xi, ih]; simp
theorem ZdY (n : Nat) : (58 : UInt8) ∉ (ZB n).data.toList := by
 intro hx;rw [Yj] at hx;obtain ⟨d, hd⟩ := JP n 58 hx;obtain ⟨h1, h10⟩ := JM hd;have hn : (UInt8.ofNat (48 + d)).toNat = 48 + d := by rw [UInt8.toNat_ofNat']; omega
 rw [← h1] at hn;have : (58 : UInt8).toNat = 58 := rfl
 omega
theorem Zn9 {a b c d : List UInt8} (ha : (58 : UInt8) ∉ a) (hc : (58 : UInt8) ∉ c) (h : a ++ 58 :: b = c ++ 58 :: d) : a = c ∧ b = d := by
 induction a generalizing c with
 | nil =>
  cases c with
  | nil => simpa using h
  | cons x c => simp at h; exact absurd (by simp [h.1]) hc
 | cons x a ih =>
  cases c with
  | nil => simp at h; exact absurd (by simp [h.1]) ha
  | cons y c =>
   simp only [cons_append, List.cons.injEq] at h;obtain ⟨h1, h2⟩ := ih (fun hm => ha (by simp [hm])) (fun hm => hc (by simp [hm])) h.2;exact ⟨by rw [h.1, h1], h2⟩
theorem Zhn {m n : Nat} (h : ZB m = ZB n) : m = n := by
 have h1 := JO m;have h2 := JO n;rw [← Yj, h, Yj] at h1;exact Option.some.inj (h1.symm.trans h2)
theorem Zho {y : ByteArray} {ys : List ByteArray} {d t : List UInt8} (h : (Ye (y :: ys)).data.toList = d ++ 58 :: t) (hd : (58 : UInt8) ∉ d) : d = (ZB y.size).data.toList ∧ t = y.data.toList ++ (Ye ys).data.toList := by
 rw [Xi] at h;have := Zn9 (ZdY _) hd h;exact ⟨this.1.symm, this.2.symm⟩
theorem Zgr (y : ByteArray) (ys : List ByteArray) : (Ye (y :: ys)).data.toList ≠ [] := by rw [Xi]; simp
theorem VL {xs ys : List ByteArray} (h : Ye xs = Ye ys) : xs = ys := by
 induction xs generalizing ys with
 | nil =>
  cases ys with
  | nil => rfl
  | cons y ys => exact absurd (by rw [← h]; rfl) (Zgr y ys)
 | cons x xs ih =>
  cases ys with
  | nil => exact absurd (by rw [h]; rfl) (Zgr x xs)
  | cons y ys =>
   have h1 := Zho (y := x) (ys := xs) (d := (ZB y.size).data.toList) (t := y.data.toList ++ (Ye ys).data.toList) (by rw [h, Xi]) (ZdY _);have hz : x.size = y.size := Zhn (Yz h1.1.symm);have h2 := h1.2;have hl : y.data.toList.length = x.data.toList.length := by rw [← Zi, ← Zi, hz]
   have h3 := List.append_inj h2 hl;rw [Yz h3.1, ih (Yz h3.2.symm)]
structure IsRec (s : ByteArray) (l : List ByteArray) : Prop where
  is : Ye l = s
  many : l.length ≤ 60
theorem IsRec.one {s : ByteArray} {l m : List ByteArray} (h : IsRec s l) (k : IsRec s m) : l = m := VL (h.is.trans k.is.symm)
structure UG (s : ByteArray) (ys : List ByteArray) (rest : ByteArray) : Prop where
  is : s.data.toList = (Ye ys).data.toList ++ rest.data.toList
theorem UG.zero (s : ByteArray) : UG s [] s := ⟨by simp [UF]⟩
theorem UG.done {s rest : ByteArray} {ys : List ByteArray} (h : UG s ys rest) (h0 : (rest.toList == (⟨#[]⟩ : ByteArray).toList) = true) : Ye ys = s := by
 obtain rfl := ZV h0;exact Yz (by rw [h.is]; simp)
theorem UG.size {s rest : ByteArray} {ys : List ByteArray} (h : UG s ys rest) : rest.size ≤ s.size := by
 have := congrArg List.length h.is;rw [length_append, ← Zi, ← Zi, ← Zi] at this
 omega
theorem UG.left {s rest : ByteArray} {ys l : List ByteArray} (h : UG s ys rest) (hl : Ye l = s) : ∃ ws, l = ys ++ ws ∧ Ye ws = rest := by
 have key : ∀ (ys l : List ByteArray) (r : List UInt8), (Ye l).data.toList = (Ye ys).data.toList ++ r → ∃ ws, l = ys ++ ws ∧ (Ye ws).data.toList = r := by
  intro ys
  induction ys with
  | nil => exact fun l r e => ⟨l, rfl, by simpa [UF] using e⟩
  | cons y ys ih =>
   intro l r e
   cases l with
   | nil => rw [Xi, UF] at e; simp at e
   | cons x xs =>
    rw [Xi y ys] at e;have h1 := Zho (y := x) (ys := xs) (d := (ZB y.size).data.toList) (t := y.data.toList ++ (Ye ys).data.toList ++ r) (by rw [e]; simp) (ZdY _);have hz : x.size = y.size := Zhn (Yz h1.1.symm);have hlen : y.data.toList.length = x.data.toList.length := by rw [← Zi, ← Zi, hz]
    have h3 := List.append_inj (by rw [← List.append_assoc]; exact h1.2) hlen;obtain ⟨ws, e1, e2⟩ := ih xs r h3.2.symm;exact ⟨ws, by rw [← Yz h3.1, e1]; rfl, e2⟩
 obtain ⟨ws, e1, e2⟩ := key ys l rest.data.toList (by rw [hl, h.is]);exact ⟨ws, e1, Yz e2⟩
theorem UG.step {s rest num tail : ByteArray} {ys : List ByteArray} {n : Nat} (h : UG s ys rest) (hc : rest.data.toList = num.data.toList ++ 58 :: tail.data.toList) (hn : Q9 num = some n) (hz : n ≤ tail.size) : UG s (ys ++ [tail.extract 0 n]) (tail.extract n tail.size) := by
 have hs := (X1 hn).2;have hsz : (tail.extract 0 n).size = n := by rw [size_extract]; omega
 refine ⟨?_⟩;rw [h.is, ZlI, Xi, hsz, UF, hc, hs, Z8, Z8];have e1 : (tail.data.toList.drop 0).take (n - 0) = tail.data.toList.take n := by simp
 have e2 : (tail.data.toList.drop n).take (tail.size - n) = tail.data.toList.drop n := List.take_of_length_le (by rw [List.length_drop, ← Zi]; exact Nat.le_refl _);rw [e1, e2]
 simp
theorem UG.go {s rest : ByteArray} {ys l : List ByteArray} (h : UG s ys rest) (hl : Ye l = s) (hs : s.size ≤ 2048) (h60 : l.length ≤ 60) (hne : (rest.toList == (⟨#[]⟩ : ByteArray).toList) = false) : ∃ (y : ByteArray) (ws : List ByteArray), l = ys ++ y :: ws ∧ rest.data.toList = (ZB y.size).data.toList ++ 58 :: (y.data.toList ++ (Ye ws).data.toList) ∧ Q9 (ZB y.size) = some y.size ∧ ys.length < 60 := by
 obtain ⟨ws, e1, e2⟩ := h.left hl
 cases ws with
 | nil =>
  rw [UF] at e2;rw [← e2] at hne;rw [show (ByteArray.empty.toList == (⟨#[]⟩ : ByteArray).toList) = true from beq_self_eq_true (a := ByteArray.empty.toList)] at hne
  cases hne
 | cons y ws =>
  have hr : rest.data.toList = (ZB y.size).data.toList ++ 58 :: (y.data.toList ++ (Ye ws).data.toList) := by rw [← e2, Xi]
  refine ⟨y, ws, e1, hr, Zbx ?_, ?_⟩
  ·have h2 := h.size
   have h3 := congrArg List.length hr;rw [length_append, length_cons, length_append] at h3;have h4 := Zi rest;have h5 := Zi y
   omega
  ·rw [e1, length_append, length_cons] at h60; omega
end Go.Proofs.YtfhdmfcfcgbgeaaGreat
