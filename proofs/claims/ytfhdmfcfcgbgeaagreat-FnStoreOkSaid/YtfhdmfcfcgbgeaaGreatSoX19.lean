/- A part of the proof in YtfhdmfcfcgbgeaaGreatSoX29. -/
import Derived.Lib.IndexMore
import Derived.Test.YtfhdmfcfcgbgeaaGreatSoX18
namespace Go.Proofs.YtfhdmfcfcgbgeaaGreat
open _root_.ByteArray (size_extract)
open List (cons_append length_append length_cons)
set_option linter.unusedVariables false
set_option linter.unusedSimpArgs false
set_option maxHeartbeats 1000000
set_option maxRecDepth 100000
open Go.RowKit Go.Lib
theorem ZjA (l : List ByteArray) : ∀ a : ByteArray, l.foldl (fun a s => a ++ Zy s.size ++ Zdl ++ s) a = a ++ Ya l := by
 induction l with
 | nil => exact fun a => Yw (by rw [Z0]; simp [Ya])
 | cons y ys ih =>
  intro a;have h1 := ih (a ++ Zy y.size ++ Zdl ++ y);have h2 := ih (ByteArray.empty ++ Zy y.size ++ Zdl ++ y);unfold Ya;rw [List.foldl_cons, List.foldl_cons, h1, h2];exact Yw (by simp only [Z0, List.append_assoc]; simp)
theorem Y8 (y : ByteArray) (ys : List ByteArray) : (Ya (y :: ys)).data.toList = (Zy y.size).data.toList ++ 58 :: (y.data.toList ++ (Ya ys).data.toList) := by
 have h := ZjA ys (ByteArray.empty ++ Zy y.size ++ Zdl ++ y);have e : Ya (y :: ys) = ByteArray.empty ++ Zy y.size ++ Zdl ++ y ++ Ya ys := h;rw [e];simp only [Z0, List.append_assoc];simp [Zdl]
theorem Ut : Ya [] = ByteArray.empty := rfl
theorem Zk3 (xs ys : List ByteArray) : (Ya (xs ++ ys)).data.toList = (Ya xs).data.toList ++ (Ya ys).data.toList := by
 induction xs with
 | nil => simp [Ut]
 | cons x xs ih => rw [cons_append, Y8, Y8, ih]; simp
theorem Zds (n : Nat) : (58 : UInt8) ∉ (Zy n).data.toList := by
 intro hx;rw [Ye] at hx;obtain ⟨d, hd⟩ := Jy n 58 hx;obtain ⟨h1, h10⟩ := Jv hd;have hn : (UInt8.ofNat (48 + d)).toNat = 48 + d := by rw [UInt8.toNat_ofNat']; omega
 rw [← h1] at hn;have : (58 : UInt8).toNat = 58 := rfl
 omega
theorem Znp {a b c d : List UInt8} (ha : (58 : UInt8) ∉ a) (hc : (58 : UInt8) ∉ c) (h : a ++ 58 :: b = c ++ 58 :: d) : a = c ∧ b = d := by
 induction a generalizing c with
 | nil =>
  cases c with
  | nil => simpa using h
  | cons x c => simp at h; exact absurd (by simp [h.1]) hc
 | cons x a ih =>
  cases c with
  | nil => simp at h; exact absurd (by simp [h.1]) ha
  | cons y c =>
   simp only [cons_append, List.cons.injEq] at h;obtain ⟨h1, h2⟩ := ih (fun hm => ha (by simp [hm])) (fun hm => hc (by simp [hm])) h.2;exact ⟨by rw [h.1, h1], h2⟩
theorem ZgQ {m n : Nat} (h : Zy m = Zy n) : m = n := by
 have h1 := Jx m;have h2 := Jx n;rw [← Ye, h, Ye] at h1;exact Option.some.inj (h1.symm.trans h2)
theorem ZgR {y : ByteArray} {ys : List ByteArray} {d t : List UInt8} (h : (Ya (y :: ys)).data.toList = d ++ 58 :: t) (hd : (58 : UInt8) ∉ d) : d = (Zy y.size).data.toList ∧ t = y.data.toList ++ (Ya ys).data.toList := by
 rw [Y8] at h;have := Znp (Zds _) hd h;exact ⟨this.1.symm, this.2.symm⟩
theorem ZfU (y : ByteArray) (ys : List ByteArray) : (Ya (y :: ys)).data.toList ≠ [] := by rw [Y8]; simp
theorem Vu {xs ys : List ByteArray} (h : Ya xs = Ya ys) : xs = ys := by
 induction xs generalizing ys with
 | nil =>
  cases ys with
  | nil => rfl
  | cons y ys => exact absurd (by rw [← h]; rfl) (ZfU y ys)
 | cons x xs ih =>
  cases ys with
  | nil => exact absurd (by rw [h]; rfl) (ZfU x xs)
  | cons y ys =>
   have h1 := ZgR (y := x) (ys := xs) (d := (Zy y.size).data.toList) (t := y.data.toList ++ (Ya ys).data.toList) (by rw [h, Y8]) (Zds _);have hz : x.size = y.size := ZgQ (Yw h1.1.symm);have h2 := h1.2;have hl : y.data.toList.length = x.data.toList.length := by rw [← Zi, ← Zi, hz]
   have h3 := List.append_inj h2 hl;rw [Yw h3.1, ih (Yw h3.2.symm)]
structure IsRec (s : ByteArray) (l : List ByteArray) : Prop where
  is : Ya l = s
  many : l.length ≤ 60
theorem IsRec.one {s : ByteArray} {l m : List ByteArray} (h : IsRec s l) (k : IsRec s m) : l = m := Vu (h.is.trans k.is.symm)
structure Uu (s : ByteArray) (ys : List ByteArray) (rest : ByteArray) : Prop where
  is : s.data.toList = (Ya ys).data.toList ++ rest.data.toList
theorem Uu.zero (s : ByteArray) : Uu s [] s := ⟨by simp [Ut]⟩
theorem Uu.done {s rest : ByteArray} {ys : List ByteArray} (h : Uu s ys rest) (h0 : (rest.toList == (⟨#[]⟩ : ByteArray).toList) = true) : Ya ys = s := by
 obtain rfl := ZS h0;exact Yw (by rw [h.is]; simp)
theorem Uu.size {s rest : ByteArray} {ys : List ByteArray} (h : Uu s ys rest) : rest.size ≤ s.size := by
 have := congrArg List.length h.is;rw [length_append, ← Zi, ← Zi, ← Zi] at this
 omega
theorem Uu.left {s rest : ByteArray} {ys l : List ByteArray} (h : Uu s ys rest) (hl : Ya l = s) : ∃ ws, l = ys ++ ws ∧ Ya ws = rest := by
 have key : ∀ (ys l : List ByteArray) (r : List UInt8), (Ya l).data.toList = (Ya ys).data.toList ++ r → ∃ ws, l = ys ++ ws ∧ (Ya ws).data.toList = r := by
  intro ys
  induction ys with
  | nil => exact fun l r e => ⟨l, rfl, by simpa [Ut] using e⟩
  | cons y ys ih =>
   intro l r e
   cases l with
   | nil => rw [Y8, Ut] at e; simp at e
   | cons x xs =>
    rw [Y8 y ys] at e;have h1 := ZgR (y := x) (ys := xs) (d := (Zy y.size).data.toList) (t := y.data.toList ++ (Ya ys).data.toList ++ r) (by rw [e]; simp) (Zds _);have hz : x.size = y.size := ZgQ (Yw h1.1.symm);have hlen : y.data.toList.length = x.data.toList.length := by rw [← Zi, ← Zi, hz]
    have h3 := List.append_inj (by rw [← List.append_assoc]; exact h1.2) hlen;obtain ⟨ws, e1, e2⟩ := ih xs r h3.2.symm;exact ⟨ws, by rw [← Yw h3.1, e1]; rfl, e2⟩
 obtain ⟨ws, e1, e2⟩ := key ys l rest.data.toList (by rw [hl, h.is]);exact ⟨ws, e1, Yw e2⟩
theorem Uu.step {s rest num tail : ByteArray} {ys : List ByteArray} {n : Nat} (h : Uu s ys rest) (hc : rest.data.toList = num.data.toList ++ 58 :: tail.data.toList) (hn : QW num = some n) (hz : n ≤ tail.size) : Uu s (ys ++ [tail.extract 0 n]) (tail.extract n tail.size) := by
 have hs := (XT hn).2;have hsz : (tail.extract 0 n).size = n := by rw [size_extract]; omega
 refine ⟨?_⟩;rw [h.is, Zk3, Y8, hsz, Ut, hc, hs, Z3, Z3];have e1 : (tail.data.toList.drop 0).take (n - 0) = tail.data.toList.take n := by simp
 have e2 : (tail.data.toList.drop n).take (tail.size - n) = tail.data.toList.drop n := List.take_of_length_le (by rw [List.length_drop, ← Zi]; exact Nat.le_refl _);rw [e1, e2]
 simp
theorem Uu.go {s rest : ByteArray} {ys l : List ByteArray} (h : Uu s ys rest) (hl : Ya l = s) (hs : s.size ≤ 2048) (h60 : l.length ≤ 60) (hne : (rest.toList == (⟨#[]⟩ : ByteArray).toList) = false) : ∃ (y : ByteArray) (ws : List ByteArray), l = ys ++ y :: ws ∧ rest.data.toList = (Zy y.size).data.toList ++ 58 :: (y.data.toList ++ (Ya ws).data.toList) ∧ QW (Zy y.size) = some y.size ∧ ys.length < 60 := by
 obtain ⟨ws, e1, e2⟩ := h.left hl
 cases ws with
 | nil =>
  rw [Ut] at e2;rw [← e2] at hne;rw [show (ByteArray.empty.toList == (⟨#[]⟩ : ByteArray).toList) = true from beq_self_eq_true (a := ByteArray.empty.toList)] at hne
  cases hne
 | cons y ws =>
  have hr : rest.data.toList = (Zy y.size).data.toList ++ 58 :: (y.data.toList ++ (Ya ws).data.toList) := by rw [← e2, Y8]
  refine ⟨y, ws, e1, hr, Zbg ?_, ?_⟩
  ·have h2 := h.size
   have h3 := congrArg List.length hr;rw [length_append, length_cons, length_append] at h3;have h4 := Zi rest;have h5 := Zi y
   omega
  ·rw [e1, length_append, length_cons] at h60; omega
end Go.Proofs.YtfhdmfcfcgbgeaaGreat
