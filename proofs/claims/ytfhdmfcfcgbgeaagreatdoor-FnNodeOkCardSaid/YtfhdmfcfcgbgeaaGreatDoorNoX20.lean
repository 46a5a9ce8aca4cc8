/- A part of the proof in YtfhdmfcfcgbgeaaGreatDoorNoX33. -/
import Derived.Lib.IndexMore
import Derived.Test.YtfhdmfcfcgbgeaaGreatDoorNoX19
namespace Go.Proofs.YtfhdmfcfcgbgeaaGreatDoor
open _root_.ByteArray (size_extract)
open List (length_append length_cons)
set_option linter.unusedVariables false
set_option linter.unusedSimpArgs false
set_option maxHeartbeats 1000000
set_option maxRecDepth 100000
open Go.RowKit Go.Lib
theorem ZjK (l : List ByteArray) : ∀ a : ByteArray, l.foldl (fun a s => a ++ Zy s.size ++ Zdk ++ s) a = a ++ ZY l := by
 induction l with
 | nil => exact fun a => YA (by rw [ZA]; simp [ZY])
 | cons y ys ih =>
  intro a;have h1 := ih (a ++ Zy y.size ++ Zdk ++ y);have h2 := ih (ByteArray.empty ++ Zy y.size ++ Zdk ++ y);unfold ZY;rw [List.foldl_cons, List.foldl_cons, h1, h2];exact YA (by simp only [ZA, List.append_assoc]; simp)
theorem Xg (y : ByteArray) (ys : List ByteArray) : (ZY (y :: ys)).data.toList = (Zy y.size).data.toList ++ 58 :: (y.data.toList ++ (ZY ys).data.toList) := by
 have h := ZjK ys (ByteArray.empty ++ Zy y.size ++ Zdk ++ y);have e : ZY (y :: ys) = ByteArray.empty ++ Zy y.size ++ Zdk ++ y ++ ZY ys := h;rw [e];simp only [ZA, List.append_assoc];simp [Zdk]
theorem Uw : ZY [] = ByteArray.empty := rfl
theorem Zlm (xs ys : List ByteArray) : (ZY (xs ++ ys)).data.toList = (ZY xs).data.toList ++ (ZY ys).data.toList := by
 induction xs with
 | nil => simp [Uw]
 | cons x xs ih => rw [List.cons_append, Xg, Xg, ih]; simp
theorem Zdu (n : Nat) : (58 : UInt8) ∉ (Zy n).data.toList := by
 intro hx;rw [Yp] at hx;obtain ⟨d, hd⟩ := JJ n 58 hx;obtain ⟨h1, h10⟩ := JG hd;have hn : (UInt8.ofNat (48 + d)).toNat = 48 + d := by rw [UInt8.toNat_ofNat']; omega
 rw [← h1] at hn;have : (58 : UInt8).toNat = 58 := rfl
 omega
theorem ZnV {a b c d : List UInt8} (ha : (58 : UInt8) ∉ a) (hc : (58 : UInt8) ∉ c) (h : a ++ 58 :: b = c ++ 58 :: d) : a = c ∧ b = d := by
 induction a generalizing c with
 | nil =>
  cases c with
  | nil => simpa using h
  | cons x c => simp at h; exact absurd (by simp [h.1]) hc
 | cons x a ih =>
  cases c with
  | nil => simp at h; exact absurd (by simp [h.1]) ha
  | cons y c =>
   simp only [List.cons_append, List.cons.injEq] at h;obtain ⟨h1, h2⟩ := ih (fun hm => ha (by simp [hm])) (fun hm => hc (by simp [hm])) h.2;exact ⟨by rw [h.1, h1], h2⟩
theorem ZgJ {m n : Nat} (h : Zy m = Zy n) : m = n := by
 have h1 := JI m;have h2 := JI n;rw [← Yp, h, Yp] at h1;exact Option.some.inj (h1.symm.trans h2)
theorem ZgK {y : ByteArray} {ys : List ByteArray} {d t : List UInt8} (h : (ZY (y :: ys)).data.toList = d ++ 58 :: t) (hd : (58 : UInt8) ∉ d) : d = (Zy y.size).data.toList ∧ t = y.data.toList ++ (ZY ys).data.toList := by
 rw [Xg] at h;have := ZnV (Zdu _) hd h;exact ⟨this.1.symm, this.2.symm⟩
theorem ZfM (y : ByteArray) (ys : List ByteArray) : (ZY (y :: ys)).data.toList ≠ [] := by rw [Xg]; simp
theorem VE {xs ys : List ByteArray} (h : ZY xs = ZY ys) : xs = ys := by
 induction xs generalizing ys with
 | nil =>
  cases ys with
  | nil => rfl
  | cons y ys => exact absurd (by rw [← h]; rfl) (ZfM y ys)
 | cons x xs ih =>
  cases ys with
  | nil => exact absurd (by rw [h]; rfl) (ZfM x xs)
  | cons y ys =>
   have h1 := ZgK (y := x) (ys := xs) (d := (Zy y.size).data.toList) (t := y.data.toList ++ (ZY ys).data.toList) (by rw [h, Xg]) (Zdu _);have hz : x.size = y.size := ZgJ (YA h1.1.symm);have h2 := h1.2;have hl : y.data.toList.length = x.data.toList.length := by rw [← Zi, ← Zi, hz]
   have h3 := List.append_inj h2 hl;rw [YA h3.1, ih (YA h3.2.symm)]
structure IsRec (s : ByteArray) (l : List ByteArray) : Prop where
  is : ZY l = s
  many : l.length ≤ 60
theorem IsRec.one {s : ByteArray} {l m : List ByteArray} (h : IsRec s l) (k : IsRec s m) : l = m := VE (h.is.trans k.is.symm)
structure Ux (s : ByteArray) (ys : List ByteArray) (rest : ByteArray) : Prop where
  is : s.data.toList = (ZY ys).data.toList ++ rest.data.toList
theorem Ux.zero (s : ByteArray) : Ux s [] s := ⟨by simp [Uw]⟩
theorem Ux.done {s rest : ByteArray} {ys : List ByteArray} (h : Ux s ys rest) (h0 : (rest.toList == (⟨#[]⟩ : ByteArray).toList) = true) : ZY ys = s := by
 obtain rfl := ZW h0;exact YA (by rw [h.is]; simp)
theorem Ux.size {s rest : ByteArray} {ys : List ByteArray} (h : Ux s ys rest) : rest.size ≤ s.size := by
 have := congrArg List.length h.is;rw [length_append, ← Zi, ← Zi, ← Zi] at this
 omega
theorem Ux.left {s rest : ByteArray} {ys l : List ByteArray} (h : Ux s ys rest) (hl : ZY l = s) : ∃ ws, l = ys ++ ws ∧ ZY ws = rest := by
 have key : ∀ (ys l : List ByteArray) (r : List UInt8), (ZY l).data.toList = (ZY ys).data.toList ++ r → ∃ ws, l = ys ++ ws ∧ (ZY ws).data.toList = r := by
  intro ys
  induction ys with
  | nil => exact fun l r e => ⟨l, rfl, by simpa [Uw] using e⟩
  | cons y ys ih =>
   intro l r e
   cases l with
   | nil => rw [Xg, Uw] at e; simp at e
   | cons x xs =>
    rw [Xg y ys] at e;have h1 := ZgK (y := x) (ys := xs) (d := (Zy y.size).data.toList) (t := y.data.toList ++ (ZY ys).data.toList ++ r) (by rw [e]; simp) (Zdu _);have hz : x.size = y.size := ZgJ (YA h1.1.symm);have hlen : y.data.toList.length = x.data.toList.length := by rw [← Zi, ← Zi, hz]
    have h3 := List.append_inj (by rw [← List.append_assoc]; exact h1.2) hlen;obtain ⟨ws, e1, e2⟩ := ih xs r h3.2.symm;exact ⟨ws, by rw [← YA h3.1, e1]; rfl, e2⟩
 obtain ⟨ws, e1, e2⟩ := key ys l rest.data.toList (by rw [hl, h.is]);exact ⟨ws, e1, YA e2⟩
theorem Ux.step {s rest num tail : ByteArray} {ys : List ByteArray} {n : Nat} (h : Ux s ys rest) (hc : rest.data.toList = num.data.toList ++ 58 :: tail.data.toList) (hn : Q4 num = some n) (hz : n ≤ tail.size) : Ux s (ys ++ [tail.extract 0 n]) (tail.extract n tail.size) := by
 have hs := (XT hn).2;have hsz : (tail.extract 0 n).size = n := by rw [size_extract]; omega
 refine ⟨?_⟩;rw [h.is, Zlm, Xg, hsz, Uw, hc, hs, Z9, Z9];have e1 : (tail.data.toList.drop 0).take (n - 0) = tail.data.toList.take n := by simp
 have e2 : (tail.data.toList.drop n).take (tail.size - n) = tail.data.toList.drop n := List.take_of_length_le (by rw [List.length_drop, ← Zi]; exact Nat.le_refl _);rw [e1, e2]
 simp
theorem Ux.go {s rest : ByteArray} {ys l : List ByteArray} (h : Ux s ys rest) (hl : ZY l = s) (hs : s.size ≤ 2048) (h60 : l.length ≤ 60) (hne : (rest.toList == (⟨#[]⟩ : ByteArray).toList) = false) : ∃ (y : ByteArray) (ws : List ByteArray), l = ys ++ y :: ws ∧ rest.data.toList = (Zy y.size).data.toList ++ 58 :: (y.data.toList ++ (ZY ws).data.toList) ∧ Q4 (Zy y.size) = some y.size ∧ ys.length < 60 := by
 obtain ⟨ws, e1, e2⟩ := h.left hl
 cases ws with
 | nil =>
  rw [Uw] at e2;rw [← e2] at hne;rw [show (ByteArray.empty.toList == (⟨#[]⟩ : ByteArray).toList) = true from beq_self_eq_true (a := ByteArray.empty.toList)] at hne
  cases hne
 | cons y ws =>
  have hr : rest.data.toList = (Zy y.size).data.toList ++ 58 :: (y.data.toList ++ (ZY ws).data.toList) := by rw [← e2, Xg]
  refine ⟨y, ws, e1, hr, Zbu ?_, ?_⟩
  ·have h2 := h.size
   have h3 := congrArg List.length hr;rw [length_append, length_cons, length_append] at h3;have h4 := Zi rest;have h5 := Zi y
   omega
  ·rw [e1, length_append, length_cons] at h60; omega
end Go.Proofs.YtfhdmfcfcgbgeaaGreatDoor
