/- A part of the proof in YthnbgnjpbmnelaaGreatDoorTqX34. -/
import Derived.Lib.IndexMore
import Derived.Test.YthnbgnjpbmnelaaGreatDoorTqX19
namespace Go.Proofs.YthnbgnjpbmnelaaGreatDoor
open _root_.ByteArray (size_extract)
open List (length length_append length_cons)
set_option linter.unusedVariables false
set_option linter.unusedSimpArgs false
set_option maxHeartbeats 1000000
set_option maxRecDepth 100000
open Go.RowKit Go.Lib
theorem ZcL (c : UInt8) : ∀ l : List UInt8, (c ∉ l ∧ index l [c] = -1) ∨ ∃ d t, l = d ++ c :: t ∧ c ∉ d ∧ index l [c] = (d.length : Int)
 | [] => .inl ⟨by simp, rfl⟩
 | b :: l => by
  by_cases hb : b = c
  ·subst hb
   refine .inr ⟨[], l, rfl, by simp, ?_⟩;unfold index;rw [if_pos (by simp [List.isPrefixOf])]; rfl
  ·have hi : index (b :: l) [c] = if index l [c] == -1 then -1 else index l [c] + 1 := by
    conv => lhs; unfold index
    rw [if_neg (by simp [List.isPrefixOf]; exact fun e => hb e.symm)]
   rcases ZcL c l with ⟨h1, h2⟩ | ⟨d, t, rfl, h2, h3⟩
   ·exact .inl ⟨by simp [h1]; exact fun e => hb e.symm, by rw [hi, h2]; rfl⟩
   ·refine .inr ⟨b :: d, t, rfl, by simp [h2]; exact fun e => hb e.symm, ?_⟩
    rw [hi, h3, if_neg (by simp)]
    rfl
theorem Zj5 (c : UInt8) (l : List UInt8) : (c ∉ l ∧ (cut l [c]).2.2 = false) ∨ ∃ d t, l = d ++ c :: t ∧ c ∉ d ∧ cut l [c] = (d, t, true) := by
 rcases ZcL c l with ⟨h1, h2⟩ | ⟨d, t, rfl, h2, h3⟩
 ·refine .inl ⟨h1, ?_⟩
  unfold cut;rw [h2]; rfl
 ·refine .inr ⟨d, t, rfl, h2, ?_⟩
  unfold cut;rw [h3, if_pos (by omega), Int.toNat_natCast];have e1 : (d ++ c :: t).take d.length = d := by simp
  have e2 : (d ++ c :: t).drop (d.length + [c].length) = t := by simp [List.drop_append]
  rw [e1, e2]
theorem Zj6 (l : List ByteArray) : ∀ a : ByteArray, l.foldl (fun a s => a ++ Zw s.size ++ Zdo ++ s) a = a ++ ZU l := by
 induction l with
 | nil => exact fun a => Yo (by rw [Zz]; simp [ZU])
 | cons y ys ih =>
  intro a;have h1 := ih (a ++ Zw y.size ++ Zdo ++ y);have h2 := ih (ByteArray.empty ++ Zw y.size ++ Zdo ++ y);unfold ZU;rw [List.foldl_cons, List.foldl_cons, h1, h2];exact Yo (by simp only [Zz, List.append_assoc]; simp)
theorem Xd (y : ByteArray) (ys : List ByteArray) : (ZU (y :: ys)).data.toList = (Zw y.size).data.toList ++ 58 :: (y.data.toList ++ (ZU ys).data.toList) := by
 have h := Zj6 ys (ByteArray.empty ++ Zw y.size ++ Zdo ++ y);have e : ZU (y :: ys) = ByteArray.empty ++ Zw y.size ++ Zdo ++ y ++ ZU ys := h;rw [e];simp only [Zz, List.append_assoc];simp [Zdo]
theorem Uu : ZU [] = ByteArray.empty := rfl
theorem ZlP (xs ys : List ByteArray) : (ZU (xs ++ ys)).data.toList = (ZU xs).data.toList ++ (ZU ys).data.toList := by
 induction xs with
 | nil => simp [Uu]
 | cons x xs ih => rw [List.cons_append, Xd, Xd, ih]; simp
theorem Uv (n : Nat) : (58 : UInt8) ∉ (Zw n).data.toList := by
 intro hx;rw [Yd] at hx;obtain ⟨d, hd⟩ := QQ n 58 hx;obtain ⟨h1, h10⟩ := QP hd;have hn : (UInt8.ofNat (48 + d)).toNat = 48 + d := by rw [UInt8.toNat_ofNat']; omega
 rw [← h1] at hn;have : (58 : UInt8).toNat = 58 := rfl
 omega
theorem ZfZ {a b c d : List UInt8} (ha : (58 : UInt8) ∉ a) (hc : (58 : UInt8) ∉ c) (h : a ++ 58 :: b = c ++ 58 :: d) : a = c ∧ b = d := by
 induction a generalizing c with
 | nil =>
  cases c with
  | nil => simpa using h
  | cons x c => simp at h; exact absurd (by simp [h.1]) hc
 | cons x a ih =>
  cases c with
  | nil => simp at h; exact absurd (by simp [h.1]) ha
  | cons y c =>
   simp only [List.cons_append, List.cons.injEq] at h;obtain ⟨h1, h2⟩ := ih (fun hm => ha (by simp [hm])) (fun hm => hc (by simp [hm])) h.2;exact ⟨by rw [h.1, h1], h2⟩
theorem Zg2 {m n : Nat} (h : Zw m = Zw n) : m = n := by
 have h1 := QA m;have h2 := QA n;rw [← Yd, h, Yd] at h1;exact Option.some.inj (h1.symm.trans h2)
theorem Zg3 {y : ByteArray} {ys : List ByteArray} {d t : List UInt8} (h : (ZU (y :: ys)).data.toList = d ++ 58 :: t) (hd : (58 : UInt8) ∉ d) : d = (Zw y.size).data.toList ∧ t = y.data.toList ++ (ZU ys).data.toList := by
 rw [Xd] at h;have := ZfZ (Uv _) hd h;exact ⟨this.1.symm, this.2.symm⟩
theorem Zf0 (y : ByteArray) (ys : List ByteArray) : (ZU (y :: ys)).data.toList ≠ [] := by rw [Xd]; simp
theorem VB {xs ys : List ByteArray} (h : ZU xs = ZU ys) : xs = ys := by
 induction xs generalizing ys with
 | nil =>
  cases ys with
  | nil => rfl
  | cons y ys => exact absurd (by rw [← h]; rfl) (Zf0 y ys)
 | cons x xs ih =>
  cases ys with
  | nil => exact absurd (by rw [h]; rfl) (Zf0 x xs)
  | cons y ys =>
   have h1 := Zg3 (y := x) (ys := xs) (d := (Zw y.size).data.toList) (t := y.data.toList ++ (ZU ys).data.toList) (by rw [h, Xd]) (Uv _);have hz : x.size = y.size := Zg2 (Yo h1.1.symm);have h2 := h1.2;have hl : y.data.toList.length = x.data.toList.length := by rw [← Zf, ← Zf, hz]
   have h3 := List.append_inj h2 hl;rw [Yo h3.1, ih (Yo h3.2.symm)]
structure IsRec (s : ByteArray) (l : List ByteArray) : Prop where
  is : ZU l = s
  many : l.length ≤ 60
theorem IsRec.one {s : ByteArray} {l m : List ByteArray} (h : IsRec s l) (k : IsRec s m) : l = m := VB (h.is.trans k.is.symm)
structure J0 (s : ByteArray) (ys : List ByteArray) (rest : ByteArray) : Prop where
  is : s.data.toList = (ZU ys).data.toList ++ rest.data.toList
theorem J0.zero (s : ByteArray) : J0 s [] s := ⟨by simp [Uu]⟩
theorem J0.done {s rest : ByteArray} {ys : List ByteArray} (h : J0 s ys rest) (h0 : (rest.toList == (⟨#[]⟩ : ByteArray).toList) = true) : ZU ys = s := by
 obtain rfl := ZS h0;exact Yo (by rw [h.is]; simp)
theorem J0.size {s rest : ByteArray} {ys : List ByteArray} (h : J0 s ys rest) : rest.size ≤ s.size := by
 have := congrArg length h.is;rw [length_append, ← Zf, ← Zf, ← Zf] at this
 omega
theorem J0.left {s rest : ByteArray} {ys l : List ByteArray} (h : J0 s ys rest) (hl : ZU l = s) : ∃ ws, l = ys ++ ws ∧ ZU ws = rest := by
 have key : ∀ (ys l : List ByteArray) (r : List UInt8), (ZU l).data.toList = (ZU ys).data.toList ++ r → ∃ ws, l = ys ++ ws ∧ (ZU ws).data.toList = r := by
  intro ys
  induction ys with
  | nil => exact fun l r e => ⟨l, rfl, by simpa [Uu] using e⟩
  | cons y ys ih =>
   intro l r e
   cases l with
   | nil => rw [Xd, Uu] at e; simp at e
   | cons x xs =>
    rw [Xd y ys] at e;have h1 := Zg3 (y := x) (ys := xs) (d := (Zw y.size).data.toList) (t := y.data.toList ++ (ZU ys).data.toList ++ r) (by rw [e]; simp) (Uv _);have hz : x.size = y.size := Zg2 (Yo h1.1.symm);have hlen : y.data.toList.length = x.data.toList.length := by rw [← Zf, ← Zf, hz]
    have h3 := List.append_inj (by rw [← List.append_assoc]; exact h1.2) hlen;obtain ⟨ws, e1, e2⟩ := ih xs r h3.2.symm;exact ⟨ws, by rw [← Yo h3.1, e1]; rfl, e2⟩
 obtain ⟨ws, e1, e2⟩ := key ys l rest.data.toList (by rw [hl, h.is]);exact ⟨ws, e1, Yo e2⟩
theorem J0.step {s rest num tail : ByteArray} {ys : List ByteArray} {n : Nat} (h : J0 s ys rest) (hc : rest.data.toList = num.data.toList ++ 58 :: tail.data.toList) (hn : QB num = some n) (hz : n ≤ tail.size) : J0 s (ys ++ [tail.extract 0 n]) (tail.extract n tail.size) := by
 have hs := (XR hn).2;have hsz : (tail.extract 0 n).size = n := by rw [size_extract]; omega
 refine ⟨?_⟩;rw [h.is, ZlP, Xd, hsz, Uu, hc, hs, Z8, Z8];have e1 : (tail.data.toList.drop 0).take (n - 0) = tail.data.toList.take n := by simp
 have e2 : (tail.data.toList.drop n).take (tail.size - n) = tail.data.toList.drop n := List.take_of_length_le (by rw [List.length_drop, ← Zf]; exact Nat.le_refl _);rw [e1, e2]
 simp
theorem J0.go {s rest : ByteArray} {ys l : List ByteArray} (h : J0 s ys rest) (hl : ZU l = s) (hs : s.size ≤ 2048) (h60 : l.length ≤ 60) (hne : (rest.toList == (⟨#[]⟩ : ByteArray).toList) = false) : ∃ (y : ByteArray) (ws : List ByteArray), l = ys ++ y :: ws ∧ rest.data.toList = (Zw y.size).data.toList ++ 58 :: (y.data.toList ++ (ZU ws).data.toList) ∧ QB (Zw y.size) = some y.size ∧ ys.length < 60 := by
 obtain ⟨ws, e1, e2⟩ := h.left hl
 cases ws with
 | nil =>
  rw [Uu] at e2;rw [← e2] at hne;rw [show (ByteArray.empty.toList == (⟨#[]⟩ : ByteArray).toList) = true from beq_self_eq_true (a := ByteArray.empty.toList)] at hne
  cases hne
 | cons y ws =>
  have hr : rest.data.toList = (Zw y.size).data.toList ++ 58 :: (y.data.toList ++ (ZU ws).data.toList) := by rw [← e2, Xd]
  refine ⟨y, ws, e1, hr, Vu ?_, ?_⟩
  ·have h2 := h.size
   have h3 := congrArg length hr;rw [length_append, length_cons, length_append] at h3;have h4 := Zf rest;have h5 := Zf y
   omega
  ·rw [e1, length_append, length_cons] at h60; omega
end Go.Proofs.YthnbgnjpbmnelaaGreatDoor
