/- A part of the proof in YtfhdmfcfcgbgeaaGreatDoorNpX34. -/
import Derived.Lib.IndexMore
import Derived.Test.YtfhdmfcfcgbgeaaGreatDoorNpX19
namespace Go.Proofs.YtfhdmfcfcgbgeaaGreatDoor
open _root_.ByteArray (size_extract)
open List (length length_append length_cons)
set_option linter.unusedVariables false
set_option linter.unusedSimpArgs false
set_option maxHeartbeats 1000000
set_option maxRecDepth 100000
open Go.RowKit Go.Lib
theorem ZcX (c : UInt8) : ∀ l : List UInt8, (c ∉ l ∧ index l [c] = -1) ∨ ∃ d t, l = d ++ c :: t ∧ c ∉ d ∧ index l [c] = (d.length : Int)
 | [] => .inl ⟨by simp, rfl⟩
 | b :: l => by
  by_cases hb : b = c
  ·subst hb
   refine .inr ⟨[], l, rfl, by simp, ?_⟩;unfold index;rw [if_pos (by simp [List.isPrefixOf])]; rfl
  ·have hi : index (b :: l) [c] = if index l [c] == -1 then -1 else index l [c] + 1 := by
    conv => lhs; unfold index
    rw [if_neg (by simp [List.isPrefixOf]; exact fun e => hb e.symm)]
   rcases ZcX c l with ⟨h1, h2⟩ | ⟨d, t, rfl, h2, h3⟩
   ·exact .inl ⟨by simp [h1]; exact fun e => hb e.symm, by rw [hi, h2]; rfl⟩
   ·refine .inr ⟨b :: d, t, rfl, by simp [h2]; exact fun e => hb e.symm, ?_⟩
    rw [hi, h3, if_neg (by simp)]
    rfl
theorem Zkc (c : UInt8) (l : List UInt8) : (c ∉ l ∧ (cut l [c]).2.2 = false) ∨ ∃ d t, l = d ++ c :: t ∧ c ∉ d ∧ cut l [c] = (d, t, true) := by
 rcases ZcX c l with ⟨h1, h2⟩ | ⟨d, t, rfl, h2, h3⟩
 ·refine .inl ⟨h1, ?_⟩
  unfold cut;rw [h2]; rfl
 ·refine .inr ⟨d, t, rfl, h2, ?_⟩
  unfold cut;rw [h3, if_pos (by omega), Int.toNat_natCast];have e1 : (d ++ c :: t).take d.length = d := by simp
  have e2 : (d ++ c :: t).drop (d.length + [c].length) = t := by simp [List.drop_append]
  rw [e1, e2]
theorem Zkd (l : List ByteArray) : ∀ a : ByteArray, l.foldl (fun a s => a ++ Zy s.size ++ ZdB ++ s) a = a ++ Z1 l := by
 induction l with
 | nil => exact fun a => Yx (by rw [ZB]; simp [Z1])
 | cons y ys ih =>
  intro a;have h1 := ih (a ++ Zy y.size ++ ZdB ++ y);have h2 := ih (ByteArray.empty ++ Zy y.size ++ ZdB ++ y);unfold Z1;rw [List.foldl_cons, List.foldl_cons, h1, h2];exact Yx (by simp only [ZB, List.append_assoc]; simp)
theorem Xr (y : ByteArray) (ys : List ByteArray) : (Z1 (y :: ys)).data.toList = (Zy y.size).data.toList ++ 58 :: (y.data.toList ++ (Z1 ys).data.toList) := by
 have h := Zkd ys (ByteArray.empty ++ Zy y.size ++ ZdB ++ y);have e : Z1 (y :: ys) = ByteArray.empty ++ Zy y.size ++ ZdB ++ y ++ Z1 ys := h;rw [e];simp only [ZB, List.append_assoc];simp [ZdB]
theorem UH : Z1 [] = ByteArray.empty := rfl
theorem ZlR (xs ys : List ByteArray) : (Z1 (xs ++ ys)).data.toList = (Z1 xs).data.toList ++ (Z1 ys).data.toList := by
 induction xs with
 | nil => simp [UH]
 | cons x xs ih => rw [List.cons_append, Xr, Xr, ih]; simp
theorem UI (n : Nat) : (58 : UInt8) ∉ (Zy n).data.toList := by
 intro hx;rw [Yj] at hx;obtain ⟨d, hd⟩ := Q2 n 58 hx;obtain ⟨h1, h10⟩ := Q1 hd;have hn : (UInt8.ofNat (48 + d)).toNat = 48 + d := by rw [UInt8.toNat_ofNat']; omega
 rw [← h1] at hn;have : (58 : UInt8).toNat = 58 := rfl
 omega
theorem Zf5 {a b c d : List UInt8} (ha : (58 : UInt8) ∉ a) (hc : (58 : UInt8) ∉ c) (h : a ++ 58 :: b = c ++ 58 :: d) : a = c ∧ b = d := by
 induction a generalizing c with
 | nil =>
  cases c with
  | nil => simpa using h
  | cons x c => simp at h; exact absurd (by simp [h.1]) hc
 | cons x a ih =>
  cases c with
  | nil => simp at h; exact absurd (by simp [h.1]) ha
  | cons y c =>
   simp only [List.cons_append, List.cons.injEq] at h;obtain ⟨h1, h2⟩ := ih (fun hm => ha (by simp [hm])) (fun hm => hc (by simp [hm])) h.2;exact ⟨by rw [h.1, h1], h2⟩
theorem Zg8 {m n : Nat} (h : Zy m = Zy n) : m = n := by
 have h1 := QN m;have h2 := QN n;rw [← Yj, h, Yj] at h1;exact Option.some.inj (h1.symm.trans h2)
theorem Zg9 {y : ByteArray} {ys : List ByteArray} {d t : List UInt8} (h : (Z1 (y :: ys)).data.toList = d ++ 58 :: t) (hd : (58 : UInt8) ∉ d) : d = (Zy y.size).data.toList ∧ t = y.data.toList ++ (Z1 ys).data.toList := by
 rw [Xr] at h;have := Zf5 (UI _) hd h;exact ⟨this.1.symm, this.2.symm⟩
theorem Zdo (y : ByteArray) (ys : List ByteArray) : (Z1 (y :: ys)).data.toList ≠ [] := by rw [Xr]; simp
theorem VO {xs ys : List ByteArray} (h : Z1 xs = Z1 ys) : xs = ys := by
 induction xs generalizing ys with
 | nil =>
  cases ys with
  | nil => rfl
  | cons y ys => exact absurd (by rw [← h]; rfl) (Zdo y ys)
 | cons x xs ih =>
  cases ys with
  | nil => exact absurd (by rw [h]; rfl) (Zdo x xs)
  | cons y ys =>
   have h1 := Zg9 (y := x) (ys := xs) (d := (Zy y.size).data.toList) (t := y.data.toList ++ (Z1 ys).data.toList) (by rw [h, Xr]) (UI _);have hz : x.size = y.size := Zg8 (Yx h1.1.symm);have h2 := h1.2;have hl : y.data.toList.length = x.data.toList.length := by rw [← Zh, ← Zh, hz]
   have h3 := List.append_inj h2 hl;rw [Yx h3.1, ih (Yx h3.2.symm)]
structure IsRec (s : ByteArray) (l : List ByteArray) : Prop where
  is : Z1 l = s
  many : l.length ≤ 60
theorem IsRec.one {s : ByteArray} {l m : List ByteArray} (h : IsRec s l) (k : IsRec s m) : l = m := VO (h.is.trans k.is.symm)
structure Uf (s : ByteArray) (ys : List ByteArray) (rest : ByteArray) : Prop where
  is : s.data.toList = (Z1 ys).data.toList ++ rest.data.toList
theorem Uf.zero (s : ByteArray) : Uf s [] s := ⟨by simp [UH]⟩
theorem Uf.done {s rest : ByteArray} {ys : List ByteArray} (h : Uf s ys rest) (h0 : (rest.toList == (⟨#[]⟩ : ByteArray).toList) = true) : Z1 ys = s := by
 obtain rfl := ZM h0;exact Yx (by rw [h.is]; simp)
theorem Uf.size {s rest : ByteArray} {ys : List ByteArray} (h : Uf s ys rest) : rest.size ≤ s.size := by
 have := congrArg length h.is;rw [length_append, ← Zh, ← Zh, ← Zh] at this
 omega
theorem Uf.left {s rest : ByteArray} {ys l : List ByteArray} (h : Uf s ys rest) (hl : Z1 l = s) : ∃ ws, l = ys ++ ws ∧ Z1 ws = rest := by
 have key : ∀ (ys l : List ByteArray) (r : List UInt8), (Z1 l).data.toList = (Z1 ys).data.toList ++ r → ∃ ws, l = ys ++ ws ∧ (Z1 ws).data.toList = r := by
  intro ys
  induction ys with
  | nil => exact fun l r e => ⟨l, rfl, by simpa [UH] using e⟩
  | cons y ys ih =>
   intro l r e
   cases l with
   | nil => rw [Xr, UH] at e; simp at e
   | cons x xs =>
    rw [Xr y ys] at e;have h1 := Zg9 (y := x) (ys := xs) (d := (Zy y.size).data.toList) (t := y.data.toList ++ (Z1 ys).data.toList ++ r) (by rw [e]; simp) (UI _);have hz : x.size = y.size := Zg8 (Yx h1.1.symm);have hlen : y.data.toList.length = x.data.toList.length := by rw [← Zh, ← Zh, hz]
    have h3 := List.append_inj (by rw [← List.append_assoc]; exact h1.2) hlen;obtain ⟨ws, e1, e2⟩ := ih xs r h3.2.symm;exact ⟨ws, by rw [← Yx h3.1, e1]; rfl, e2⟩
 obtain ⟨ws, e1, e2⟩ := key ys l rest.data.toList (by rw [hl, h.is]);exact ⟨ws, e1, Yx e2⟩
theorem Uf.step {s rest num tail : ByteArray} {ys : List ByteArray} {n : Nat} (h : Uf s ys rest) (hc : rest.data.toList = num.data.toList ++ 58 :: tail.data.toList) (hn : Qr num = some n) (hz : n ≤ tail.size) : Uf s (ys ++ [tail.extract 0 n]) (tail.extract n tail.size) := by
 have hs := (XL hn).2;have hsz : (tail.extract 0 n).size = n := by rw [size_extract]; omega
 refine ⟨?_⟩;rw [h.is, ZlR, Xr, hsz, UH, hc, hs, Yd, Yd];have e1 : (tail.data.toList.drop 0).take (n - 0) = tail.data.toList.take n := by simp
 have e2 : (tail.data.toList.drop n).take (tail.size - n) = tail.data.toList.drop n := List.take_of_length_le (by rw [List.length_drop, ← Zh]; exact Nat.le_refl _);rw [e1, e2]
 simp
theorem Uf.go {s rest : ByteArray} {ys l : List ByteArray} (h : Uf s ys rest) (hl : Z1 l = s) (hs : s.size ≤ 2048) (h60 : l.length ≤ 60) (hne : (rest.toList == (⟨#[]⟩ : ByteArray).toList) = false) : ∃ (y : ByteArray) (ws : List ByteArray), l = ys ++ y :: ws ∧ rest.data.toList = (Zy y.size).data.toList ++ 58 :: (y.data.toList ++ (Z1 ws).data.toList) ∧ Qr (Zy y.size) = some y.size ∧ ys.length < 60 := by
 obtain ⟨ws, e1, e2⟩ := h.left hl
 cases ws with
 | nil =>
  rw [UH] at e2;rw [← e2] at hne;rw [show (ByteArray.empty.toList == (⟨#[]⟩ : ByteArray).toList) = true from beq_self_eq_true (a := ByteArray.empty.toList)] at hne
  cases hne
 | cons y ws =>
  have hr : rest.data.toList = (Zy y.size).data.toList ++ 58 :: (y.data.toList ++ (Z1 ws).data.toList) := by rw [← e2, Xr]
  refine ⟨y, ws, e1, hr, VK ?_, ?_⟩
  ·have h2 := h.size
   have h3 := congrArg length hr;rw [length_append, length_cons, length_append] at h3;have h4 := Zh rest;have h5 := Zh y
   omega
  ·rw [e1, length_append, length_cons] at h60; omega
end Go.Proofs.YtfhdmfcfcgbgeaaGreatDoor
