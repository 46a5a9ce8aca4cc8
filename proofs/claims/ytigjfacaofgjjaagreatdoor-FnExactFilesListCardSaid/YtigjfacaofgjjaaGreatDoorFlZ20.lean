/- A part of the proof in YtigjfacaofgjjaaGreatDoorFlZ32. -/
import Derived.Lib.IndexMore
import Derived.Test.YtigjfacaofgjjaaGreatDoorFlZ19
namespace Go.Proofs.YtigjfacaofgjjaaGreatDoor
set_option linter.unusedVariables false
set_option linter.unusedSimpArgs false
set_option maxHeartbeats 1000000
set_option maxRecDepth 100000
open Go.RowKit Go.Lib
theorem Zct (c : UInt8) : ∀ l : List UInt8, (c ∉ l ∧ index l [c] = -1) ∨ ∃ d t, l = d ++ c :: t ∧ c ∉ d ∧ index l [c] = (d.length : Int)
  | [] => .inl ⟨by simp, rfl⟩
  | b :: l => by
    by_cases hb : b = c
    · subst hb
      refine .inr ⟨[], l, rfl, by simp, ?_⟩;unfold index;rw [if_pos (by simp [List.isPrefixOf])]; rfl
    · have hi : index (b :: l) [c] = if index l [c] == -1 then -1 else index l [c] + 1 := by
        conv => lhs; unfold index
        rw [if_neg (by simp [List.isPrefixOf]; exact fun e => hb e.symm)]
      rcases Zct c l with ⟨h1, h2⟩ | ⟨d, t, rfl, h2, h3⟩
      · exact .inl ⟨by simp [h1]; exact fun e => hb e.symm, by rw [hi, h2]; rfl⟩
      · refine .inr ⟨b :: d, t, rfl, by simp [h2]; exact fun e => hb e.symm, ?_⟩
        rw [hi, h3, if_neg (by simp)]
        rfl
theorem ZfI (c : UInt8) (l : List UInt8) : (c ∉ l ∧ (cut l [c]).2.2 = false) ∨ ∃ d t, l = d ++ c :: t ∧ c ∉ d ∧ cut l [c] = (d, t, true) := by
  rcases Zct c l with ⟨h1, h2⟩ | ⟨d, t, rfl, h2, h3⟩
  · refine .inl ⟨h1, ?_⟩
    unfold cut;rw [h2]; rfl
  · refine .inr ⟨d, t, rfl, h2, ?_⟩
    unfold cut;rw [h3, if_pos (by omega), Int.toNat_natCast];have e1 : (d ++ c :: t).take d.length = d := by simp
    have e2 : (d ++ c :: t).drop (d.length + [c].length) = t := by simp [List.drop_append]
    rw [e1, e2]
theorem ZkB (l : List ByteArray) : ∀ a : ByteArray, l.foldl (fun a s => a ++ ZE s.size ++ ZdA ++ s) a = a ++ ZX l := by
  induction l with
  | nil => exact fun a => Ys (by rw [ZH]; simp [ZX])
  | cons y ys ih =>
    intro a;have h1 := ih (a ++ ZE y.size ++ ZdA ++ y);have h2 := ih (ByteArray.empty ++ ZE y.size ++ ZdA ++ y);unfold ZX;rw [List.foldl_cons, List.foldl_cons, h1, h2];exact Ys (by simp only [ZH, List.append_assoc]; simp)
theorem Xn (y : ByteArray) (ys : List ByteArray) : (ZX (y :: ys)).data.toList = (ZE y.size).data.toList ++ 58 :: (y.data.toList ++ (ZX ys).data.toList) := by
  have h := ZkB ys (ByteArray.empty ++ ZE y.size ++ ZdA ++ y);have e : ZX (y :: ys) = ByteArray.empty ++ ZE y.size ++ ZdA ++ y ++ ZX ys := h;rw [e];simp only [ZH, List.append_assoc];simp [ZdA]
theorem JW : ZX [] = ByteArray.empty := rfl
theorem Zl3 (xs ys : List ByteArray) : (ZX (xs ++ ys)).data.toList = (ZX xs).data.toList ++ (ZX ys).data.toList := by
  induction xs with
  | nil => simp [JW]
  | cons x xs ih => rw [List.cons_append, Xn, Xn, ih]; simp
theorem JX (n : Nat) : (58 : UInt8) ∉ (ZE n).data.toList := by
  intro hx;rw [Z8] at hx;obtain ⟨d, hd⟩ := QE n 58 hx;obtain ⟨h1, h10⟩ := QD hd;have hn : (UInt8.ofNat (48 + d)).toNat = 48 + d := by rw [UInt8.toNat_ofNat']; omega
  rw [← h1] at hn;have : (58 : UInt8).toNat = 58 := rfl
  omega
theorem Zgx {a b c d : List UInt8} (ha : (58 : UInt8) ∉ a) (hc : (58 : UInt8) ∉ c) (h : a ++ 58 :: b = c ++ 58 :: d) : a = c ∧ b = d := by
  induction a generalizing c with
  | nil =>
    cases c with
    | nil => simpa using h
    | cons x c => simp at h; exact absurd (by simp [h.1]) hc
  | cons x a ih =>
    cases c with
    | nil => simp at h; exact absurd (by simp [h.1]) ha
    | cons y c =>
      simp only [List.cons_append, List.cons.injEq] at h;obtain ⟨h1, h2⟩ := ih (fun hm => ha (by simp [hm])) (fun hm => hc (by simp [hm])) h.2;exact ⟨by rw [h.1, h1], h2⟩
theorem ZhA {m n : Nat} (h : ZE m = ZE n) : m = n := by
  have h1 := Qh m;have h2 := Qh n;rw [← Z8, h, Z8] at h1;exact Option.some.inj (h1.symm.trans h2)
theorem ZhB {y : ByteArray} {ys : List ByteArray} {d t : List UInt8} (h : (ZX (y :: ys)).data.toList = d ++ 58 :: t) (hd : (58 : UInt8) ∉ d) : d = (ZE y.size).data.toList ∧ t = y.data.toList ++ (ZX ys).data.toList := by
  rw [Xn] at h;have := Zgx (JX _) hd h;exact ⟨this.1.symm, this.2.symm⟩
theorem Zc7 (y : ByteArray) (ys : List ByteArray) : (ZX (y :: ys)).data.toList ≠ [] := by rw [Xn]; simp
theorem UX {xs ys : List ByteArray} (h : ZX xs = ZX ys) : xs = ys := by
  induction xs generalizing ys with
  | nil =>
    cases ys with
    | nil => rfl
    | cons y ys => exact absurd (by rw [← h]; rfl) (Zc7 y ys)
  | cons x xs ih =>
    cases ys with
    | nil => exact absurd (by rw [h]; rfl) (Zc7 x xs)
    | cons y ys =>
      have h1 := ZhB (y := x) (ys := xs) (d := (ZE y.size).data.toList) (t := y.data.toList ++ (ZX ys).data.toList) (by rw [h, Xn]) (JX _);have hz : x.size = y.size := ZhA (Ys h1.1.symm);have h2 := h1.2;have hl : y.data.toList.length = x.data.toList.length := by rw [← Zf, ← Zf, hz]
      have h3 := List.append_inj h2 hl;rw [Ys h3.1, ih (Ys h3.2.symm)]
structure IsRec (s : ByteArray) (l : List ByteArray) : Prop where
  is : ZX l = s
  many : l.length ≤ 60
theorem IsRec.one {s : ByteArray} {l m : List ByteArray} (h : IsRec s l) (k : IsRec s m) : l = m := UX (h.is.trans k.is.symm)
structure Jv (s : ByteArray) (ys : List ByteArray) (rest : ByteArray) : Prop where
  is : s.data.toList = (ZX ys).data.toList ++ rest.data.toList
theorem Jv.zero (s : ByteArray) : Jv s [] s := ⟨by simp [JW]⟩
theorem Jv.done {s rest : ByteArray} {ys : List ByteArray} (h : Jv s ys rest) (h0 : (rest.toList == (⟨#[]⟩ : ByteArray).toList) = true) : ZX ys = s := by
  obtain rfl := ZJ h0;exact Ys (by rw [h.is]; simp)
theorem Jv.size {s rest : ByteArray} {ys : List ByteArray} (h : Jv s ys rest) : rest.size ≤ s.size := by
  have := congrArg List.length h.is;rw [List.length_append, ← Zf, ← Zf, ← Zf] at this
  omega
theorem Jv.left {s rest : ByteArray} {ys l : List ByteArray} (h : Jv s ys rest) (hl : ZX l = s) : ∃ ws, l = ys ++ ws ∧ ZX ws = rest := by
  have key : ∀ (ys l : List ByteArray) (r : List UInt8), (ZX l).data.toList = (ZX ys).data.toList ++ r → ∃ ws, l = ys ++ ws ∧ (ZX ws).data.toList = r := by
    intro ys
    induction ys with
    | nil => exact fun l r e => ⟨l, rfl, by simpa [JW] using e⟩
    | cons y ys ih =>
      intro l r e
      cases l with
      | nil => rw [Xn, JW] at e; simp at e
      | cons x xs =>
        rw [Xn y ys] at e;have h1 := ZhB (y := x) (ys := xs) (d := (ZE y.size).data.toList) (t := y.data.toList ++ (ZX ys).data.toList ++ r) (by rw [e]; simp) (JX _);have hz : x.size = y.size := ZhA (Ys h1.1.symm);have hlen : y.data.toList.length = x.data.toList.length := by rw [← Zf, ← Zf, hz]
        have h3 := List.append_inj (by rw [← List.append_assoc]; exact h1.2) hlen;obtain ⟨ws, e1, e2⟩ := ih xs r h3.2.symm;exact ⟨ws, by rw [← Ys h3.1, e1]; rfl, e2⟩
  obtain ⟨ws, e1, e2⟩ := key ys l rest.data.toList (by rw [hl, h.is]);exact ⟨ws, e1, Ys e2⟩
theorem Jv.step {s rest num tail : ByteArray} {ys : List ByteArray} {n : Nat} (h : Jv s ys rest) (hc : rest.data.toList = num.data.toList ++ 58 :: tail.data.toList) (hn : XV num = some n) (hz : n ≤ tail.size) : Jv s (ys ++ [tail.extract 0 n]) (tail.extract n tail.size) := by
  have hs := (Y5 hn).2;have hsz : (tail.extract 0 n).size = n := by rw [ByteArray.size_extract]; omega
  refine ⟨?_⟩;rw [h.is, Zl3, Xn, hsz, JW, hc, hs, ZV, ZV];have e1 : (tail.data.toList.drop 0).take (n - 0) = tail.data.toList.take n := by simp
  have e2 : (tail.data.toList.drop n).take (tail.size - n) = tail.data.toList.drop n := List.take_of_length_le (by rw [List.length_drop, ← Zf]; exact Nat.le_refl _);rw [e1, e2]
  simp
theorem Jv.go {s rest : ByteArray} {ys l : List ByteArray} (h : Jv s ys rest) (hl : ZX l = s) (hs : s.size ≤ 2048) (h60 : l.length ≤ 60) (hne : (rest.toList == (⟨#[]⟩ : ByteArray).toList) = false) : ∃ (y : ByteArray) (ws : List ByteArray), l = ys ++ y :: ws ∧ rest.data.toList = (ZE y.size).data.toList ++ 58 :: (y.data.toList ++ (ZX ws).data.toList) ∧ XV (ZE y.size) = some y.size ∧ ys.length < 60 := by
  obtain ⟨ws, e1, e2⟩ := h.left hl
  cases ws with
  | nil =>
    rw [JW] at e2;rw [← e2] at hne;rw [show (ByteArray.empty.toList == (⟨#[]⟩ : ByteArray).toList) = true from beq_self_eq_true (a := ByteArray.empty.toList)] at hne
    cases hne
  | cons y ws =>
    have hr : rest.data.toList = (ZE y.size).data.toList ++ 58 :: (y.data.toList ++ (ZX ws).data.toList) := by rw [← e2, Xn]
    refine ⟨y, ws, e1, hr, UR ?_, ?_⟩
    · have h2 := h.size
      have h3 := congrArg List.length hr;rw [List.length_append, List.length_cons, List.length_append] at h3;have h4 := Zf rest;have h5 := Zf y
      omega
    · rw [e1, List.length_append, List.length_cons] at h60; omega
end Go.Proofs.YtigjfacaofgjjaaGreatDoor
