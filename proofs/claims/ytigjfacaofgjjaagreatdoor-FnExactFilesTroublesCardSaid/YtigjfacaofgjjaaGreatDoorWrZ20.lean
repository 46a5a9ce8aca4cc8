/- A part of the proof in YtigjfacaofgjjaaGreatDoorWrZ33. -/
import Derived.Lib.IndexMore
import Derived.Test.YtigjfacaofgjjaaGreatDoorWrZ19
namespace Go.Proofs.YtigjfacaofgjjaaGreatDoor
set_option linter.unusedVariables false
set_option linter.unusedSimpArgs false
set_option maxHeartbeats 1000000
set_option maxRecDepth 100000
open Go.RowKit Go.Lib
theorem Zcs (c : UInt8) : ∀ l : List UInt8, (c ∉ l ∧ index l [c] = -1) ∨ ∃ d t, l = d ++ c :: t ∧ c ∉ d ∧ index l [c] = (d.length : Int)
  | [] => .inl ⟨by simp, rfl⟩
  | b :: l => by
    by_cases hb : b = c
    · subst hb
      refine .inr ⟨[], l, rfl, by simp, ?_⟩;unfold index;rw [if_pos (by simp [List.isPrefixOf])]; rfl
    · have hi : index (b :: l) [c] = if index l [c] == -1 then -1 else index l [c] + 1 := by
        conv => lhs; unfold index
        rw [if_neg (by simp [List.isPrefixOf]; exact fun e => hb e.symm)]
      rcases Zcs c l with ⟨h1, h2⟩ | ⟨d, t, rfl, h2, h3⟩
      · exact .inl ⟨by simp [h1]; exact fun e => hb e.symm, by rw [hi, h2]; rfl⟩
      · refine .inr ⟨b :: d, t, rfl, by simp [h2]; exact fun e => hb e.symm, ?_⟩
        rw [hi, h3, if_neg (by simp)]
        rfl
theorem Zfl (c : UInt8) (l : List UInt8) : (c ∉ l ∧ (cut l [c]).2.2 = false) ∨ ∃ d t, l = d ++ c :: t ∧ c ∉ d ∧ cut l [c] = (d, t, true) := by
  rcases Zcs c l with ⟨h1, h2⟩ | ⟨d, t, rfl, h2, h3⟩
  · refine .inl ⟨h1, ?_⟩
    unfold cut;rw [h2]; rfl
  · refine .inr ⟨d, t, rfl, h2, ?_⟩
    unfold cut;rw [h3, if_pos (by omega), Int.toNat_natCast];have e1 : (d ++ c :: t).take d.length = d := by simp
    have e2 : (d ++ c :: t).drop (d.length + [c].length) = t := by simp [List.drop_append]
    rw [e1, e2]
theorem ZjV (l : List ByteArray) : ∀ a : ByteArray, l.foldl (fun a s => a ++ ZJ s.size ++ Zdw ++ s) a = a ++ Z8 l := by
  induction l with
  | nil => exact fun a => Yn (by rw [ZO]; simp [Z8])
  | cons y ys ih =>
    intro a;have h1 := ih (a ++ ZJ y.size ++ Zdw ++ y);have h2 := ih (ByteArray.empty ++ ZJ y.size ++ Zdw ++ y);unfold Z8;rw [List.foldl_cons, List.foldl_cons, h1, h2];exact Yn (by simp only [ZO, List.append_assoc]; simp)
theorem Xy (y : ByteArray) (ys : List ByteArray) : (Z8 (y :: ys)).data.toList = (ZJ y.size).data.toList ++ 58 :: (y.data.toList ++ (Z8 ys).data.toList) := by
  have h := ZjV ys (ByteArray.empty ++ ZJ y.size ++ Zdw ++ y);have e : Z8 (y :: ys) = ByteArray.empty ++ ZJ y.size ++ Zdw ++ y ++ Z8 ys := h;rw [e];simp only [ZO, List.append_assoc];simp [Zdw]
theorem Uh : Z8 [] = ByteArray.empty := rfl
theorem Zlh (xs ys : List ByteArray) : (Z8 (xs ++ ys)).data.toList = (Z8 xs).data.toList ++ (Z8 ys).data.toList := by
  induction xs with
  | nil => simp [Uh]
  | cons x xs ih => rw [List.cons_append, Xy, Xy, ih]; simp
theorem Ui (n : Nat) : (58 : UInt8) ∉ (ZJ n).data.toList := by
  intro hx;rw [Yg] at hx;obtain ⟨d, hd⟩ := QV n 58 hx;obtain ⟨h1, h10⟩ := QU hd;have hn : (UInt8.ofNat (48 + d)).toNat = 48 + d := by rw [UInt8.toNat_ofNat']; omega
  rw [← h1] at hn;have : (58 : UInt8).toNat = 58 := rfl
  omega
theorem Zgc {a b c d : List UInt8} (ha : (58 : UInt8) ∉ a) (hc : (58 : UInt8) ∉ c) (h : a ++ 58 :: b = c ++ 58 :: d) : a = c ∧ b = d := by
  induction a generalizing c with
  | nil =>
    cases c with
    | nil => simpa using h
    | cons x c => simp at h; exact absurd (by simp [h.1]) hc
  | cons x a ih =>
    cases c with
    | nil => simp at h; exact absurd (by simp [h.1]) ha
    | cons y c =>
      simp only [List.cons_append, List.cons.injEq] at h;obtain ⟨h1, h2⟩ := ih (fun hm => ha (by simp [hm])) (fun hm => hc (by simp [hm])) h.2;exact ⟨by rw [h.1, h1], h2⟩
theorem ZgZ {m n : Nat} (h : ZJ m = ZJ n) : m = n := by
  have h1 := Qx m;have h2 := Qx n;rw [← Yg, h, Yg] at h1;exact Option.some.inj (h1.symm.trans h2)
theorem Zg0 {y : ByteArray} {ys : List ByteArray} {d t : List UInt8} (h : (Z8 (y :: ys)).data.toList = d ++ 58 :: t) (hd : (58 : UInt8) ∉ d) : d = (ZJ y.size).data.toList ∧ t = y.data.toList ++ (Z8 ys).data.toList := by
  rw [Xy] at h;have := Zgc (Ui _) hd h;exact ⟨this.1.symm, this.2.symm⟩
theorem Zc5 (y : ByteArray) (ys : List ByteArray) : (Z8 (y :: ys)).data.toList ≠ [] := by rw [Xy]; simp
theorem Ve {xs ys : List ByteArray} (h : Z8 xs = Z8 ys) : xs = ys := by
  induction xs generalizing ys with
  | nil =>
    cases ys with
    | nil => rfl
    | cons y ys => exact absurd (by rw [← h]; rfl) (Zc5 y ys)
  | cons x xs ih =>
    cases ys with
    | nil => exact absurd (by rw [h]; rfl) (Zc5 x xs)
    | cons y ys =>
      have h1 := Zg0 (y := x) (ys := xs) (d := (ZJ y.size).data.toList) (t := y.data.toList ++ (Z8 ys).data.toList) (by rw [h, Xy]) (Ui _);have hz : x.size = y.size := ZgZ (Yn h1.1.symm);have h2 := h1.2;have hl : y.data.toList.length = x.data.toList.length := by rw [← Zj, ← Zj, hz]
      have h3 := List.append_inj h2 hl;rw [Yn h3.1, ih (Yn h3.2.symm)]
structure IsRec (s : ByteArray) (l : List ByteArray) : Prop where
  is : Z8 l = s
  many : l.length ≤ 60
theorem IsRec.one {s : ByteArray} {l m : List ByteArray} (h : IsRec s l) (k : IsRec s m) : l = m := Ve (h.is.trans k.is.symm)
structure JP (s : ByteArray) (ys : List ByteArray) (rest : ByteArray) : Prop where
  is : s.data.toList = (Z8 ys).data.toList ++ rest.data.toList
theorem JP.zero (s : ByteArray) : JP s [] s := ⟨by simp [Uh]⟩
theorem JP.done {s rest : ByteArray} {ys : List ByteArray} (h : JP s ys rest) (h0 : (rest.toList == (⟨#[]⟩ : ByteArray).toList) = true) : Z8 ys = s := by
  obtain rfl := ZR h0;exact Yn (by rw [h.is]; simp)
theorem JP.size {s rest : ByteArray} {ys : List ByteArray} (h : JP s ys rest) : rest.size ≤ s.size := by
  have := congrArg List.length h.is;rw [List.length_append, ← Zj, ← Zj, ← Zj] at this
  omega
theorem JP.left {s rest : ByteArray} {ys l : List ByteArray} (h : JP s ys rest) (hl : Z8 l = s) : ∃ ws, l = ys ++ ws ∧ Z8 ws = rest := by
  have key : ∀ (ys l : List ByteArray) (r : List UInt8), (Z8 l).data.toList = (Z8 ys).data.toList ++ r → ∃ ws, l = ys ++ ws ∧ (Z8 ws).data.toList = r := by
    intro ys
    induction ys with
    | nil => exact fun l r e => ⟨l, rfl, by simpa [Uh] using e⟩
    | cons y ys ih =>
      intro l r e
      cases l with
      | nil => rw [Xy, Uh] at e; simp at e
      | cons x xs =>
        rw [Xy y ys] at e;have h1 := Zg0 (y := x) (ys := xs) (d := (ZJ y.size).data.toList) (t := y.data.toList ++ (Z8 ys).data.toList ++ r) (by rw [e]; simp) (Ui _);have hz : x.size = y.size := ZgZ (Yn h1.1.symm);have hlen : y.data.toList.length = x.data.toList.length := by rw [← Zj, ← Zj, hz]
        have h3 := List.append_inj (by rw [← List.append_assoc]; exact h1.2) hlen;obtain ⟨ws, e1, e2⟩ := ih xs r h3.2.symm;exact ⟨ws, by rw [← Yn h3.1, e1]; rfl, e2⟩
  obtain ⟨ws, e1, e2⟩ := key ys l rest.data.toList (by rw [hl, h.is]);exact ⟨ws, e1, Yn e2⟩
theorem JP.step {s rest num tail : ByteArray} {ys : List ByteArray} {n : Nat} (h : JP s ys rest) (hc : rest.data.toList = num.data.toList ++ 58 :: tail.data.toList) (hn : Qi num = some n) (hz : n ≤ tail.size) : JP s (ys ++ [tail.extract 0 n]) (tail.extract n tail.size) := by
  have hs := (Xe hn).2;have hsz : (tail.extract 0 n).size = n := by rw [ByteArray.size_extract]; omega
  refine ⟨?_⟩;rw [h.is, Zlh, Xy, hsz, Uh, hc, hs, Z1, Z1];have e1 : (tail.data.toList.drop 0).take (n - 0) = tail.data.toList.take n := by simp
  have e2 : (tail.data.toList.drop n).take (tail.size - n) = tail.data.toList.drop n := List.take_of_length_le (by rw [List.length_drop, ← Zj]; exact Nat.le_refl _);rw [e1, e2]
  simp
theorem JP.go {s rest : ByteArray} {ys l : List ByteArray} (h : JP s ys rest) (hl : Z8 l = s) (hs : s.size ≤ 2048) (h60 : l.length ≤ 60) (hne : (rest.toList == (⟨#[]⟩ : ByteArray).toList) = false) : ∃ (y : ByteArray) (ws : List ByteArray), l = ys ++ y :: ws ∧ rest.data.toList = (ZJ y.size).data.toList ++ 58 :: (y.data.toList ++ (Z8 ws).data.toList) ∧ Qi (ZJ y.size) = some y.size ∧ ys.length < 60 := by
  obtain ⟨ws, e1, e2⟩ := h.left hl
  cases ws with
  | nil =>
    rw [Uh] at e2;rw [← e2] at hne;rw [show (ByteArray.empty.toList == (⟨#[]⟩ : ByteArray).toList) = true from beq_self_eq_true (a := ByteArray.empty.toList)] at hne
    cases hne
  | cons y ws =>
    have hr : rest.data.toList = (ZJ y.size).data.toList ++ 58 :: (y.data.toList ++ (Z8 ws).data.toList) := by rw [← e2, Xy]
    refine ⟨y, ws, e1, hr, Va ?_, ?_⟩
    · have h2 := h.size
      have h3 := congrArg List.length hr;rw [List.length_append, List.length_cons, List.length_append] at h3;have h4 := Zj rest;have h5 := Zj y
      omega
    · rw [e1, List.length_append, List.length_cons] at h60; omega
end Go.Proofs.YtigjfacaofgjjaaGreatDoor
