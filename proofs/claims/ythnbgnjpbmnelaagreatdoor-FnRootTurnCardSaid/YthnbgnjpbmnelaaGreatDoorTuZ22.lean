/- A part of the proof in YthnbgnjpbmnelaaGreatDoorTuZ31. -/
import Derived.Lib.IndexMore
import Derived.Test.YthnbgnjpbmnelaaGreatDoorTuZ21
/- Records read: plain. -/
namespace Go.Proofs.YthnbgnjpbmnelaaGreatDoor
set_option linter.unusedVariables false
set_option linter.unusedSimpArgs false
set_option maxHeartbeats 1000000
set_option maxRecDepth 100000
open Go.RowKit Go.Lib

/-! ### Cutting at the first byte of a kind -/
theorem UA (c : UInt8) : ∀ l : List UInt8, (c ∉ l ∧ index l [c] = -1) ∨ ∃ d t, l = d ++ c :: t ∧ c ∉ d ∧ index l [c] = (d.length : Int)
  | [] => .inl ⟨by simp, rfl⟩
  | b :: l => by
    by_cases hb : b = c
    · subst hb
      refine .inr ⟨[], l, rfl, by simp, ?_⟩;unfold index;rw [if_pos (by simp [List.isPrefixOf])]; rfl
    · have hi : index (b :: l) [c] = if index l [c] == -1 then -1 else index l [c] + 1 := by
        conv => lhs; unfold index
        rw [if_neg (by simp [List.isPrefixOf]; exact fun e => hb e.symm)]
      rcases UA c l with ⟨h1, h2⟩ | ⟨d, t, rfl, h2, h3⟩
      · exact .inl ⟨by simp [h1]; exact fun e => hb e.symm, by rw [hi, h2]; rfl⟩
      · refine .inr ⟨b :: d, t, rfl, by simp [h2]; exact fun e => hb e.symm, ?_⟩
        rw [hi, h3, if_neg (by simp)]
        rfl
theorem ZcE (c : UInt8) (l : List UInt8) : (c ∉ l ∧ (cut l [c]).2.2 = false) ∨ ∃ d t, l = d ++ c :: t ∧ c ∉ d ∧ cut l [c] = (d, t, true) := by
  rcases UA c l with ⟨h1, h2⟩ | ⟨d, t, rfl, h2, h3⟩
  · refine .inl ⟨h1, ?_⟩
    unfold cut;rw [h2]; rfl
  · refine .inr ⟨d, t, rfl, h2, ?_⟩
    unfold cut;rw [h3, if_pos (by omega), Int.toNat_natCast];have e1 : (d ++ c :: t).take d.length = d := by simp
    have e2 : (d ++ c :: t).drop (d.length + [c].length) = t := by simp [List.drop_append]
    rw [e1, e2]
/-! ### Records -/
theorem ZcF (l : List ByteArray) : ∀ a : ByteArray, l.foldl (fun a s => a ++ ZO s.size ++ UZ ++ s) a = a ++ Yi l := by
  induction l with
  | nil => exact fun a => YY (by rw [Z7]; simp [Yi])
  | cons y ys ih =>
    intro a;have h1 := ih (a ++ ZO y.size ++ UZ ++ y);have h2 := ih (ByteArray.empty ++ ZO y.size ++ UZ ++ y);unfold Yi;rw [List.foldl_cons, List.foldl_cons, h1, h2];exact YY (by simp only [Z7, List.append_assoc]; simp)
theorem Y5 (y : ByteArray) (ys : List ByteArray) : (Yi (y :: ys)).data.toList = (ZO y.size).data.toList ++ 58 :: (y.data.toList ++ (Yi ys).data.toList) := by
  have h := ZcF ys (ByteArray.empty ++ ZO y.size ++ UZ ++ y);have e : Yi (y :: ys) = ByteArray.empty ++ ZO y.size ++ UZ ++ y ++ Yi ys := h;rw [e];simp only [Z7, List.append_assoc];simp [UZ]
theorem X8 : Yi [] = ByteArray.empty := rfl
theorem ZdB (xs ys : List ByteArray) : (Yi (xs ++ ys)).data.toList = (Yi xs).data.toList ++ (Yi ys).data.toList := by
  induction xs with
  | nil => simp [X8]
  | cons x xs ih => rw [List.cons_append, Y5, Y5, ih]; simp
theorem Qt (n : Nat) : (58 : UInt8) ∉ (ZO n).data.toList := by
  intro hx;rw [Y3] at hx;obtain ⟨d, hd⟩ := Jw n 58 hx;obtain ⟨h1, h10⟩ := Jv hd;have hn : (UInt8.ofNat (48 + d)).toNat = 48 + d := by rw [UInt8.toNat_ofNat']; omega
  rw [← h1] at hn;have : (58 : UInt8).toNat = 58 := rfl
  omega
theorem Zag {a b c d : List UInt8} (ha : (58 : UInt8) ∉ a) (hc : (58 : UInt8) ∉ c) (h : a ++ 58 :: b = c ++ 58 :: d) : a = c ∧ b = d := by
  induction a generalizing c with
  | nil =>
    cases c with
    | nil => simpa using h
    | cons x c => simp at h; exact absurd (by simp [h.1]) hc
  | cons x a ih =>
    cases c with
    | nil => simp at h; exact absurd (by simp [h.1]) ha
    | cons y c =>
      simp only [List.cons_append, List.cons.injEq] at h;obtain ⟨h1, h2⟩ := ih (fun hm => ha (by simp [hm])) (fun hm => hc (by simp [hm])) h.2;exact ⟨by rw [h.1, h1], h2⟩
theorem ZaY {m n : Nat} (h : ZO m = ZO n) : m = n := by
  have h1 := Xt m;have h2 := Xt n;rw [← Y3, h, Y3] at h1;exact Option.some.inj (h1.symm.trans h2)
/-- One field in front. -/
theorem ZaZ {y : ByteArray} {ys : List ByteArray} {d t : List UInt8} (h : (Yi (y :: ys)).data.toList = d ++ 58 :: t) (hd : (58 : UInt8) ∉ d) : d = (ZO y.size).data.toList ∧ t = y.data.toList ++ (Yi ys).data.toList := by
  rw [Y5] at h;have := Zag (Qt _) hd h;exact ⟨this.1.symm, this.2.symm⟩
theorem Zah (y : ByteArray) (ys : List ByteArray) : (Yi (y :: ys)).data.toList ≠ [] := by rw [Y5]; simp
theorem ZdC {xs ys : List ByteArray} (h : Yi xs = Yi ys) : xs = ys := by
  induction xs generalizing ys with
  | nil =>
    cases ys with
    | nil => rfl
    | cons y ys => exact absurd (by rw [← h]; rfl) (Zah y ys)
  | cons x xs ih =>
    cases ys with
    | nil => exact absurd (by rw [h]; rfl) (Zah x xs)
    | cons y ys =>
      have h1 := ZaZ (y := x) (ys := xs) (d := (ZO y.size).data.toList) (t := y.data.toList ++ (Yi ys).data.toList) (by rw [h, Y5]) (Qt _);have hz : x.size = y.size := ZaY (YY h1.1.symm);have h2 := h1.2;have hl : y.data.toList.length = x.data.toList.length := by rw [← ZV, ← ZV, hz]
      have h3 := List.append_inj h2 hl;rw [YY h3.1, ih (YY h3.2.symm)]
/-- The fields of a record, if it is one. -/
structure IsRec (s : ByteArray) (l : List ByteArray) : Prop where
  is : Yi l = s
  many : l.length ≤ 60
theorem IsRec.one {s : ByteArray} {l m : List ByteArray} (h : IsRec s l) (k : IsRec s m) : l = m := ZdC (h.is.trans k.is.symm)
/-- How far the reading is: what is read, what is left. -/
structure JI (s : ByteArray) (ys : List ByteArray) (rest : ByteArray) : Prop where
  is : s.data.toList = (Yi ys).data.toList ++ rest.data.toList
theorem JI.zero (s : ByteArray) : JI s [] s := ⟨by simp [X8]⟩
theorem JI.done {s rest : ByteArray} {ys : List ByteArray} (h : JI s ys rest) (h0 : (rest.toList == (⟨#[]⟩ : ByteArray).toList) = true) : Yi ys = s := by
  obtain rfl := Xy h0;exact YY (by rw [h.is]; simp)
theorem JI.size {s rest : ByteArray} {ys : List ByteArray} (h : JI s ys rest) : rest.size ≤ s.size := by
  have := congrArg List.length h.is;rw [List.length_append, ← ZV, ← ZV, ← ZV] at this
  omega
/-- If the whole is a record, then what is left is one. -/
theorem JI.left {s rest : ByteArray} {ys l : List ByteArray} (h : JI s ys rest) (hl : Yi l = s) : ∃ ws, l = ys ++ ws ∧ Yi ws = rest := by
  have key : ∀ (ys l : List ByteArray) (r : List UInt8), (Yi l).data.toList = (Yi ys).data.toList ++ r → ∃ ws, l = ys ++ ws ∧ (Yi ws).data.toList = r := by
    intro ys
    induction ys with
    | nil => exact fun l r e => ⟨l, rfl, by simpa [X8] using e⟩
    | cons y ys ih =>
      intro l r e
      cases l with
      | nil => rw [Y5, X8] at e; simp at e
      | cons x xs =>
        rw [Y5 y ys] at e;have h1 := ZaZ (y := x) (ys := xs) (d := (ZO y.size).data.toList) (t := y.data.toList ++ (Yi ys).data.toList ++ r) (by rw [e]; simp) (Qt _);have hz : x.size = y.size := ZaY (YY h1.1.symm);have hlen : y.data.toList.length = x.data.toList.length := by rw [← ZV, ← ZV, hz]
        have h3 := List.append_inj (by rw [← List.append_assoc]; exact h1.2) hlen;obtain ⟨ws, e1, e2⟩ := ih xs r h3.2.symm;exact ⟨ws, by rw [← YY h3.1, e1]; rfl, e2⟩
  obtain ⟨ws, e1, e2⟩ := key ys l rest.data.toList (by rw [hl, h.is]);exact ⟨ws, e1, YY e2⟩
/-- A field read. -/
theorem JI.step {s rest num tail : ByteArray} {ys : List ByteArray} {n : Nat} (h : JI s ys rest) (hc : rest.data.toList = num.data.toList ++ 58 :: tail.data.toList) (hn : Jy num = some n) (hz : n ≤ tail.size) : JI s (ys ++ [tail.extract 0 n]) (tail.extract n tail.size) := by
  have hs := (Q4 hn).2;have hsz : (tail.extract 0 n).size = n := by rw [ByteArray.size_extract]; omega
  refine ⟨?_⟩;rw [h.is, ZdB, Y5, hsz, X8, hc, hs, JW, JW];have e1 : (tail.data.toList.drop 0).take (n - 0) = tail.data.toList.take n := by simp
  have e2 : (tail.data.toList.drop n).take (tail.size - n) = tail.data.toList.drop n := List.take_of_length_le (by rw [List.length_drop, ← ZV]; exact Nat.le_refl _);rw [e1, e2]
  simp
/-- Nothing that is a record stops the reading. -/
theorem JI.go {s rest : ByteArray} {ys l : List ByteArray} (h : JI s ys rest) (hl : Yi l = s) (hs : s.size ≤ 2048) (h60 : l.length ≤ 60) (hne : (rest.toList == (⟨#[]⟩ : ByteArray).toList) = false) : ∃ (y : ByteArray) (ws : List ByteArray), l = ys ++ y :: ws ∧ rest.data.toList = (ZO y.size).data.toList ++ 58 :: (y.data.toList ++ (Yi ws).data.toList) ∧ Jy (ZO y.size) = some y.size ∧ ys.length < 60 := by
  obtain ⟨ws, e1, e2⟩ := h.left hl
  cases ws with
  | nil =>
    rw [X8] at e2;rw [← e2] at hne;rw [show (ByteArray.empty.toList == (⟨#[]⟩ : ByteArray).toList) = true from beq_self_eq_true (a := ByteArray.empty.toList)] at hne
    cases hne
  | cons y ws =>
    have hr : rest.data.toList = (ZO y.size).data.toList ++ 58 :: (y.data.toList ++ (Yi ws).data.toList) := by rw [← e2, Y5]
    refine ⟨y, ws, e1, hr, U5 ?_, ?_⟩
    · have h2 := h.size
      have h3 := congrArg List.length hr;rw [List.length_append, List.length_cons, List.length_append] at h3;have h4 := ZV rest;have h5 := ZV y
      omega
    · rw [e1, List.length_append, List.length_cons] at h60; omega
end Go.Proofs.YthnbgnjpbmnelaaGreatDoor
