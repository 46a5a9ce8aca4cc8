/- A part of the proof in YtdlmlagcniifjaaGreatDoorFnZ32. -/
import Derived.Lib.IndexMore
import Derived.Test.YtdlmlagcniifjaaGreatDoorFnZ19
namespace Go.Proofs.YtdlmlagcniifjaaGreatDoor
set_option linter.unusedVariables false
set_option linter.unusedSimpArgs false
set_option maxHeartbeats 1000000
set_option maxRecDepth 100000
open Go.RowKit Go.Lib
theorem index_split (c : UInt8) : ∀ l : List UInt8, (c ∉ l ∧ index l [c] = -1) ∨ ∃ d t, l = d ++ c :: t ∧ c ∉ d ∧ index l [c] = (d.length : Int)
  | [] => .inl ⟨by simp, rfl⟩
  | b :: l => by
    by_cases hb : b = c
    · subst hb
      refine .inr ⟨[], l, rfl, by simp, ?_⟩
      unfold index
      rw [if_pos (by simp [List.isPrefixOf])]; rfl
    · have hi : index (b :: l) [c] = if index l [c] == -1 then -1 else index l [c] + 1 := by
        conv => lhs; unfold index
        rw [if_neg (by simp [List.isPrefixOf]; exact fun e => hb e.symm)]
      rcases index_split c l with ⟨h1, h2⟩ | ⟨d, t, rfl, h2, h3⟩
      · exact .inl ⟨by simp [h1]; exact fun e => hb e.symm, by rw [hi, h2]; rfl⟩
      · refine .inr ⟨b :: d, t, rfl, by simp [h2]; exact fun e => hb e.symm, ?_⟩
        rw [hi, h3, if_neg (by simp)]
        rfl
theorem cut_split (c : UInt8) (l : List UInt8) : (c ∉ l ∧ (cut l [c]).2.2 = false) ∨ ∃ d t, l = d ++ c :: t ∧ c ∉ d ∧ cut l [c] = (d, t, true) := by
  rcases index_split c l with ⟨h1, h2⟩ | ⟨d, t, rfl, h2, h3⟩
  · refine .inl ⟨h1, ?_⟩
    unfold cut
    rw [h2]; rfl
  · refine .inr ⟨d, t, rfl, h2, ?_⟩
    unfold cut
    rw [h3, if_pos (by omega), Int.toNat_natCast]
    have e1 : (d ++ c :: t).take d.length = d := by simp
    have e2 : (d ++ c :: t).drop (d.length + [c].length) = t := by simp [List.drop_append]
    rw [e1, e2]
theorem recB_from (l : List ByteArray) : ∀ a : ByteArray, l.foldl (fun a s => a ++ decB s.size ++ colB ++ s) a = a ++ recB l := by
  induction l with
  | nil => exact fun a => ba_ext (by rw [list_append]; simp [recB])
  | cons y ys ih =>
    intro a
    have h1 := ih (a ++ decB y.size ++ colB ++ y)
    have h2 := ih (ByteArray.empty ++ decB y.size ++ colB ++ y)
    unfold recB
    rw [List.foldl_cons, List.foldl_cons, h1, h2]
    exact ba_ext (by simp only [list_append, List.append_assoc]; simp)
theorem recB_cons (y : ByteArray) (ys : List ByteArray) : (recB (y :: ys)).data.toList = (decB y.size).data.toList ++ 58 :: (y.data.toList ++ (recB ys).data.toList) := by
  have h := recB_from ys (ByteArray.empty ++ decB y.size ++ colB ++ y)
  have e : recB (y :: ys) = ByteArray.empty ++ decB y.size ++ colB ++ y ++ recB ys := h
  rw [e]
  simp only [list_append, List.append_assoc]
  simp [colB]
theorem recB_nil : recB [] = ByteArray.empty := rfl
theorem recB_app (xs ys : List ByteArray) : (recB (xs ++ ys)).data.toList = (recB xs).data.toList ++ (recB ys).data.toList := by
  induction xs with
  | nil => simp [recB_nil]
  | cons x xs ih => rw [List.cons_append, recB_cons, recB_cons, ih]; simp
theorem dec_no58 (n : Nat) : (58 : UInt8) ∉ (decB n).data.toList := by
  intro hx
  rw [decB_list] at hx
  obtain ⟨d, hd⟩ := digits_all n 58 hx
  obtain ⟨h1, h10⟩ := digit_back hd
  have hn : (UInt8.ofNat (48 + d)).toNat = 48 + d := by rw [UInt8.toNat_ofNat']; omega
  rw [← h1] at hn
  have : (58 : UInt8).toNat = 58 := rfl
  omega
theorem app_58 {a b c d : List UInt8} (ha : (58 : UInt8) ∉ a) (hc : (58 : UInt8) ∉ c) (h : a ++ 58 :: b = c ++ 58 :: d) : a = c ∧ b = d := by
  induction a generalizing c with
  | nil =>
    cases c with
    | nil => simpa using h
    | cons x c => simp at h; exact absurd (by simp [h.1]) hc
  | cons x a ih =>
    cases c with
    | nil => simp at h; exact absurd (by simp [h.1]) ha
    | cons y c =>
      simp only [List.cons_append, List.cons.injEq] at h
      obtain ⟨h1, h2⟩ := ih (fun hm => ha (by simp [hm])) (fun hm => hc (by simp [hm])) h.2
      exact ⟨by rw [h.1, h1], h2⟩
theorem decB_inj {m n : Nat} (h : decB m = decB n) : m = n := by
  have h1 := decFrom_digits m
  have h2 := decFrom_digits n
  rw [← decB_list, h, decB_list] at h1
  exact Option.some.inj (h1.symm.trans h2)
theorem rec_step {y : ByteArray} {ys : List ByteArray} {d t : List UInt8} (h : (recB (y :: ys)).data.toList = d ++ 58 :: t) (hd : (58 : UInt8) ∉ d) : d = (decB y.size).data.toList ∧ t = y.data.toList ++ (recB ys).data.toList := by
  rw [recB_cons] at h
  have := app_58 (dec_no58 _) hd h
  exact ⟨this.1.symm, this.2.symm⟩
theorem recB_ne (y : ByteArray) (ys : List ByteArray) : (recB (y :: ys)).data.toList ≠ [] := by rw [recB_cons]; simp
theorem recB_inj {xs ys : List ByteArray} (h : recB xs = recB ys) : xs = ys := by
  induction xs generalizing ys with
  | nil =>
    cases ys with
    | nil => rfl
    | cons y ys => exact absurd (by rw [← h]; rfl) (recB_ne y ys)
  | cons x xs ih =>
    cases ys with
    | nil => exact absurd (by rw [h]; rfl) (recB_ne x xs)
    | cons y ys =>
      have h1 := rec_step (y := x) (ys := xs) (d := (decB y.size).data.toList) (t := y.data.toList ++ (recB ys).data.toList) (by rw [h, recB_cons]) (dec_no58 _)
      have hz : x.size = y.size := decB_inj (ba_ext h1.1.symm)
      have h2 := h1.2
      have hl : y.data.toList.length = x.data.toList.length := by rw [← size_list, ← size_list, hz]
      have h3 := List.append_inj h2 hl
      rw [ba_ext h3.1, ih (ba_ext h3.2.symm)]
structure IsRec (s : ByteArray) (l : List ByteArray) : Prop where
  is : recB l = s
  many : l.length ≤ 60
theorem IsRec.one {s : ByteArray} {l m : List ByteArray} (h : IsRec s l) (k : IsRec s m) : l = m := recB_inj (h.is.trans k.is.symm)
structure RdTo (s : ByteArray) (ys : List ByteArray) (rest : ByteArray) : Prop where
  is : s.data.toList = (recB ys).data.toList ++ rest.data.toList
theorem RdTo.zero (s : ByteArray) : RdTo s [] s := ⟨by simp [recB_nil]⟩
theorem RdTo.done {s rest : ByteArray} {ys : List ByteArray} (h : RdTo s ys rest) (h0 : (rest.toList == (⟨#[]⟩ : ByteArray).toList) = true) : recB ys = s := by
  obtain rfl := bytes_toList h0
  exact ba_ext (by rw [h.is]; simp)
theorem RdTo.size {s rest : ByteArray} {ys : List ByteArray} (h : RdTo s ys rest) : rest.size ≤ s.size := by
  have := congrArg List.length h.is
  rw [List.length_append, ← size_list, ← size_list, ← size_list] at this
  omega
theorem RdTo.left {s rest : ByteArray} {ys l : List ByteArray} (h : RdTo s ys rest) (hl : recB l = s) : ∃ ws, l = ys ++ ws ∧ recB ws = rest := by
  have key : ∀ (ys l : List ByteArray) (r : List UInt8), (recB l).data.toList = (recB ys).data.toList ++ r → ∃ ws, l = ys ++ ws ∧ (recB ws).data.toList = r := by
    intro ys
    induction ys with
    | nil => exact fun l r e => ⟨l, rfl, by simpa [recB_nil] using e⟩
    | cons y ys ih =>
      intro l r e
      cases l with
      | nil => rw [recB_cons, recB_nil] at e; simp at e
      | cons x xs =>
        rw [recB_cons y ys] at e
        have h1 := rec_step (y := x) (ys := xs) (d := (decB y.size).data.toList) (t := y.data.toList ++ (recB ys).data.toList ++ r) (by rw [e]; simp) (dec_no58 _)
        have hz : x.size = y.size := decB_inj (ba_ext h1.1.symm)
        have hlen : y.data.toList.length = x.data.toList.length := by rw [← size_list, ← size_list, hz]
        have h3 := List.append_inj (by rw [← List.append_assoc]; exact h1.2) hlen
        obtain ⟨ws, e1, e2⟩ := ih xs r h3.2.symm
        exact ⟨ws, by rw [← ba_ext h3.1, e1]; rfl, e2⟩
  obtain ⟨ws, e1, e2⟩ := key ys l rest.data.toList (by rw [hl, h.is])
  exact ⟨ws, e1, ba_ext e2⟩
theorem RdTo.step {s rest num tail : ByteArray} {ys : List ByteArray} {n : Nat} (h : RdTo s ys rest) (hc : rest.data.toList = num.data.toList ++ 58 :: tail.data.toList) (hn : numG num = some n) (hz : n ≤ tail.size) : RdTo s (ys ++ [tail.extract 0 n]) (tail.extract n tail.size) := by
  have hs := (numG_some hn).2
  have hsz : (tail.extract 0 n).size = n := by rw [ByteArray.size_extract]; omega
  refine ⟨?_⟩
  rw [h.is, recB_app, recB_cons, hsz, recB_nil, hc, hs, list_extract, list_extract]
  have e1 : (tail.data.toList.drop 0).take (n - 0) = tail.data.toList.take n := by simp
  have e2 : (tail.data.toList.drop n).take (tail.size - n) = tail.data.toList.drop n := List.take_of_length_le (by rw [List.length_drop, ← size_list]; exact Nat.le_refl _)
  rw [e1, e2]
  simp
theorem RdTo.go {s rest : ByteArray} {ys l : List ByteArray} (h : RdTo s ys rest) (hl : recB l = s) (hs : s.size ≤ 2048) (h60 : l.length ≤ 60) (hne : (rest.toList == (⟨#[]⟩ : ByteArray).toList) = false) : ∃ (y : ByteArray) (ws : List ByteArray), l = ys ++ y :: ws ∧ rest.data.toList = (decB y.size).data.toList ++ 58 :: (y.data.toList ++ (recB ws).data.toList) ∧ numG (decB y.size) = some y.size ∧ ys.length < 60 := by
  obtain ⟨ws, e1, e2⟩ := h.left hl
  cases ws with
  | nil =>
    rw [recB_nil] at e2
    rw [← e2] at hne
    rw [show (ByteArray.empty.toList == (⟨#[]⟩ : ByteArray).toList) = true from beq_self_eq_true (a := ByteArray.empty.toList)] at hne
    cases hne
  | cons y ws =>
    have hr : rest.data.toList = (decB y.size).data.toList ++ 58 :: (y.data.toList ++ (recB ws).data.toList) := by rw [← e2, recB_cons]
    refine ⟨y, ws, e1, hr, numG_dec ?_, ?_⟩
    · have h2 := h.size
      have h3 := congrArg List.length hr
      rw [List.length_append, List.length_cons, List.length_append] at h3
      have h4 := size_list rest
      have h5 := size_list y
      omega
    · rw [e1, List.length_append, List.length_cons] at h60; omega
end Go.Proofs.YtdlmlagcniifjaaGreatDoor
