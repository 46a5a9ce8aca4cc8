/- A part of the proof in YtgaodbdadncfhaaGreatDoorFrZ29. -/
import Derived.Lib.IndexMore
import Derived.Test.YtgaodbdadncfhaaGreatDoorFrZ19
/- Records read: plain. -/
namespace Go.Proofs.YtgaodbdadncfhaaGreatDoor
set_option linter.unusedVariables false
set_option linter.unusedSimpArgs false
set_option maxHeartbeats 1000000
set_option maxRecDepth 100000
open Go.RowKit Go.Lib

/-! ### Records -/
theorem recB_from (l : List ByteArray) : ∀ a : ByteArray, l.foldl (fun a s => a ++ decB s.size ++ colB ++ s) a = a ++ recB l := by
  induction l with
  | nil => exact fun a => ba_ext (by rw [list_append]; simp [recB])
  | cons y ys ih =>
    intro a
    have h1 := ih (a ++ decB y.size ++ colB ++ y)
    have h2 := ih (ByteArray.empty ++ decB y.size ++ colB ++ y)
    unfold recB
    rw [List.foldl_cons, List.foldl_cons, h1, h2]
    exact ba_ext (by simp only [list_append, List.append_assoc]; simp)
theorem recB_cons (y : ByteArray) (ys : List ByteArray) : (recB (y :: ys)).data.toList = (decB y.size).data.toList ++ 58 :: (y.data.toList ++ (recB ys).data.toList) := by
  have h := recB_from ys (ByteArray.empty ++ decB y.size ++ colB ++ y)
  have e : recB (y :: ys) = ByteArray.empty ++ decB y.size ++ colB ++ y ++ recB ys := h
  rw [e]
  simp only [list_append, List.append_assoc]
  simp [colB]
theorem recB_nil : recB [] = ByteArray.empty := rfl
theorem dec_no58 (n : Nat) : (58 : UInt8) ∉ (decB n).data.toList := by
  intro hx
  rw [decB_list] at hx
  obtain ⟨d, hd⟩ := digits_all n 58 hx
  obtain ⟨h1, h10⟩ := digit_back hd
  have hn : (UInt8.ofNat (48 + d)).toNat = 48 + d := by rw [UInt8.toNat_ofNat']; omega
  rw [← h1] at hn
  have : (58 : UInt8).toNat = 58 := rfl
  omega
theorem app_58 {a b c d : List UInt8} (ha : (58 : UInt8) ∉ a) (hc : (58 : UInt8) ∉ c) (h : a ++ 58 :: b = c ++ 58 :: d) : a = c ∧ b = d := by
  induction a generalizing c with
  | nil =>
    cases c with
    | nil => simpa using h
    | cons x c => simp at h; exact absurd (by simp [h.1]) hc
  | cons x a ih =>
    cases c with
    | nil => simp at h; exact absurd (by simp [h.1]) ha
    | cons y c =>
      simp only [List.cons_append, List.cons.injEq] at h
      obtain ⟨h1, h2⟩ := ih (fun hm => ha (by simp [hm])) (fun hm => hc (by simp [hm])) h.2
      exact ⟨by rw [h.1, h1], h2⟩
theorem decB_inj {m n : Nat} (h : decB m = decB n) : m = n := by
  have h1 := decFrom_digits m
  have h2 := decFrom_digits n
  rw [← decB_list, h, decB_list] at h1
  exact Option.some.inj (h1.symm.trans h2)
/-- One field in front. -/
theorem rec_step {y : ByteArray} {ys : List ByteArray} {d t : List UInt8} (h : (recB (y :: ys)).data.toList = d ++ 58 :: t) (hd : (58 : UInt8) ∉ d) : d = (decB y.size).data.toList ∧ t = y.data.toList ++ (recB ys).data.toList := by
  rw [recB_cons] at h
  have := app_58 (dec_no58 _) hd h
  exact ⟨this.1.symm, this.2.symm⟩
theorem recB_ne (y : ByteArray) (ys : List ByteArray) : (recB (y :: ys)).data.toList ≠ [] := by rw [recB_cons]; simp
theorem recB_inj {xs ys : List ByteArray} (h : recB xs = recB ys) : xs = ys := by
  induction xs generalizing ys with
  | nil =>
    cases ys with
    | nil => rfl
    | cons y ys => exact absurd (by rw [← h]; rfl) (recB_ne y ys)
  | cons x xs ih =>
    cases ys with
    | nil => exact absurd (by rw [h]; rfl) (recB_ne x xs)
    | cons y ys =>
      have h1 := rec_step (y := x) (ys := xs) (d := (decB y.size).data.toList) (t := y.data.toList ++ (recB ys).data.toList) (by rw [h, recB_cons]) (dec_no58 _)
      have hz : x.size = y.size := decB_inj (ba_ext h1.1.symm)
      have h2 := h1.2
      have hl : y.data.toList.length = x.data.toList.length := by rw [← size_list, ← size_list, hz]
      have h3 := List.append_inj h2 hl
      rw [ba_ext h3.1, ih (ba_ext h3.2.symm)]
/-- The fields of a record, if it is one. -/
structure IsRec (s : ByteArray) (l : List ByteArray) : Prop where
  is : recB l = s
  many : l.length ≤ 60
theorem IsRec.one {s : ByteArray} {l m : List ByteArray} (h : IsRec s l) (k : IsRec s m) : l = m := recB_inj (h.is.trans k.is.symm)
/-- How far the reading is: what is read, what is left. -/
structure RdTo (s : ByteArray) (ys : List ByteArray) (rest : ByteArray) : Prop where
  is : s.data.toList = (recB ys).data.toList ++ rest.data.toList
theorem RdTo.zero (s : ByteArray) : RdTo s [] s := ⟨by simp [recB_nil]⟩
theorem RdTo.size {s rest : ByteArray} {ys : List ByteArray} (h : RdTo s ys rest) : rest.size ≤ s.size := by
  have := congrArg List.length h.is
  rw [List.length_append, ← size_list, ← size_list, ← size_list] at this
  omega
end Go.Proofs.YtgaodbdadncfhaaGreatDoor
