/- What a valid store is: plain, no program in sight but the numbers of types. -/
import Derived.Test.YtkgmilobmbeplaaSpaceF
import Derived.Test.YtkgmilobmbeplaaStoreT
namespace Go.Proofs.Ytkgmilobmbeplaa
open Go.RowKit

/-- How many pointers lead to a row. -/
def cnt (ps : List PtrD) (i : Nat) : Nat := (ps.filter fun p => p.fAt == (i : Int)).length
theorem cnt_snoc (ps : List PtrD) (p : PtrD) (i : Nat) : cnt (ps ++ [p]) i = cnt ps i + if p.fAt = (i : Int) then 1 else 0 := by
  unfold cnt
  rw [List.filter_append, List.length_append]
  by_cases h : p.fAt = (i : Int) <;> simp [h]
theorem cnt_le (ps : List PtrD) (i : Nat) : cnt ps i ≤ ps.length := List.length_filter_le _ _
theorem cnt_append (a b : List PtrD) (i : Nat) : cnt (a ++ b) i = cnt a i + cnt b i := by simp [cnt, List.filter_append]
theorem cnt_take (ps : List PtrD) (k i : Nat) : cnt (ps.take k) i ≤ cnt ps i := by
  have h := cnt_append (ps.take k) (ps.drop k) i
  rw [List.take_append_drop] at h; omega
/-- The counts, as the cells of a row. -/
def cntCells (ps : List PtrD) : List Value := (List.range 64).map fun i => .int .i64 (cnt ps i : Nat)
theorem cntCells_len (ps : List PtrD) : (cntCells ps).length = 64 := by simp [cntCells]
theorem cntCells_get (ps : List PtrD) (i : Nat) (h : i < 64) : (cntCells ps)[i]? = some (.int .i64 (cnt ps i : Nat)) := by simp [cntCells, h]
theorem cntCells_snoc (ps : List PtrD) (p : PtrD) (a : Nat) (ha : p.fAt = (a : Int)) (h : a < 64) : (cntCells ps).set a (.int .i64 ((cnt ps a : Nat) + 1)) = cntCells (ps ++ [p]) := by
  apply List.ext_getElem?
  intro i
  by_cases hi : i < 64
  · rw [cntCells_get _ _ hi, cnt_snoc, List.getElem?_set]
    by_cases hai : a = i
    · subst hai
      simp [cntCells_len, h, ha]
    · rw [if_neg hai, cntCells_get _ _ hi, if_neg (by rw [ha]; omega)]
      simp
  · rw [List.getElem?_eq_none (by rw [List.length_set, cntCells_len]; omega), List.getElem?_eq_none (by rw [cntCells_len]; omega)]

/-- A pointer that was given up. -/
def ptrIn (p : PtrD) (most : Int) : Bool := p.ok && (!p.hole && decide (p.fBirth ≤ most))
def rowSt (st : StoreD) (i : Nat) : Bool := decide ((st.fRows.getD i ByteArray.empty).size ≤ 128) && (((st.fRows.getD i ByteArray.empty).size == 0) == (st.fSpace.fRefs.getD i 0 == 0) && decide (st.fSpace.fLast.getD i 0 ≤ st.fTxg))
def rowsSt (st : StoreD) (k : Nat) : Bool := (List.range k).all fun i => rowSt st i
theorem rowsSt_succ (st : StoreD) (k : Nat) : rowsSt st (k + 1) = (rowsSt st k && rowSt st k) := by simp [rowsSt, List.range_succ]
theorem rowsSt_le {st : StoreD} {k m : Nat} (h : rowsSt st m = true) (hk : k < m) : rowSt st k = true := by
  simp only [rowsSt, List.all_eq_true] at h
  exact h k (List.mem_range.2 hk)
theorem rowsSt_bad {st : StoreD} {k m : Nat} (hk : k < m) (h : rowSt st k = false) : rowsSt st m = false := by
  cases hm : rowsSt st m with
  | false => rfl
  | true => rw [rowsSt_le hm hk] at h; cases h
/-- What was given up: no more of a row than there are references. -/
def owedOk (refs : List Int) (ps : List PtrD) : Bool := (List.range 64).all fun i => decide ((cnt ps i : Int) ≤ refs.getD i 0)
def StoreD.ok (st : StoreD) : Bool :=
  st.fRows.length == 64 && (st.fSpace.ok && (inB st.fTxg 1 900 && (inB st.fKeep 0 (st.fTxg - 1) && (rowsSt st 64 &&
    (st.fGone.all (fun p => ptrIn p (st.fTxg - 1)) && (st.fDead.all (fun p => ptrIn p st.fKeep) && owedOk st.fSpace.fRefs (st.fGone ++ st.fDead)))))))

/-- The pointer at a place among those given up, and the greatest birth that it may have. -/
def outAt (st : StoreD) (j : Nat) : Option PtrD := (st.fGone ++ st.fDead)[j]?
def mostAt (st : StoreD) (j : Nat) : Int := if j < st.fGone.length then st.fTxg - 1 else st.fKeep
/-- The first j pointers given up are as they may be. -/
structure Given (st : StoreD) (j : Nat) : Prop where
  each : ∀ i p, i < j → outAt st i = some p → ptrIn p (mostAt st i) = true
  few : ∀ i, i < 64 → 0 < cnt ((st.fGone ++ st.fDead).take j) i → (cnt ((st.fGone ++ st.fDead).take j) i : Int) ≤ st.fSpace.fRefs.getD i 0
theorem Given.zero (st : StoreD) : Given st 0 := ⟨fun i p h => absurd h (Nat.not_lt_zero _), fun i hi h => by simp [cnt] at h⟩
theorem ptrIn_at {p : PtrD} {m : Int} (h : ptrIn p m = true) : 8 ≤ p.fAt ∧ p.fAt ≤ 63 ∧ p.fBirth ≤ m ∧ 1 ≤ p.fBirth ∧ p.fBirth ≤ 900 := by
  simp only [ptrIn, PtrD.ok, Bool.and_eq_true, Bool.or_eq_true, Bool.not_eq_true', decide_eq_true_eq] at h
  obtain ⟨h1, h2, h3⟩ := h
  rw [h2] at h1
  rcases h1 with h1 | h1
  · cases h1
  · obtain ⟨⟨⟨⟨a, b⟩, _⟩, _⟩, _⟩ := h1
    have := inB_true a
    have := inB_true b
    omega
theorem Given.succ {st : StoreD} {j : Nat} (h : Given st j) {p : PtrD} (hp : outAt st j = some p) (hin : ptrIn p (mostAt st j) = true) (a : Nat) (ha : p.fAt = (a : Int)) (hle : ((cnt ((st.fGone ++ st.fDead).take j) a + 1 : Nat) : Int) ≤ st.fSpace.fRefs.getD a 0) : Given st (j + 1) := by
  obtain ⟨hj, hpe⟩ := List.getElem?_eq_some_iff.1 hp
  have hs : (st.fGone ++ st.fDead).take (j + 1) = (st.fGone ++ st.fDead).take j ++ [p] := by rw [List.take_succ_eq_append_getElem hj, hpe]
  refine ⟨fun i q hi hq => ?_, fun i hi hc => ?_⟩
  · by_cases hij : i = j
    · subst hij
      obtain rfl := Option.some.inj (hp.symm.trans hq)
      exact hin
    · exact h.each i q (by omega) hq
  · rw [hs, cnt_snoc] at hc ⊢
    by_cases hai : p.fAt = (i : Int)
    · have : a = i := by omega
      subst this
      rw [if_pos hai]
      exact hle
    · rw [if_neg hai] at hc ⊢
      exact h.few i hi hc
theorem Given.all {st : StoreD} (h : Given st (st.fGone ++ st.fDead).length) (hr : ∀ i, i < 64 → 0 ≤ st.fSpace.fRefs.getD i 0) :
    (st.fGone.all (fun p => ptrIn p (st.fTxg - 1)) && (st.fDead.all (fun p => ptrIn p st.fKeep) && owedOk st.fSpace.fRefs (st.fGone ++ st.fDead))) = true := by
  rw [Bool.and_eq_true, Bool.and_eq_true]
  refine ⟨List.all_eq_true.2 fun p hp => ?_, List.all_eq_true.2 fun p hp => ?_, List.all_eq_true.2 fun i hi => ?_⟩
  · obtain ⟨i, hi, hpe⟩ := List.mem_iff_getElem.1 hp
    have := h.each i p (by rw [List.length_append]; omega) (by unfold outAt; rw [List.getElem?_append_left hi, List.getElem?_eq_getElem hi, hpe])
    rwa [mostAt, if_pos hi] at this
  · obtain ⟨i, hi, hpe⟩ := List.mem_iff_getElem.1 hp
    have := h.each (st.fGone.length + i) p (by rw [List.length_append]; omega) (by unfold outAt; rw [List.getElem?_append_right (by omega), Nat.add_sub_cancel_left, List.getElem?_eq_getElem hi, hpe])
    rwa [mostAt, if_neg (by omega)] at this
  · have hi' := List.mem_range.1 hi
    simp only [decide_eq_true_eq]
    by_cases hc : 0 < cnt (st.fGone ++ st.fDead) i
    · have := h.few i hi' (by rw [List.take_of_length_le (Nat.le_refl _)]; exact hc)
      rwa [List.take_of_length_le (Nat.le_refl _)] at this
    · have := hr i hi'
      omega
/-- One that is not as it may be. -/
theorem given_bad {st : StoreD} {j : Nat} {p : PtrD} (hp : outAt st j = some p) (hin : ptrIn p (mostAt st j) = false) : st.ok = false := by
  obtain ⟨hj, hpe⟩ := List.getElem?_eq_some_iff.1 hp
  unfold StoreD.ok
  by_cases hg : j < st.fGone.length
  · have hm : p ∈ st.fGone := by rw [← hpe, List.getElem_append_left hg]; exact List.getElem_mem _
    have : st.fGone.all (fun p => ptrIn p (st.fTxg - 1)) = false := by
      rw [List.all_eq_false]
      exact ⟨p, hm, by rw [mostAt, if_pos hg] at hin; simp [hin]⟩
    simp [this]
  · have hlt : j - st.fGone.length < st.fDead.length := by rw [List.length_append] at hj; omega
    have hm : p ∈ st.fDead := by rw [← hpe, List.getElem_append_right (by omega)]; exact List.getElem_mem _
    have : st.fDead.all (fun p => ptrIn p st.fKeep) = false := by
      rw [List.all_eq_false]
      exact ⟨p, hm, by rw [mostAt, if_neg hg] at hin; simp [hin]⟩
    simp [this]
theorem given_many {st : StoreD} {j : Nat} {p : PtrD} (hp : outAt st j = some p) (a : Nat) (ha : p.fAt = (a : Int)) (h64 : a < 64) (hlt : st.fSpace.fRefs.getD a 0 < ((cnt ((st.fGone ++ st.fDead).take j) a + 1 : Nat) : Int)) : st.ok = false := by
  obtain ⟨hj, hpe⟩ := List.getElem?_eq_some_iff.1 hp
  have hs : (st.fGone ++ st.fDead).take (j + 1) = (st.fGone ++ st.fDead).take j ++ [p] := by rw [List.take_succ_eq_append_getElem hj, hpe]
  have h1 := cnt_take (st.fGone ++ st.fDead) (j + 1) a
  rw [hs, cnt_snoc, if_pos ha] at h1
  have : owedOk st.fSpace.fRefs (st.fGone ++ st.fDead) = false := by
    unfold owedOk
    rw [List.all_eq_false]
    exact ⟨a, List.mem_range.2 h64, by simp only [decide_eq_true_eq]; omega⟩
  unfold StoreD.ok
  simp [this]
/-- In a valid store. -/
structure OkSt (st : StoreD) : Prop where
  rows : st.fRows.length = 64
  space : st.fSpace.ok = true
  txg : 1 ≤ st.fTxg ∧ st.fTxg ≤ 900
  keep : 0 ≤ st.fKeep ∧ st.fKeep ≤ st.fTxg - 1
  each : rowsSt st 64 = true
  gone : st.fGone.all (fun p => ptrIn p (st.fTxg - 1)) = true
  dead : st.fDead.all (fun p => ptrIn p st.fKeep) = true
  owed : owedOk st.fSpace.fRefs (st.fGone ++ st.fDead) = true
theorem StoreD.ok_spec {st : StoreD} (h : st.ok = true) : OkSt st := by
  simp only [StoreD.ok, Bool.and_eq_true, beq_iff_eq] at h
  obtain ⟨h1, h2, h3, h4, h5, h6, h7, h8⟩ := h
  exact ⟨h1, h2, inB_true h3, inB_true h4, h5, h6, h7, h8⟩
structure OkSp (s : SpaceD) : Prop where
  refs : s.fRefs.length = 64
  last : s.fLast.length = 64
  each : ∀ i, i < 64 → 0 ≤ s.fRefs.getD i 0 ∧ s.fRefs.getD i 0 ≤ s.fLast.getD i 0 ∧ s.fLast.getD i 0 ≤ 900 ∧ (s.fRefs.getD i 0 = 0 → s.fLast.getD i 0 = 0) ∧ (i < 8 → s.fRefs.getD i 0 = 0)
theorem SpaceD.ok_spec {s : SpaceD} (h : s.ok = true) : OkSp s := by
  simp only [SpaceD.ok, Bool.and_eq_true, beq_iff_eq] at h
  obtain ⟨⟨h1, h2⟩, h3⟩ := h
  refine ⟨h1, h2, fun i hi => ?_⟩
  have h4 := rowsOk_le h3 hi
  rw [rowOkI_eq hi] at h4
  simp only [rowOkI, Bool.and_eq_true, Bool.or_eq_true, decide_eq_true_eq, bne_iff_ne, beq_iff_eq, Bool.not_eq_true', decide_eq_false_iff_not] at h4
  obtain ⟨h5, h6, h7, h8⟩ := h4
  have := inB_true h5
  have := inB_true h6
  refine ⟨by omega, by omega, by omega, fun h0 => ?_, fun h0 => ?_⟩
  · rcases h7 with h7 | h7
    · exact absurd h0 h7
    · exact h7
  · rcases h8 with h8 | h8
    · omega
    · omega
theorem cnt_start (ps : List PtrD) : (madeCells (Value.int .i64 0).cells (64 * 1)).toList = cntCells (ps.take 0) := by
  show (madeCells #[Value.int .i64 0] 64).toList = _
  rw [toList_madeCells_one]
  apply List.ext_getElem?
  intro i
  by_cases hi : i < 64
  · rw [cntCells_get _ _ hi, List.getElem?_replicate, if_pos hi]; simp [cnt]
  · rw [List.getElem?_eq_none (by rw [List.length_replicate]; omega), List.getElem?_eq_none (by rw [cntCells_len]; omega)]
end Go.Proofs.Ytkgmilobmbeplaa
