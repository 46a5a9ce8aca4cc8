/- The cache: what both compute. Plain. -/
import Derived.Test.YtkgmilobmbeplaaCacheT
namespace Go.Proofs.Ytkgmilobmbeplaa
open Go.RowKit
def inI (xs : List Int) (n : Int) : Bool := xs.any (· == n)
def less (xs : List Int) (r : Int) : List Int := xs.filter (fun x => !(x == r))
def lastI (xs : List Int) : Int := xs.getD (xs.length - 1) 0
/-- Way is made, if there is none: by the reference. -/
def CacheD.wayC (c : CacheD) (former : Bool) : CacheD :=
  if (c.fOnce.length : Int) + c.fOften.length < c.fRoom then c
  else if (decide (0 < c.fOnce.length) && (decide (c.fGoal < c.fOnce.length) || (former && ((c.fOnce.length : Int) == c.fGoal)) || (c.fOften.length == 0))) then { c with fPast := lastI c.fOnce :: c.fPast, fOnce := c.fOnce.dropLast }
  else { c with fFormer := lastI c.fOften :: c.fFormer, fOften := c.fOften.dropLast }
def CacheD.total (c : CacheD) : Nat := c.fOnce.length + c.fOften.length + c.fPast.length + c.fFormer.length
def CacheD.up (c : CacheD) : Int := min c.fRoom (c.fGoal + max 1 ((c.fFormer.length : Int) / c.fPast.length))
def CacheD.down (c : CacheD) : Int := max 0 (c.fGoal - max 1 ((c.fPast.length : Int) / c.fFormer.length))
/-- What a row that is nowhere pushes out. -/
def CacheD.push (c : CacheD) : CacheD :=
  if (c.fOnce.length : Int) + c.fPast.length < c.fRoom then (if (c.total : Int) == 2 * c.fRoom then { c with fFormer := c.fFormer.dropLast } else c).wayC false
  else if 0 < c.fPast.length then { c with fPast := c.fPast.dropLast }.wayC false
  else { c with fOnce := c.fOnce.dropLast }
/-- A row asked: by the reference. -/
def CacheD.ask (c : CacheD) (r : Int) : CacheD × Bool :=
  if inI c.fOnce r || inI c.fOften r then ({ c with fOnce := less c.fOnce r, fOften := r :: less c.fOften r }, true)
  else if inI c.fPast r then (let d := { c with fGoal := c.up }.wayC false; { d with fPast := less d.fPast r, fOften := r :: d.fOften }, false)
  else if inI c.fFormer r then (let d := { c with fGoal := c.down }.wayC true; { d with fFormer := less d.fFormer r, fOften := r :: d.fOften }, false)
  else (let d := c.push; { d with fOnce := r :: d.fOnce }, false)
/-- A row asked: by the program. -/
def CacheD.askI (c : CacheD) (r : Int) : CacheD × Bool :=
  if inI c.fOnce r then ({ c with fOnce := c.fOnce.erase r, fOften := r :: c.fOften }, true)
  else if inI c.fOften r then ({ c with fOften := r :: c.fOften.erase r }, true)
  else if inI c.fPast r then (let d := { c with fPast := c.fPast.erase r, fGoal := c.up }.wayC false; { d with fOften := r :: d.fOften }, false)
  else if inI c.fFormer r then (let d := { c with fFormer := c.fFormer.erase r, fGoal := c.down }.wayC true; { d with fOften := r :: d.fOften }, false)
  else (let d := c.push; { d with fOnce := r :: d.fOnce }, false)
def CacheD.cnt (c : CacheD) (x : Int) : Nat := c.fOnce.count x + c.fOften.count x + c.fPast.count x + c.fFormer.count x
structure CacheD.Inv (c : CacheD) : Prop where
  room : 1 ≤ c.fRoom ∧ c.fRoom ≤ 8
  goal : 0 ≤ c.fGoal ∧ c.fGoal ≤ c.fRoom
  hot : (c.fOnce.length : Int) + c.fOften.length ≤ c.fRoom
  one : (c.fOnce.length : Int) + c.fPast.length ≤ c.fRoom
  all : (c.total : Int) ≤ 2 * c.fRoom
  once : ∀ x, c.cnt x ≤ 1
theorem inI_count {xs : List Int} {r : Int} : inI xs r = true ↔ 0 < xs.count r := by
  unfold inI
  rw [List.any_eq_true, List.count_pos_iff]
  constructor
  · rintro ⟨x, hx, he⟩
    obtain rfl := eq_of_beq he
    exact hx
  · intro h; exact ⟨r, h, by simp⟩
theorem inI_false {xs : List Int} {r : Int} (h : inI xs r = false) : xs.count r = 0 := by
  have := (inI_count (xs := xs) (r := r)).2
  rw [h] at this
  by_cases h0 : 0 < xs.count r
  · exact absurd (this h0) (by simp)
  · omega
theorem less_none {xs : List Int} {r : Int} (h : xs.count r = 0) : less xs r = xs := by
  unfold less
  rw [List.filter_eq_self]
  intro x hx
  have : r ∉ xs := fun hr => by have := List.count_pos_iff.2 hr; omega
  have : x ≠ r := fun e => this (e ▸ hx)
  simp [this]
theorem less_erase {xs : List Int} {r : Int} (h : xs.count r ≤ 1) : less xs r = xs.erase r := by
  induction xs with
  | nil => rfl
  | cons a xs ih =>
    unfold less
    rw [List.filter_cons, List.erase_cons]
    rw [List.count_cons] at h
    by_cases ha : a = r
    · subst ha
      simp only [beq_self_eq_true, Bool.not_true, Bool.false_eq_true, if_false, if_true] at h ⊢
      exact less_none (by omega)
    · have hb : (a == r) = false := by simp [ha]
      rw [hb] at h ⊢
      simp only [Bool.not_false, if_true, Bool.false_eq_true, if_false]
      rw [show List.filter (fun x => !(x == r)) xs = less xs r from rfl, ih (by simpa using h)]
theorem less_count (xs : List Int) (r x : Int) : (less xs r).count x = if x = r then 0 else xs.count x := by
  unfold less
  induction xs with
  | nil => simp
  | cons a xs ih =>
    rw [List.filter_cons]
    by_cases ha : a = r
    · subst ha
      simp only [beq_self_eq_true, Bool.not_true, Bool.false_eq_true, if_false, ih, List.count_cons]
      by_cases hx : x = a
      · simp [hx]
      · have : (a == x) = false := by simp; exact fun e => hx e.symm
        simp [hx, this]
    · have hb : (a == r) = false := by simp [ha]
      rw [hb]
      simp only [Bool.not_false, if_true, List.count_cons, ih]
      by_cases hx : x = r
      · subst hx; simp [hb]
      · simp [hx]
theorem less_len (xs : List Int) (r : Int) : (less xs r).length + xs.count r = xs.length := by
  unfold less
  induction xs with
  | nil => simp
  | cons a xs ih =>
    rw [List.filter_cons, List.count_cons]
    by_cases ha : a = r
    · subst ha; simp; omega
    · have hb : (a == r) = false := by simp [ha]
      rw [hb]; simp; omega
theorem last_count {xs : List Int} (h : 0 < xs.length) (x : Int) : xs.dropLast.count x + (if lastI xs = x then 1 else 0) = xs.count x := by
  have hn : xs ≠ [] := fun e => by subst e; simp at h
  have h1 : xs.dropLast ++ [xs.getLast hn] = xs := List.dropLast_concat_getLast hn
  have h2 : lastI xs = xs.getLast hn := by
    unfold lastI
    rw [List.getLast_eq_getElem, List.getD_eq_getElem?_getD, List.getElem?_eq_getElem (by omega)]
    rfl
  rw [h2]
  conv => rhs; rw [← h1]
  rw [List.count_append, List.count_singleton]
  by_cases he : xs.getLast hn = x <;> simp [he]
theorem drop_count (xs : List Int) (x : Int) : xs.dropLast.count x ≤ xs.count x := List.Sublist.count_le _ (List.dropLast_sublist xs)
theorem drop_len {xs : List Int} : xs.dropLast.length = xs.length - 1 := by simp
theorem way_inv {c : CacheD} {f : Bool} (hr : 1 ≤ c.fRoom ∧ c.fRoom ≤ 8) (hh : (c.fOnce.length : Int) + c.fOften.length ≤ c.fRoom) :
    (c.wayC f).fRoom = c.fRoom ∧ (c.wayC f).fGoal = c.fGoal ∧ ((c.wayC f).fOnce.length : Int) + (c.wayC f).fOften.length + 1 ≤ c.fRoom ∧ (c.wayC f).fOnce.length + (c.wayC f).fPast.length = c.fOnce.length + c.fPast.length ∧ (c.wayC f).total = c.total ∧ (∀ x, (c.wayC f).cnt x = c.cnt x) ∧ (∀ x, c.fPast.count x ≤ (c.wayC f).fPast.count x) ∧ (∀ x, c.fFormer.count x ≤ (c.wayC f).fFormer.count x) := by
  unfold CacheD.wayC
  split
  · exact ⟨rfl, rfl, by omega, rfl, rfl, fun _ => rfl, fun _ => Nat.le_refl _, fun _ => Nat.le_refl _⟩
  · rename_i h1
    split
    · rename_i h2
      have hp : 0 < c.fOnce.length := by simp at h2; exact h2.1
      refine ⟨rfl, rfl, ?_, ?_, ?_, fun x => ?_, fun x => ?_, fun _ => Nat.le_refl _⟩
      · simp only [drop_len]; omega
      · simp only [drop_len, List.length_cons]; omega
      · simp only [CacheD.total, drop_len, List.length_cons]; omega
      · have := last_count hp x
        simp only [CacheD.cnt, List.count_cons, beq_iff_eq]; omega
      · simp only [List.count_cons]; omega
    · rename_i h2
      have hp : 0 < c.fOften.length := by
        rcases Nat.eq_zero_or_pos c.fOften.length with h0 | h0
        · exfalso
          apply h2
          have : 0 < c.fOnce.length := by omega
          simp [h0, this]
        · exact h0
      refine ⟨rfl, rfl, ?_, rfl, ?_, fun x => ?_, fun _ => Nat.le_refl _, fun x => ?_⟩
      · simp only [drop_len]; omega
      · simp only [CacheD.total, drop_len, List.length_cons]; omega
      · have := last_count hp x
        simp only [CacheD.cnt, List.count_cons, beq_iff_eq]; omega
      · simp only [List.count_cons]; omega
theorem up_le {c : CacheD} (h : c.Inv) : 0 ≤ c.up ∧ c.up ≤ c.fRoom := by
  have := h.room; have := h.goal
  unfold CacheD.up; omega
theorem down_le {c : CacheD} (h : c.Inv) : 0 ≤ c.down ∧ c.down ≤ c.fRoom := by
  have := h.room; have := h.goal
  unfold CacheD.down; omega
theorem push_inv {c : CacheD} (h : c.Inv) : (c.push).fRoom = c.fRoom ∧ (c.push).fGoal = c.fGoal ∧ ((c.push).fOnce.length : Int) + (c.push).fOften.length + 1 ≤ c.fRoom ∧ ((c.push).fOnce.length : Int) + (c.push).fPast.length + 1 ≤ c.fRoom ∧ ((c.push).total : Int) + 1 ≤ 2 * c.fRoom ∧ (∀ x, (c.push).cnt x ≤ c.cnt x) := by
  have h1 := h.room; have h2 := h.goal; have h3 := h.hot; have h4 := h.one; have h5 := h.all
  unfold CacheD.push
  split
  · rename_i hlt
    split
    · rename_i ht
      have ht := eq_of_beq ht
      have hw := way_inv (c := { c with fFormer := c.fFormer.dropLast }) (f := false) h1 h3
      have hl := drop_len (xs := c.fFormer)
      obtain ⟨e1, e2, e3, e4, e5, e6, e7, e8⟩ := hw
      have e5' : (({ c with fFormer := c.fFormer.dropLast } : CacheD).total : Int) + 1 ≤ c.total ∨ c.fFormer.length = 0 := by
        unfold CacheD.total
        simp only [drop_len]; omega
      refine ⟨e1, e2, e3, ?_, ?_, fun x => ?_⟩
      · dsimp only at e4; omega
      · have : 0 < c.fFormer.length := by unfold CacheD.total at ht; omega
        rw [e5]; omega
      · rw [e6 x]
        have := drop_count c.fFormer x
        simp only [CacheD.cnt]; omega
    · rename_i ht
      have ht : ¬ (c.total : Int) = 2 * c.fRoom := fun e => ht (by simp [e])
      obtain ⟨e1, e2, e3, e4, e5, e6, e7, e8⟩ := way_inv (c := c) (f := false) h1 h3
      exact ⟨e1, e2, e3, by omega, by rw [e5]; omega, fun x => by rw [e6 x]; exact Nat.le_refl _⟩
  · rename_i hlt
    split
    · rename_i hp
      obtain ⟨e1, e2, e3, e4, e5, e6, e7, e8⟩ := way_inv (c := { c with fPast := c.fPast.dropLast }) (f := false) h1 h3
      have hl := drop_len (xs := c.fPast)
      refine ⟨e1, e2, e3, ?_, ?_, fun x => ?_⟩
      · dsimp only at e4; omega
      · rw [e5]; unfold CacheD.total at h5 ⊢; dsimp only; omega
      · rw [e6 x]
        have := drop_count c.fPast x
        simp only [CacheD.cnt]; omega
    · rename_i hp
      have hl := drop_len (xs := c.fOnce)
      refine ⟨rfl, rfl, ?_, ?_, ?_, fun x => ?_⟩
      · dsimp only; omega
      · dsimp only; omega
      · unfold CacheD.total at h5 ⊢; dsimp only; omega
      · have := drop_count c.fOnce x
        simp only [CacheD.cnt]; omega
theorem ask_inv {c : CacheD} (h : c.Inv) (r : Int) : (c.ask r).1.Inv := by
  have h1 := h.room; have h2 := h.goal; have h3 := h.hot; have h4 := h.one; have h5 := h.all; have h6 := h.once
  have hcr := h6 r
  unfold CacheD.ask
  split
  · rename_i hin
    simp only [Bool.or_eq_true, inI_count] at hin
    have l1 := less_len c.fOnce r; have l2 := less_len c.fOften r
    simp only [CacheD.cnt] at hcr
    refine ⟨h1, h2, ?_, ?_, ?_, fun x => ?_⟩
    · simp only [List.length_cons]; omega
    · dsimp only; omega
    · unfold CacheD.total at h5 ⊢; simp only [List.length_cons]; omega
    · have := h6 x
      simp only [CacheD.cnt, List.count_cons, less_count, beq_iff_eq] at this ⊢
      by_cases hx : x = r
      · subst hx; simp; omega
      · rw [if_neg hx, if_neg hx, if_neg (fun e => hx e.symm)]; omega
  · rename_i hno
    simp only [Bool.or_eq_true, not_or] at hno
    have n1 := inI_false (by simpa using hno.1); have n2 := inI_false (by simpa using hno.2)
    split
    · rename_i hp
      rw [inI_count] at hp
      have hu := up_le h
      obtain ⟨e1, e2, e3, e4, e5, e6, e7, e8⟩ := way_inv (c := { c with fGoal := c.up }) (f := false) h1 h3
      have er := e6 r
      have ep := e7 r
      generalize CacheD.wayC { c with fGoal := c.up } false = d at *
      have l1 := less_len d.fPast r
      dsimp only at e1 e2 e3 e4 ep ⊢
      simp only [CacheD.cnt] at er hcr
      refine ⟨by rw [e1]; exact h1, by rw [e1, e2]; exact hu, ?_, ?_, ?_, fun x => ?_⟩
      · simp only [List.length_cons]; omega
      · dsimp only; omega
      · simp only [CacheD.total] at e5 h5 ⊢; simp only [List.length_cons]; omega
      · have := h6 x
        have ex := e6 x
        simp only [CacheD.cnt, List.count_cons, less_count, beq_iff_eq] at this ex ⊢
        by_cases hx : x = r
        · subst hx; simp; omega
        · rw [if_neg hx, if_neg (fun e => hx e.symm)]; omega
    · rename_i hno2
      have n3 := inI_false (by simpa using hno2)
      split
      · rename_i hp
        rw [inI_count] at hp
        have hu := down_le h
        obtain ⟨e1, e2, e3, e4, e5, e6, e7, e8⟩ := way_inv (c := { c with fGoal := c.down }) (f := true) h1 h3
        have er := e6 r
        have ep := e8 r
        generalize CacheD.wayC { c with fGoal := c.down } true = d at *
        have l1 := less_len d.fFormer r
        dsimp only at e1 e2 e3 e4 ep ⊢
        simp only [CacheD.cnt] at er hcr
        refine ⟨by rw [e1]; exact h1, by rw [e1, e2]; exact hu, ?_, ?_, ?_, fun x => ?_⟩
        · simp only [List.length_cons]; omega
        · dsimp only; omega
        · simp only [CacheD.total] at e5 h5 ⊢; simp only [List.length_cons]; omega
        · have := h6 x
          have ex := e6 x
          simp only [CacheD.cnt, List.count_cons, less_count, beq_iff_eq] at this ex ⊢
          by_cases hx : x = r
          · subst hx; simp; omega
          · rw [if_neg hx, if_neg (fun e => hx e.symm)]; omega
      · rename_i hno3
        have n4 := inI_false (by simpa using hno3)
        obtain ⟨e1, e2, e3, e4, e5, e6⟩ := push_inv h
        have er := e6 r
        generalize c.push = d at *
        dsimp only
        simp only [CacheD.cnt] at er hcr
        refine ⟨by rw [e1]; exact h1, by rw [e1, e2]; exact h2, ?_, ?_, ?_, fun x => ?_⟩
        · simp only [List.length_cons]; omega
        · simp only [List.length_cons]; omega
        · simp only [CacheD.total] at e5 ⊢; simp only [List.length_cons]; omega
        · have := h6 x
          have ex := e6 x
          simp only [CacheD.cnt, List.count_cons, beq_iff_eq] at this ex ⊢
          by_cases hx : r = x
          · subst hx; rw [if_pos rfl]; omega
          · rw [if_neg hx]; omega
theorem lastI_ne {xs : List Int} {r : Int} (h : xs.count r = 0) (hp : 0 < xs.length) : (lastI xs == r) = false := by
  have := last_count hp r
  rw [h] at this
  by_cases he : lastI xs = r
  · rw [if_pos he] at this; omega
  · simp [he]
theorem ask_eq {c : CacheD} (h : c.Inv) (r : Int) : c.askI r = c.ask r := by
  have h3 := h.hot; have h1 := h.room
  have hcr := h.once r
  simp only [CacheD.cnt] at hcr
  unfold CacheD.askI CacheD.ask
  cases i1 : inI c.fOnce r with
  | true =>
    have i1 := inI_count.1 i1
    simp only [Bool.true_or, if_true]
    rw [less_erase (xs := c.fOnce) (by omega), less_none (xs := c.fOften) (by omega)]
  | false =>
    have n1 := inI_false i1
    simp only [Bool.false_or, Bool.false_eq_true, if_false]
    cases i2 : inI c.fOften r with
    | true =>
      have i2 := inI_count.1 i2
      simp only [if_true]
      rw [less_erase (xs := c.fOften) (by omega), less_none (xs := c.fOnce) (by omega)]
    | false =>
      have n2 := inI_false i2
      simp only [Bool.false_eq_true, if_false]
      cases i3 : inI c.fPast r with
      | true =>
        have i3 := inI_count.1 i3
        simp only [if_true]
        rw [← less_erase (xs := c.fPast) (by omega)]
        unfold CacheD.wayC
        dsimp only
        split
        · rfl
        · rename_i hh
          split
          · rename_i h2
            have hp : 0 < c.fOnce.length := by simp at h2; exact h2.1
            unfold less
            rw [List.filter_cons, lastI_ne n1 hp]
            rfl
          · rfl
      | false =>
        simp only [Bool.false_eq_true, if_false]
        cases i4 : inI c.fFormer r with
        | true =>
          have i4 := inI_count.1 i4
          simp only [if_true]
          rw [← less_erase (xs := c.fFormer) (by omega)]
          unfold CacheD.wayC
          dsimp only
          split
          · rfl
          · rename_i hh
            split
            · rfl
            · rename_i h2
              have hp : 0 < c.fOften.length := by
                rcases Nat.eq_zero_or_pos c.fOften.length with h0 | h0
                · exfalso
                  apply h2
                  have : 0 < c.fOnce.length := by omega
                  simp [h0, this]
                · exact h0
              unfold less
              rw [List.filter_cons, lastI_ne n2 hp]
              rfl
        | false => rfl
end Go.Proofs.Ytkgmilobmbeplaa
