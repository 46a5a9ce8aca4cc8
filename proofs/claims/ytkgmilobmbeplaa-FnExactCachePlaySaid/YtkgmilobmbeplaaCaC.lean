/- The cache: valid, and played. Plain. -/
import Derived.Test.YtkgmilobmbeplaaCaB
namespace Go.Proofs.Ytkgmilobmbeplaa
open Go.RowKit

theorem inI_here {xs : List Int} {k : Nat} {n : Int} (hk : k < xs.length) (h : (xs.getD k 0 == n) = true) : inI xs n = true := by
  unfold inI
  rw [List.any_eq_true]
  refine ⟨xs[k], List.getElem_mem hk, ?_⟩
  simpa [List.getD, hk] using h
theorem inI_step {xs : List Int} {k : Nat} {n : Int} (hk : k < xs.length) (h : (xs.getD k 0 == n) = false) (hp : inI (xs.take k) n = false) : inI (xs.take (k + 1)) n = false := by
  unfold inI at *
  rw [List.take_succ_eq_append_getElem hk, List.any_append, hp]
  simpa [List.getD, hk] using h
theorem inI_end {xs : List Int} {k : Nat} {n : Int} (hk : ¬ k < xs.length) (hp : inI (xs.take k) n = false) : inI xs n = false := by
  rw [List.take_of_length_le (by omega)] at hp; exact hp
def CacheD.all (c : CacheD) : List Int := c.fOnce ++ c.fOften ++ c.fPast ++ c.fFormer
def okTo (xs : List Int) : Nat → Bool
  | 0 => true
  | k + 1 => okTo xs k && (inB (xs.getD k 0) 8 63 && !inI (xs.take k) (xs.getD k 0))
theorem okTo_false {xs : List Int} {k n : Nat} (h : okTo xs k = false) (hk : k ≤ n) : okTo xs n = false := by
  induction n with
  | zero => obtain rfl : k = 0 := by omega
            exact h
  | succ n ih =>
    rcases Nat.lt_or_ge n k with h1 | h1
    · obtain rfl : k = n + 1 := by omega
      exact h
    · unfold okTo; rw [ih h1]; rfl
theorem okTo_count {xs : List Int} {n : Nat} (h : okTo xs n = true) (hn : n ≤ xs.length) (x : Int) : (xs.take n).count x ≤ 1 := by
  induction n with
  | zero => simp
  | succ n ih =>
    unfold okTo at h
    rw [Bool.and_eq_true, Bool.and_eq_true] at h
    obtain ⟨h1, h2, h3⟩ := h
    have := ih h1 (by omega)
    rw [List.take_succ_eq_append_getElem (by omega), List.count_append, List.count_singleton]
    have hg : xs.getD n 0 = xs[n] := by simp [List.getD, show n < xs.length by omega]
    rw [hg] at h3
    by_cases hx : xs[n] = x
    · have h0 := inI_false (xs := xs.take n) (r := xs[n]) (by simpa using h3)
      rw [hx] at h0
      rw [hx]; simp; omega
    · simp [hx]; omega
def CacheD.ok (c : CacheD) : Bool := inB c.fRoom 1 8 && (inB c.fGoal 0 c.fRoom && (decide ((c.fOnce.length : Int) + c.fOften.length ≤ c.fRoom) && (decide ((c.fOnce.length : Int) + c.fPast.length ≤ c.fRoom) && (decide ((c.all.length : Int) ≤ 2 * c.fRoom) && okTo c.all c.all.length))))
theorem all_len (c : CacheD) : c.all.length = c.fOnce.length + c.fOften.length + c.fPast.length + c.fFormer.length := by unfold CacheD.all; simp only [List.length_append]
theorem CacheD.ok_inv {c : CacheD} (h : c.ok = true) : c.Inv := by
  unfold CacheD.ok at h
  simp only [Bool.and_eq_true, decide_eq_true_eq] at h
  obtain ⟨h1, h2, h3, h4, h5, h6⟩ := h
  refine ⟨inB_true h1, inB_true h2, h3, h4, ?_, fun x => ?_⟩
  · rw [all_len] at h5; unfold CacheD.total; exact h5
  · have := okTo_count h6 (Nat.le_refl _) x
    rw [List.take_length] at this
    simpa [CacheD.all, CacheD.cnt, Nat.add_assoc] using this
/-- A row played. -/
def CacheD.stepP (p : CacheD × Int) (r : Int) : CacheD × Int := if inB r 8 63 then ((p.1.ask r).1, if (p.1.ask r).2 then p.2 + 1 else p.2) else p
def CacheD.playP (c : CacheD) (rs : List Int) : CacheD × Int := rs.foldl CacheD.stepP (c, 0)
theorem play_succ (c : CacheD) (rs : List Int) (k : Nat) (hk : k < rs.length) : c.playP (rs.take (k + 1)) = CacheD.stepP (c.playP (rs.take k)) (rs.getD k 0) := by
  have hg : rs.getD k 0 = rs[k] := by simp [List.getD, hk]
  unfold CacheD.playP
  rw [List.take_succ_eq_append_getElem hk, List.foldl_append, hg]; rfl
theorem play_inv {c : CacheD} (h : c.Inv) (rs : List Int) (k : Nat) (hk : k ≤ rs.length) : (c.playP (rs.take k)).1.Inv ∧ 0 ≤ (c.playP (rs.take k)).2 ∧ (c.playP (rs.take k)).2 ≤ k := by
  induction k with
  | zero => exact ⟨h, by simp [CacheD.playP], by simp [CacheD.playP]⟩
  | succ k ih =>
    obtain ⟨i1, i2, i3⟩ := ih (by omega)
    rw [play_succ c rs k (by omega)]
    unfold CacheD.stepP
    split
    · refine ⟨ask_inv i1 _, ?_, ?_⟩ <;> (dsimp only; split <;> omega)
    · exact ⟨i1, i2, by omega⟩
/-- What the play of a cache returns. -/
def CacheD.play (c : CacheD) (rs : List Int) : CacheD × Int := if c.ok then c.playP rs else ({ fRoom := 0, fGoal := 0, fOnce := [], fOften := [], fPast := [], fFormer := [] }, -1)

/-! ### Lists joined -/
abbrev PackD := Option Addr × Nat × List Int
def encP (p : PackD) : List Value := [.slice p.1 p.2.2.length p.2.1]
theorem encP_len (p : PackD) : (encP p).length = 1 := rfl
def pz : PackD := (none, 0, [])
def catL (L : List PackD) : List Int := L.flatMap fun p => p.2.2
theorem catL_succ (L : List PackD) (k : Nat) (hk : k < L.length) : catL (L.take (k + 1)) = catL (L.take k) ++ (L.getD k pz).2.2 := by
  have hg : L.getD k pz = L[k] := by simp [List.getD, hk]
  unfold catL
  rw [List.take_succ_eq_append_getElem hk, List.flatMap_append, hg]
  simp
theorem catL_le (L : List PackD) (k : Nat) : (catL (L.take k)).length ≤ (catL L).length := by
  have : catL L = catL (L.take k) ++ catL (L.drop k) := by
    unfold catL; rw [← List.flatMap_append, List.take_append_drop]
  rw [this, List.length_append]; omega
theorem getD_mem {L : List PackD} {k : Nat} (hk : k < L.length) : L.getD k pz ∈ L := by
  have hg : L.getD k pz = L[k] := by simp [List.getD, hk]
  rw [hg]; exact List.getElem_mem hk
end Go.Proofs.Ytkgmilobmbeplaa
