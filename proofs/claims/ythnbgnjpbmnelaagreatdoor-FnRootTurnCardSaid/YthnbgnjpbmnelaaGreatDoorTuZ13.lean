/- A part of the proof in YthnbgnjpbmnelaaGreatDoorTuZ31. -/
import Derived.Laws.RangeAny
import Derived.Lib.IndexBytes
import Derived.Lib.IndexLaws
import Derived.Lib.Join
import Derived.Lib.Split
import Derived.Lib.SplitLaws
import Derived.Shelf.GgClosure.StringsIndexFunc
import Derived.Test.YthnbgnjpbmnelaaGreatDoorTuZ12
/- Names, paths, texts cut: plain. -/
namespace Go.Proofs.YthnbgnjpbmnelaaGreatDoor
set_option linter.unusedVariables false
set_option linter.unusedSimpArgs false
set_option maxHeartbeats 1000000
set_option maxRecDepth 100000
open Go.RowKit Go.Lib

/-! ### A text cut at each byte of a kind -/
def splitL (c : UInt8) : List UInt8 → List (List UInt8)
  | [] => [[]]
  | b :: t => if b = c then [] :: splitL c t else match splitL c t with
    | h :: r => (b :: h) :: r
    | [] => [[b]]
theorem Zcp (c : UInt8) (l : List UInt8) : ∃ h r, splitL c l = h :: r := by
  cases l with
  | nil => exact ⟨_, _, rfl⟩
  | cons b t =>
    unfold splitL
    split
    · exact ⟨_, _, rfl⟩
    · split
      · exact ⟨_, _, rfl⟩
      · exact ⟨_, _, rfl⟩
theorem Uh (c : UInt8) (t : List UInt8) : splitL c (c :: t) = [] :: splitL c t := by
  conv => lhs; unfold splitL
  rw [if_pos rfl]
theorem XG {b c : UInt8} (t : List UInt8) (h : b ≠ c) {x : List UInt8} {r : List (List UInt8)} (hs : splitL c t = x :: r) : splitL c (b :: t) = (b :: x) :: r := by
  conv => lhs; unfold splitL
  rw [if_neg h, hs]
theorem Uw (c : UInt8) : ∀ (l : List UInt8), (∀ x ∈ l, x ≠ c) → splitL c l = [l]
  | [], _ => rfl
  | b :: t, h => XG t (h b (List.mem_cons_self ..)) (Uw c t fun x hx => h x (List.mem_cons_of_mem _ hx))
theorem U3 (c : UInt8) (b : List UInt8) : ∀ (a : List UInt8), (∀ x ∈ a, x ≠ c) → splitL c (a ++ c :: b) = a :: splitL c b
  | [], _ => Uh c b
  | x :: a, h => XG _ (h x (List.mem_cons_self ..)) (U3 c b a fun y hy => h y (List.mem_cons_of_mem _ hy))
theorem Ju (c : UInt8) : ∀ (l : List UInt8), (splitL c l).length = l.count c + 1
  | [] => rfl
  | b :: t => by
    by_cases h : b = c
    · subst h; rw [Uh, List.length_cons, Ju b t, List.count_cons_self]
    · obtain ⟨x, r, hs⟩ := Zcp c t
      have := Ju c t;rw [XG t h hs, List.length_cons, List.count_cons_of_ne h];rw [hs, List.length_cons] at this; exact this
/-- The library's Split does the same. -/
theorem U4 (c : UInt8) : ∀ (l : List UInt8), Go.Lib.splitK [c] 0 (Go.Lib.count l [c]) l = splitL c l
  | [] => by
    rw [show Go.Lib.count [] [c] = 0 from Go.Lib.count_one c []]; rfl
  | b :: t => by
    have ih := U4 c t
    by_cases h : b = c
    · subst h
      rw [Go.Lib.count_cons_eq, Nat.add_comm, Uh];unfold Go.Lib.splitK;have h0 : Go.Lib.index (b :: t) [b] = 0 := by unfold Go.Lib.index; simp
      rw [h0];simp only [show ((0 : Int) == -1) = false from rfl, Bool.false_eq_true, if_false, Int.toNat_zero, Nat.zero_add, List.take_zero, List.length_cons, List.length_nil, List.drop_succ_cons, List.drop_zero];rw [ih]
    · rw [Go.Lib.count_cons_ne b c t h]
      cases hk : Go.Lib.count t [c] with
      | zero =>
        rw [hk] at ih;have h1 : splitL c t = [t] := by rw [← ih]; rfl
        rw [XG t h h1]; rfl
      | succ k =>
        rw [hk] at ih;unfold Go.Lib.splitK at ih ⊢;have hi : Go.Lib.index (b :: t) [c] = if Go.Lib.index t [c] == -1 then -1 else Go.Lib.index t [c] + 1 := by
          conv => lhs; unfold Go.Lib.index
          rw [if_neg (by simp [List.isPrefixOf]; exact fun e => h e.symm)]
        have hge := Go.Lib.index_ge t [c]
        cases hm : (Go.Lib.index t [c] == -1) with
        | true =>
          have := Go.Lib.count_miss (beq_iff_eq.1 hm)
          omega
        | false =>
          rw [hm] at ih hi;simp only [Bool.false_eq_true, if_false] at ih hi;have hne : Go.Lib.index t [c] ≠ -1 := by simpa using hm
          obtain ⟨i, he⟩ : ∃ i : Nat, Go.Lib.index t [c] = i := ⟨(Go.Lib.index t [c]).toNat, by omega⟩;rw [he] at ih hi;rw [hi];rw [show ((((i : Nat) : Int) + 1) == -1) = false by simp; omega];simp only [Bool.false_eq_true, if_false];rw [show (((i : Nat) : Int) + 1).toNat = i + 1 by omega];rw [Int.toNat_natCast] at ih;rw [XG t h ih.symm];simp [List.take_succ_cons, List.drop_succ_cons]
/-- The pieces of a text. -/
def Yy (s : ByteArray) (c : UInt8) : List ByteArray := (splitL c s.data.toList).map fun l => ⟨l.toArray⟩
theorem Zdf (xs : List ByteArray) : (xs.map (·.data.toList)).map (fun l => (⟨l.toArray⟩ : ByteArray)) = xs := by
  rw [List.map_map]
  conv => rhs; rw [← List.map_id xs]
  exact List.map_congr_left fun x _ => by simp
theorem Jk (s : ByteArray) (c : UInt8) : Go.Lib.splitB ⟨#[c]⟩ 0 (Go.Lib.countB s ⟨#[c]⟩) s = Yy s c := by
  have h := Go.Lib.splitB_data (⟨#[c]⟩ : ByteArray) 0 (Go.Lib.countB s ⟨#[c]⟩) s;have h2 : Go.Lib.splitK [c] 0 (Go.Lib.countB s ⟨#[c]⟩) s.data.toList = splitL c s.data.toList := U4 c _;rw [← Zdf (Go.Lib.splitB _ _ _ _), h];show (Go.Lib.splitK [c] 0 (Go.Lib.countB s ⟨#[c]⟩) s.data.toList).map _ = _;rw [h2]; rfl
theorem Zbn (s : ByteArray) (c : UInt8) : (Yy s c).length = s.data.toList.count c + 1 := by unfold Yy; rw [List.length_map, Ju]
theorem Zdg {s : ByteArray} (h : (s.toList == (⟨#[]⟩ : ByteArray).toList) = false) : 0 < s.size := by
  rcases Nat.eq_zero_or_pos s.size with h0 | h0
  · have : s = ⟨#[]⟩ := by apply YY; rw [ZV] at h0; exact List.length_eq_zero_iff.1 h0
    rw [this] at h; simp at h
  · exact h0
end Go.Proofs.YthnbgnjpbmnelaaGreatDoor
