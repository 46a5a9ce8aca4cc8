/- A part of the proof in YtdlmlagcniifjaaGreatDoorFnZ32. -/
import Derived.Laws.RangeAny
import Derived.Lib.IndexBytes
import Derived.Lib.IndexLaws
import Derived.Lib.Join
import Derived.Lib.Split
import Derived.Lib.SplitLaws
import Derived.Shelf.GgClosure.StringsIndexFunc
import Derived.Test.YtdlmlagcniifjaaGreatDoorFnZ12
namespace Go.Proofs.YtdlmlagcniifjaaGreatDoor
set_option linter.unusedVariables false
set_option linter.unusedSimpArgs false
set_option maxHeartbeats 1000000
set_option maxRecDepth 100000
open Go.RowKit Go.Lib
def splitL (c : UInt8) : List UInt8 → List (List UInt8)
  | [] => [[]]
  | b :: t => if b = c then [] :: splitL c t else match splitL c t with
    | h :: r => (b :: h) :: r
    | [] => [[b]]
theorem splitL_ne (c : UInt8) (l : List UInt8) : ∃ h r, splitL c l = h :: r := by
  cases l with
  | nil => exact ⟨_, _, rfl⟩
  | cons b t =>
    unfold splitL
    split
    · exact ⟨_, _, rfl⟩
    · split
      · exact ⟨_, _, rfl⟩
      · exact ⟨_, _, rfl⟩
theorem splitL_eq (c : UInt8) (t : List UInt8) : splitL c (c :: t) = [] :: splitL c t := by
  conv => lhs; unfold splitL
  rw [if_pos rfl]
theorem splitL_cons {b c : UInt8} (t : List UInt8) (h : b ≠ c) {x : List UInt8} {r : List (List UInt8)} (hs : splitL c t = x :: r) : splitL c (b :: t) = (b :: x) :: r := by
  conv => lhs; unfold splitL
  rw [if_neg h, hs]
theorem splitL_none (c : UInt8) : ∀ (l : List UInt8), (∀ x ∈ l, x ≠ c) → splitL c l = [l]
  | [], _ => rfl
  | b :: t, h => splitL_cons t (h b (List.mem_cons_self ..)) (splitL_none c t fun x hx => h x (List.mem_cons_of_mem _ hx))
theorem splitL_app (c : UInt8) (b : List UInt8) : ∀ (a : List UInt8), (∀ x ∈ a, x ≠ c) → splitL c (a ++ c :: b) = a :: splitL c b
  | [], _ => splitL_eq c b
  | x :: a, h => splitL_cons _ (h x (List.mem_cons_self ..)) (splitL_app c b a fun y hy => h y (List.mem_cons_of_mem _ hy))
theorem splitL_len (c : UInt8) : ∀ (l : List UInt8), (splitL c l).length = l.count c + 1
  | [] => rfl
  | b :: t => by
    by_cases h : b = c
    · subst h; rw [splitL_eq, List.length_cons, splitL_len b t, List.count_cons_self]
    · obtain ⟨x, r, hs⟩ := splitL_ne c t
      have := splitL_len c t
      rw [splitL_cons t h hs, List.length_cons, List.count_cons_of_ne h]
      rw [hs, List.length_cons] at this; exact this
theorem splitL_join (c : UInt8) : ∀ (l : List UInt8), Go.Lib.join (splitL c l) [c] = l
  | [] => rfl
  | b :: t => by
    obtain ⟨x, r, hs⟩ := splitL_ne c t
    have ih := splitL_join c t
    rw [hs, Go.Lib.join_cons] at ih
    by_cases h : b = c
    · subst h
      rw [splitL_eq, hs, Go.Lib.join_cons]
      simp only [Go.Lib.joinTail, List.map_cons, List.flatten_cons, List.nil_append, List.cons_append] at ih ⊢
      rw [ih]
    · rw [splitL_cons t h hs, Go.Lib.join_cons, List.cons_append, ih]
theorem splitK_one (c : UInt8) : ∀ (l : List UInt8), Go.Lib.splitK [c] 0 (Go.Lib.count l [c]) l = splitL c l
  | [] => by
    rw [show Go.Lib.count [] [c] = 0 from Go.Lib.count_one c []]; rfl
  | b :: t => by
    have ih := splitK_one c t
    by_cases h : b = c
    · subst h
      rw [Go.Lib.count_cons_eq, Nat.add_comm, splitL_eq]
      unfold Go.Lib.splitK
      have h0 : Go.Lib.index (b :: t) [b] = 0 := by unfold Go.Lib.index; simp
      rw [h0]
      simp only [show ((0 : Int) == -1) = false from rfl, Bool.false_eq_true, if_false, Int.toNat_zero, Nat.zero_add, List.take_zero, List.length_cons, List.length_nil, List.drop_succ_cons, List.drop_zero]
      rw [ih]
    · rw [Go.Lib.count_cons_ne b c t h]
      cases hk : Go.Lib.count t [c] with
      | zero =>
        rw [hk] at ih
        have h1 : splitL c t = [t] := by rw [← ih]; rfl
        rw [splitL_cons t h h1]; rfl
      | succ k =>
        rw [hk] at ih
        unfold Go.Lib.splitK at ih ⊢
        have hi : Go.Lib.index (b :: t) [c] = if Go.Lib.index t [c] == -1 then -1 else Go.Lib.index t [c] + 1 := by
          conv => lhs; unfold Go.Lib.index
          rw [if_neg (by simp [List.isPrefixOf]; exact fun e => h e.symm)]
        have hge := Go.Lib.index_ge t [c]
        cases hm : (Go.Lib.index t [c] == -1) with
        | true =>
          have := Go.Lib.count_miss (beq_iff_eq.1 hm)
          omega
        | false =>
          rw [hm] at ih hi
          simp only [Bool.false_eq_true, if_false] at ih hi
          have hne : Go.Lib.index t [c] ≠ -1 := by simpa using hm
          obtain ⟨i, he⟩ : ∃ i : Nat, Go.Lib.index t [c] = i := ⟨(Go.Lib.index t [c]).toNat, by omega⟩
          rw [he] at ih hi
          rw [hi]
          rw [show ((((i : Nat) : Int) + 1) == -1) = false by simp; omega]
          simp only [Bool.false_eq_true, if_false]
          rw [show (((i : Nat) : Int) + 1).toNat = i + 1 by omega]
          rw [Int.toNat_natCast] at ih
          rw [splitL_cons t h ih.symm]
          simp [List.take_succ_cons, List.drop_succ_cons]
def piecesB (s : ByteArray) (c : UInt8) : List ByteArray := (splitL c s.data.toList).map fun l => ⟨l.toArray⟩
theorem map_back (xs : List ByteArray) : (xs.map (·.data.toList)).map (fun l => (⟨l.toArray⟩ : ByteArray)) = xs := by
  rw [List.map_map]
  conv => rhs; rw [← List.map_id xs]
  exact List.map_congr_left fun x _ => by simp
theorem splitB_pieces (s : ByteArray) (c : UInt8) : Go.Lib.splitB ⟨#[c]⟩ 0 (Go.Lib.countB s ⟨#[c]⟩) s = piecesB s c := by
  have h := Go.Lib.splitB_data (⟨#[c]⟩ : ByteArray) 0 (Go.Lib.countB s ⟨#[c]⟩) s
  have h2 : Go.Lib.splitK [c] 0 (Go.Lib.countB s ⟨#[c]⟩) s.data.toList = splitL c s.data.toList := splitK_one c _
  rw [← map_back (Go.Lib.splitB _ _ _ _), h]
  show (Go.Lib.splitK [c] 0 (Go.Lib.countB s ⟨#[c]⟩) s.data.toList).map _ = _
  rw [h2]; rfl
theorem pieces_len (s : ByteArray) (c : UInt8) : (piecesB s c).length = s.data.toList.count c + 1 := by unfold piecesB; rw [List.length_map, splitL_len]
def cutAt (s : ByteArray) (c : UInt8) : Nat → List ByteArray × Nat
  | 0 => ([], 0)
  | k + 1 => if s.get! k = c then ((cutAt s c k).1 ++ [s.extract (cutAt s c k).2 k], k + 1) else cutAt s c k
theorem cutAt_hit {s : ByteArray} {c : UInt8} {k : Nat} (h : s.get! k = c) : cutAt s c (k + 1) = ((cutAt s c k).1 ++ [s.extract (cutAt s c k).2 k], k + 1) := by
  conv => lhs; unfold cutAt
  rw [if_pos h]
theorem cutAt_miss {s : ByteArray} {c : UInt8} {k : Nat} (h : s.get! k ≠ c) : cutAt s c (k + 1) = cutAt s c k := by
  conv => lhs; unfold cutAt
  rw [if_neg h]
theorem cutAt_le (s : ByteArray) (c : UInt8) : ∀ k, (cutAt s c k).2 ≤ k
  | 0 => Nat.le_refl _
  | k + 1 => by
    by_cases h : s.get! k = c
    · rw [cutAt_hit h]; exact Nat.le_refl _
    · rw [cutAt_miss h]; exact Nat.le_succ_of_le (cutAt_le s c k)
theorem cutAt_many (s : ByteArray) (c : UInt8) : ∀ k, (cutAt s c k).1.length ≤ k
  | 0 => Nat.le_refl _
  | k + 1 => by
    by_cases h : s.get! k = c
    · rw [cutAt_hit h]; simp; exact cutAt_many s c k
    · rw [cutAt_miss h]; exact Nat.le_succ_of_le (cutAt_many s c k)
theorem get_q {s : ByteArray} {k : Nat} (h : k < s.size) : s.data.toList[k]? = some (s.get! k) := by
  have hl := size_list s
  rw [get_list, List.getD_eq_getElem?_getD, List.getElem?_eq_getElem (by omega)]; rfl
theorem drop_q {s : ByteArray} {k : Nat} (h : k < s.size) : s.data.toList.drop k = s.get! k :: s.data.toList.drop (k + 1) := by
  have hl := size_list s
  rw [List.drop_eq_getElem_cons (by omega)]
  rw [Option.some.inj ((List.getElem?_eq_getElem (show k < s.data.toList.length by omega)).symm.trans (get_q h))]
theorem cutAt_spec (s : ByteArray) (c : UInt8) : ∀ k, k ≤ s.size →
    splitL c s.data.toList = (cutAt s c k).1.map (·.data.toList) ++ splitL c (s.data.toList.drop (cutAt s c k).2) ∧ ∀ x ∈ (s.data.toList.drop (cutAt s c k).2).take (k - (cutAt s c k).2), x ≠ c
  | 0, _ => ⟨by simp [cutAt], by simp⟩
  | k + 1, hk => by
    obtain ⟨h1, h2⟩ := cutAt_spec s c k (by omega)
    have hle := cutAt_le s c k
    have hl := size_list s
    have hget := drop_q (s := s) (k := k) (by omega)
    have hsp : s.data.toList.drop (cutAt s c k).2 = (s.data.toList.drop (cutAt s c k).2).take (k - (cutAt s c k).2) ++ s.data.toList.drop k := by
      conv => lhs; rw [← List.take_append_drop (k - (cutAt s c k).2) (s.data.toList.drop (cutAt s c k).2)]
      rw [List.drop_drop, show (cutAt s c k).2 + (k - (cutAt s c k).2) = k by omega]
    by_cases h : s.get! k = c
    · rw [cutAt_hit h]
      refine ⟨?_, by simp⟩
      rw [h1, hsp, hget, h, splitL_app c _ _ h2, List.map_append]
      simp only [List.map_cons, List.map_nil, list_extract, List.append_assoc, List.cons_append, List.nil_append]
    · rw [cutAt_miss h]
      refine ⟨h1, fun x hx => ?_⟩
      rw [show k + 1 - (cutAt s c k).2 = (k - (cutAt s c k).2) + 1 by omega, List.take_add_one] at hx
      rcases List.mem_append.1 hx with hx | hx
      · exact h2 x hx
      · rw [List.getElem?_drop, show (cutAt s c k).2 + (k - (cutAt s c k).2) = k by omega] at hx
        rw [get_q (by omega)] at hx
        obtain rfl : x = s.get! k := by simpa using hx
        exact h
def cutB (s : ByteArray) (c : UInt8) : List ByteArray := (cutAt s c s.size).1 ++ [s.extract (cutAt s c s.size).2 s.size]
theorem cutB_pieces (s : ByteArray) (c : UInt8) : cutB s c = piecesB s c := by
  obtain ⟨h1, h2⟩ := cutAt_spec s c s.size (Nat.le_refl _)
  have hle := cutAt_le s c s.size
  have hl := size_list s
  have hall : (s.data.toList.drop (cutAt s c s.size).2).take (s.size - (cutAt s c s.size).2) = s.data.toList.drop (cutAt s c s.size).2 := List.take_of_length_le (by rw [List.length_drop]; omega)
  rw [hall] at h2
  rw [splitL_none c _ h2] at h1
  unfold piecesB cutB
  rw [h1, List.map_append, map_back]
  congr 1
  simp only [List.map_cons, List.map_nil]
  congr 1
  apply ba_ext
  rw [list_extract, hall]
def goodC (b : UInt8) : Bool := decide (97 ≤ b.toNat) && decide (b.toNat ≤ 122)
def nameB (s : ByteArray) : Bool := inB (s.size : Int) 1 4 && s.data.toList.all goodC
def slB : ByteArray := ⟨#[47]⟩
theorem joinT_pieces (t : ByteArray) (c : UInt8) : joinT (piecesB t c) ⟨#[c]⟩ = t := by
  apply ba_ext
  show Go.Lib.join ((piecesB t c).map (·.data.toList)) [c] = _
  unfold piecesB
  rw [List.map_map]
  have : ((fun x : ByteArray => x.data.toList) ∘ fun l : List UInt8 => (⟨l.toArray⟩ : ByteArray)) = id := by funext l; rfl
  rw [this, List.map_id, splitL_join]
end Go.Proofs.YtdlmlagcniifjaaGreatDoor
