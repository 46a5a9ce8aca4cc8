/- A part of the proof in YtoaopmkbfifhaaaGreatDoorIwZ22. -/
import Derived.ArgAppend
import Derived.BigQuiet
import Derived.BigRegion
import Derived.Deep.AppendLies
import Derived.Deep.MidRow
import Derived.Deep.Quiet
import Derived.Deep.QuietTactic
import Derived.Deep.RegionHeld3
import Derived.Deep.RegionWith
import Derived.IntWalk
import Derived.Laws.BytesArg
import Derived.Laws.RangeAny
import Derived.Lib.AppendIntMem
import Derived.Lib.Hide
import Derived.Lib.IndexBytes
import Derived.Lib.IndexLaws
import Derived.Lib.ItoaNum
import Derived.Lib.Join
import Derived.Lib.LazyBuf
import Derived.Lib.SlBytesConst
import Derived.Lib.Split
import Derived.Lib.SplitLaws
import Derived.LoopIn
import Derived.LoopN
import Derived.LoopNIn
import Derived.Orders
import Derived.OrdersHeld
import Derived.OwnWalkIn
import Derived.RangeFuncLeaves
import Derived.RangeFuncNested
import Derived.Shelf.Abstract
import Derived.Shelf.GgClosure.StringsIndexFunc
import Derived.Shelf.Small.Wraps
import Derived.Shelf.Strconv.Itoa3
import Derived.Shelf.Strings.BuilderF
import Derived.Shelf.Strings.BuilderK
import Derived.Shelf.Strings.FuncGrows
import Derived.Shelf.Strings.OnBuilder
import Derived.Shelf.Strings.Split
import Derived.Shelf.Strings.SplitShaped
import Derived.Shelf.Vars
import Derived.Still
import Derived.StillTail
import Derived.StillTailTactics
import Derived.TacticsInMore
import Derived.Test.YtoaopmkbfifhaaaGreatDoorRows
import Derived.WalkKit
import Derived.WalkLawsBesides
import Derived.WalkSpells
import Derived.Test.YtoaopmkbfifhaaaGreatDoorIwZ17
/- Names, paths, texts cut: plain. -/
namespace Go.Proofs.YtoaopmkbfifhaaaGreatDoor
set_option linter.unusedVariables false
set_option linter.unusedSimpArgs false
set_option maxHeartbeats 1000000
set_option maxRecDepth 100000
open Go.RowKit Go.Lib

/-! ### A text cut at each byte of a kind -/
def splitL (c : UInt8) : List UInt8 → List (List UInt8)
  | [] => [[]]
  | b :: t => if b = c then [] :: splitL c t else match splitL c t with
    | h :: r => (b :: h) :: r
    | [] => [[b]]
theorem splitL_ne (c : UInt8) (l : List UInt8) : ∃ h r, splitL c l = h :: r := by
  cases l with
  | nil => exact ⟨_, _, rfl⟩
  | cons b t =>
    unfold splitL
    split
    · exact ⟨_, _, rfl⟩
    · split
      · exact ⟨_, _, rfl⟩
      · exact ⟨_, _, rfl⟩
theorem splitL_eq (c : UInt8) (t : List UInt8) : splitL c (c :: t) = [] :: splitL c t := by
  conv => lhs; unfold splitL
  rw [if_pos rfl]
theorem splitL_cons {b c : UInt8} (t : List UInt8) (h : b ≠ c) {x : List UInt8} {r : List (List UInt8)} (hs : splitL c t = x :: r) : splitL c (b :: t) = (b :: x) :: r := by
  conv => lhs; unfold splitL
  rw [if_neg h, hs]
theorem splitL_none (c : UInt8) : ∀ (l : List UInt8), (∀ x ∈ l, x ≠ c) → splitL c l = [l]
  | [], _ => rfl
  | b :: t, h => splitL_cons t (h b (List.mem_cons_self ..)) (splitL_none c t fun x hx => h x (List.mem_cons_of_mem _ hx))
theorem splitL_app (c : UInt8) (b : List UInt8) : ∀ (a : List UInt8), (∀ x ∈ a, x ≠ c) → splitL c (a ++ c :: b) = a :: splitL c b
  | [], _ => splitL_eq c b
  | x :: a, h => splitL_cons _ (h x (List.mem_cons_self ..)) (splitL_app c b a fun y hy => h y (List.mem_cons_of_mem _ hy))
theorem splitL_len (c : UInt8) : ∀ (l : List UInt8), (splitL c l).length = l.count c + 1
  | [] => rfl
  | b :: t => by
    by_cases h : b = c
    · subst h; rw [splitL_eq, List.length_cons, splitL_len b t, List.count_cons_self]
    · obtain ⟨x, r, hs⟩ := splitL_ne c t
      have := splitL_len c t
      rw [splitL_cons t h hs, List.length_cons, List.count_cons_of_ne h]
      rw [hs, List.length_cons] at this; exact this
/-- So long are the pieces and what stands between them. -/
theorem splitL_sum (c : UInt8) (B : Nat) : ∀ (l : List UInt8), (∀ x ∈ splitL c l, x.length ≤ B) → l.length + 1 ≤ (splitL c l).length * (B + 1)
  | [], _ => by simp [splitL]
  | b :: t, h => by
    by_cases hb : b = c
    · subst hb
      rw [splitL_eq] at h ⊢
      have := splitL_sum b B t fun x hx => h x (List.mem_cons_of_mem _ hx)
      rw [List.length_cons, List.length_cons, Nat.succ_mul]; omega
    · obtain ⟨x, r, hs⟩ := splitL_ne c t
      rw [splitL_cons t hb hs] at h ⊢
      cases B with
      | zero =>
        have := h (b :: x) (List.mem_cons_self ..)
        simp at this
      | succ B =>
        have h1 := h (b :: x) (List.mem_cons_self ..)
        rw [List.length_cons] at h1
        have key : ∀ (l : List UInt8) (y : List UInt8) (r : List (List UInt8)), splitL c l = y :: r → (∀ z ∈ r, z.length ≤ B + 1) → l.length + 1 ≤ y.length + 1 + r.length * (B + 1 + 1) := by
          intro l
          induction l with
          | nil => intro y r e _; obtain ⟨rfl, rfl⟩ : [] = y ∧ [] = r := by simpa [splitL] using e
                   simp
          | cons a l ih =>
            intro y r e hz
            by_cases ha : a = c
            · subst ha
              rw [splitL_eq] at e
              injection e with e1 e2
              subst e1
              obtain ⟨y', r', e'⟩ := splitL_ne a l
              rw [e'] at e2
              subst e2
              have := ih y' r' e' fun z hz' => hz z (List.mem_cons_of_mem _ hz')
              have := hz y' (List.mem_cons_self ..)
              rw [List.length_cons, List.length_cons, Nat.succ_mul, List.length_nil]; omega
            · obtain ⟨y', r', e'⟩ := splitL_ne c l
              rw [splitL_cons l ha e'] at e
              injection e with e1 e2
              subst e1; subst e2
              have := ih y' r' e' hz
              rw [List.length_cons, List.length_cons]; omega
        have := key t x r hs fun z hz => h z (List.mem_cons_of_mem _ hz)
        rw [List.length_cons, List.length_cons, Nat.succ_mul]; omega
theorem splitL_join (c : UInt8) : ∀ (l : List UInt8), Go.Lib.join (splitL c l) [c] = l
  | [] => rfl
  | b :: t => by
    obtain ⟨x, r, hs⟩ := splitL_ne c t
    have ih := splitL_join c t
    rw [hs, Go.Lib.join_cons] at ih
    by_cases h : b = c
    · subst h
      rw [splitL_eq, hs, Go.Lib.join_cons]
      simp only [Go.Lib.joinTail, List.map_cons, List.flatten_cons, List.nil_append, List.cons_append] at ih ⊢
      rw [ih]
    · rw [splitL_cons t h hs, Go.Lib.join_cons, List.cons_append, ih]
/-- The library's Split does the same. -/
theorem splitK_one (c : UInt8) : ∀ (l : List UInt8), Go.Lib.splitK [c] 0 (Go.Lib.count l [c]) l = splitL c l
  | [] => by
    rw [show Go.Lib.count [] [c] = 0 from Go.Lib.count_one c []]; rfl
  | b :: t => by
    have ih := splitK_one c t
    by_cases h : b = c
    · subst h
      rw [Go.Lib.count_cons_eq, Nat.add_comm, splitL_eq]
      unfold Go.Lib.splitK
      have h0 : Go.Lib.index (b :: t) [b] = 0 := by unfold Go.Lib.index; simp
      rw [h0]
      simp only [show ((0 : Int) == -1) = false from rfl, Bool.false_eq_true, if_false, Int.toNat_zero, Nat.zero_add, List.take_zero, List.length_cons, List.length_nil, List.drop_succ_cons, List.drop_zero]
      rw [ih]
    · rw [Go.Lib.count_cons_ne b c t h]
      cases hk : Go.Lib.count t [c] with
      | zero =>
        rw [hk] at ih
        have h1 : splitL c t = [t] := by rw [← ih]; rfl
        rw [splitL_cons t h h1]; rfl
      | succ k =>
        rw [hk] at ih
        unfold Go.Lib.splitK at ih ⊢
        have hi : Go.Lib.index (b :: t) [c] = if Go.Lib.index t [c] == -1 then -1 else Go.Lib.index t [c] + 1 := by
          conv => lhs; unfold Go.Lib.index
          rw [if_neg (by simp [List.isPrefixOf]; exact fun e => h e.symm)]
        have hge := Go.Lib.index_ge t [c]
        cases hm : (Go.Lib.index t [c] == -1) with
        | true =>
          have := Go.Lib.count_miss (beq_iff_eq.1 hm)
          omega
        | false =>
          rw [hm] at ih hi
          simp only [Bool.false_eq_true, if_false] at ih hi
          have hne : Go.Lib.index t [c] ≠ -1 := by simpa using hm
          obtain ⟨i, he⟩ : ∃ i : Nat, Go.Lib.index t [c] = i := ⟨(Go.Lib.index t [c]).toNat, by omega⟩
          rw [he] at ih hi
          rw [hi]
          rw [show ((((i : Nat) : Int) + 1) == -1) = false by simp; omega]
          simp only [Bool.false_eq_true, if_false]
          rw [show (((i : Nat) : Int) + 1).toNat = i + 1 by omega]
          rw [Int.toNat_natCast] at ih
          rw [splitL_cons t h ih.symm]
          simp [List.take_succ_cons, List.drop_succ_cons]
/-- The pieces of a text. -/
def piecesB (s : ByteArray) (c : UInt8) : List ByteArray := (splitL c s.data.toList).map fun l => ⟨l.toArray⟩
theorem map_back (xs : List ByteArray) : (xs.map (·.data.toList)).map (fun l => (⟨l.toArray⟩ : ByteArray)) = xs := by
  rw [List.map_map]
  conv => rhs; rw [← List.map_id xs]
  exact List.map_congr_left fun x _ => by simp
theorem splitB_pieces (s : ByteArray) (c : UInt8) : Go.Lib.splitB ⟨#[c]⟩ 0 (Go.Lib.countB s ⟨#[c]⟩) s = piecesB s c := by
  have h := Go.Lib.splitB_data (⟨#[c]⟩ : ByteArray) 0 (Go.Lib.countB s ⟨#[c]⟩) s
  have h2 : Go.Lib.splitK [c] 0 (Go.Lib.countB s ⟨#[c]⟩) s.data.toList = splitL c s.data.toList := splitK_one c _
  rw [← map_back (Go.Lib.splitB _ _ _ _), h]
  show (Go.Lib.splitK [c] 0 (Go.Lib.countB s ⟨#[c]⟩) s.data.toList).map _ = _
  rw [h2]; rfl
theorem pieces_len (s : ByteArray) (c : UInt8) : (piecesB s c).length = s.data.toList.count c + 1 := by unfold piecesB; rw [List.length_map, splitL_len]
/-- The pieces as the reference gathers them: those that stand, and where the next one begins. -/
def cutAt (s : ByteArray) (c : UInt8) : Nat → List ByteArray × Nat
  | 0 => ([], 0)
  | k + 1 => if s.get! k = c then ((cutAt s c k).1 ++ [s.extract (cutAt s c k).2 k], k + 1) else cutAt s c k
theorem cutAt_hit {s : ByteArray} {c : UInt8} {k : Nat} (h : s.get! k = c) : cutAt s c (k + 1) = ((cutAt s c k).1 ++ [s.extract (cutAt s c k).2 k], k + 1) := by
  conv => lhs; unfold cutAt
  rw [if_pos h]
theorem cutAt_miss {s : ByteArray} {c : UInt8} {k : Nat} (h : s.get! k ≠ c) : cutAt s c (k + 1) = cutAt s c k := by
  conv => lhs; unfold cutAt
  rw [if_neg h]
theorem cutAt_le (s : ByteArray) (c : UInt8) : ∀ k, (cutAt s c k).2 ≤ k
  | 0 => Nat.le_refl _
  | k + 1 => by
    by_cases h : s.get! k = c
    · rw [cutAt_hit h]; exact Nat.le_refl _
    · rw [cutAt_miss h]; exact Nat.le_succ_of_le (cutAt_le s c k)
theorem cutAt_many (s : ByteArray) (c : UInt8) : ∀ k, (cutAt s c k).1.length ≤ k
  | 0 => Nat.le_refl _
  | k + 1 => by
    by_cases h : s.get! k = c
    · rw [cutAt_hit h]; simp; exact cutAt_many s c k
    · rw [cutAt_miss h]; exact Nat.le_succ_of_le (cutAt_many s c k)
theorem get_q {s : ByteArray} {k : Nat} (h : k < s.size) : s.data.toList[k]? = some (s.get! k) := by
  have hl := size_list s
  rw [get_list, List.getD_eq_getElem?_getD, List.getElem?_eq_getElem (by omega)]; rfl
theorem drop_q {s : ByteArray} {k : Nat} (h : k < s.size) : s.data.toList.drop k = s.get! k :: s.data.toList.drop (k + 1) := by
  have hl := size_list s
  rw [List.drop_eq_getElem_cons (by omega)]
  rw [Option.some.inj ((List.getElem?_eq_getElem (show k < s.data.toList.length by omega)).symm.trans (get_q h))]
theorem cutAt_spec (s : ByteArray) (c : UInt8) : ∀ k, k ≤ s.size →
    splitL c s.data.toList = (cutAt s c k).1.map (·.data.toList) ++ splitL c (s.data.toList.drop (cutAt s c k).2) ∧ ∀ x ∈ (s.data.toList.drop (cutAt s c k).2).take (k - (cutAt s c k).2), x ≠ c
  | 0, _ => ⟨by simp [cutAt], by simp⟩
  | k + 1, hk => by
    obtain ⟨h1, h2⟩ := cutAt_spec s c k (by omega)
    have hle := cutAt_le s c k
    have hl := size_list s
    have hget := drop_q (s := s) (k := k) (by omega)
    have hsp : s.data.toList.drop (cutAt s c k).2 = (s.data.toList.drop (cutAt s c k).2).take (k - (cutAt s c k).2) ++ s.data.toList.drop k := by
      conv => lhs; rw [← List.take_append_drop (k - (cutAt s c k).2) (s.data.toList.drop (cutAt s c k).2)]
      rw [List.drop_drop, show (cutAt s c k).2 + (k - (cutAt s c k).2) = k by omega]
    by_cases h : s.get! k = c
    · rw [cutAt_hit h]
      refine ⟨?_, by simp⟩
      rw [h1, hsp, hget, h, splitL_app c _ _ h2, List.map_append]
      simp only [List.map_cons, List.map_nil, list_extract, List.append_assoc, List.cons_append, List.nil_append]
    · rw [cutAt_miss h]
      refine ⟨h1, fun x hx => ?_⟩
      rw [show k + 1 - (cutAt s c k).2 = (k - (cutAt s c k).2) + 1 by omega, List.take_add_one] at hx
      rcases List.mem_append.1 hx with hx | hx
      · exact h2 x hx
      · rw [List.getElem?_drop, show (cutAt s c k).2 + (k - (cutAt s c k).2) = k by omega] at hx
        rw [get_q (by omega)] at hx
        obtain rfl : x = s.get! k := by simpa using hx
        exact h
def cutB (s : ByteArray) (c : UInt8) : List ByteArray := (cutAt s c s.size).1 ++ [s.extract (cutAt s c s.size).2 s.size]
theorem cutB_pieces (s : ByteArray) (c : UInt8) : cutB s c = piecesB s c := by
  obtain ⟨h1, h2⟩ := cutAt_spec s c s.size (Nat.le_refl _)
  have hle := cutAt_le s c s.size
  have hl := size_list s
  have hall : (s.data.toList.drop (cutAt s c s.size).2).take (s.size - (cutAt s c s.size).2) = s.data.toList.drop (cutAt s c s.size).2 := List.take_of_length_le (by rw [List.length_drop]; omega)
  rw [hall] at h2
  rw [splitL_none c _ h2] at h1
  unfold piecesB cutB
  rw [h1, List.map_append, map_back]
  congr 1
  simp only [List.map_cons, List.map_nil]
  congr 1
  apply ba_ext
  rw [list_extract, hall]

/-! ### Names -/
def goodC (b : UInt8) : Bool := decide (97 ≤ b.toNat) && decide (b.toNat ≤ 122)
def nameB (s : ByteArray) : Bool := inB (s.size : Int) 1 4 && s.data.toList.all goodC
def badR (r : Nat) : Bool := decide ((r : Int) < 97) || decide (122 < (r : Int))
theorem badR_good (b : UInt8) : badR b.toNat = !goodC b := by
  unfold badR goodC
  by_cases h1 : 97 ≤ b.toNat
  · by_cases h2 : b.toNat ≤ 122
    · rw [decide_eq_false (by omega), decide_eq_false (by omega), decide_eq_true h1, decide_eq_true h2]; rfl
    · rw [decide_eq_false (by omega), decide_eq_true (by omega), decide_eq_true h1, decide_eq_false h2]; rfl
  · rw [decide_eq_true (by omega), decide_eq_false h1]; rfl
theorem badR_high {r : Nat} (h : 128 ≤ r) : badR r = true := by
  unfold badR
  rw [decide_eq_true (show 122 < (r : Int) by omega), Bool.or_true]
theorem goodB_drop {s : ByteArray} {k : Nat} (h : k < s.size) : (s.data.toList.drop k).all goodC = (goodC (s.get! k) && (s.data.toList.drop (k + 1)).all goodC) := by rw [drop_q h, List.all_cons]
theorem goodB_end {s : ByteArray} {k : Nat} (h : ¬ k < s.size) : (s.data.toList.drop k).all goodC = true := by
  have hl := size_list s
  rw [List.drop_eq_nil_of_le (by omega)]; rfl
theorem get_elem {s : ByteArray} {k : Nat} (h : k < s.size) : s[k]'h = s.get! k := by
  rw [get_list, List.getD_eq_getElem?_getD, Array.getElem?_toList, Array.getElem?_eq_getElem (by exact h)]; rfl
theorem idxFrom_good (s : ByteArray) : ∀ (f pos : Nat), s.size ≤ pos + f → decide (idxFuncFrom badR true s f pos < 0) = (s.data.toList.drop pos).all goodC
  | 0, pos, h => by
    rw [goodB_end (by omega)]; rfl
  | f + 1, pos, h => by
    unfold idxFuncFrom
    by_cases hp : pos < s.size
    · rw [if_pos hp, goodB_drop hp]
      have he := get_elem hp
      by_cases hb : (s.get! pos).toNat < 128
      · have hd := decode_ascii s pos hp (by rw [he]; exact hb)
        rw [hd, he]
        simp only
        cases hg : goodC (s.get! pos) with
        | true =>
          rw [if_neg (by rw [badR_good, hg]; decide), idxFrom_good s f (pos + 1) (by omega), Bool.true_and]
        | false =>
          rw [if_pos (by rw [badR_good, hg]; rfl), decide_eq_false (by omega)]; rfl
      · have hd := decode_high s pos hp (by rw [he]; omega)
        rw [if_pos (badR_high hd.1), decide_eq_false (by omega)]
        have : goodC (s.get! pos) = false := by
          unfold goodC
          rw [decide_eq_false (show ¬ (s.get! pos).toNat ≤ 122 by omega), Bool.and_false]
        rw [this]; rfl
    · rw [if_neg hp, goodB_end hp]; rfl
theorem idx_good (s : ByteArray) : decide (idxFunc badR true s < 0) = s.data.toList.all goodC := idxFrom_good s s.size 0 (by omega)

/-! ### Paths -/
/-- The names of a text behind its first byte are all names, and not too many. -/
def restB (t : ByteArray) : Bool := decide ((piecesB t 47).length ≤ 4) && (piecesB t 47).all nameB
def slB : ByteArray := ⟨#[47]⟩
def pathB (s : ByteArray) : Bool := bif (s.toList == (⟨#[47]⟩ : ByteArray).toList) then true else (s.data.toList.head? == some 47 && restB (s.extract 1 s.size))
theorem pathB_sl {s : ByteArray} (h : (s.toList == (⟨#[47]⟩ : ByteArray).toList) = true) : pathB s = true := by unfold pathB; rw [h]; rfl
theorem pathB_no {s : ByteArray} (h : (s.toList == (⟨#[47]⟩ : ByteArray).toList) = false) (h2 : (s.data.toList.head? == some 47) = false) : pathB s = false := by unfold pathB; rw [h, h2]; rfl
theorem pathB_rest {s : ByteArray} (h : (s.toList == (⟨#[47]⟩ : ByteArray).toList) = false) (h2 : (s.data.toList.head? == some 47) = true) : pathB s = restB (s.extract 1 s.size) := by unfold pathB; rw [h, h2]; rfl
theorem restB_size {t : ByteArray} (h : restB t = true) : t.size ≤ 19 := by
  unfold restB at h
  rw [Bool.and_eq_true, List.all_eq_true, decide_eq_true_eq] at h
  have h1 := splitL_sum 47 4 t.data.toList fun x hx => by
    have := h.2 ⟨x.toArray⟩ (List.mem_map.2 ⟨x, hx, rfl⟩)
    unfold nameB at this
    rw [Bool.and_eq_true] at this
    have := inB_true this.1
    rw [size_list] at this
    simp at this
    omega
  have h2 : (splitL 47 t.data.toList).length ≤ 4 := by have := h.1; unfold piecesB at this; rwa [List.length_map] at this
  rw [size_list]
  have : (splitL 47 t.data.toList).length * (4 + 1) ≤ 4 * 5 := Nat.mul_le_mul h2 (Nat.le_refl _)
  omega
theorem ext1_size {s : ByteArray} : (s.extract 1 s.size).size = s.size - 1 := by
  have h := size_list s
  rw [size_list, list_extract, List.length_take, List.length_drop, ← h]; omega
theorem restB_long {s : ByteArray} (h : 20 < (s.size : Int)) : restB (s.extract 1 s.size) = false := by
  cases hr : restB (s.extract 1 s.size) with
  | false => rfl
  | true => have := restB_size hr; rw [ext1_size] at this; omega
def okN (xs : List ByteArray) : Bool := decide (xs.length ≤ 4) && xs.all nameB
theorem restB_okN (t : ByteArray) : restB t = okN (piecesB t 47) := rfl
theorem pieces_head {s : ByteArray} (h : s.data.toList.head? = some 47) : piecesB s 47 = ByteArray.empty :: piecesB (s.extract 1 s.size) 47 := by
  have hl : s.data.toList = 47 :: s.data.toList.drop 1 := by
    cases hs : s.data.toList with
    | nil => rw [hs] at h; cases h
    | cons b t => rw [hs] at h; obtain rfl : b = 47 := by simpa using h
                  simp
  have hz := size_list s
  have hx : (s.extract 1 s.size).data.toList = s.data.toList.drop 1 := by
    rw [list_extract, List.take_of_length_le (by rw [List.length_drop]; omega)]
  unfold piecesB
  rw [hx]
  conv => lhs; rw [hl, splitL_eq]
  rfl
theorem head_get {s : ByteArray} (h : 0 < s.size) : (s.data.toList.head? == some 47) = ((((s.get! 0).toNat : Nat) : Int) == 47) := by
  have hz := size_list s
  have hg := get_q h
  rw [List.head?_eq_getElem?, hg]
  by_cases hb : s.get! 0 = 47
  · rw [hb]; rfl
  · rw [beq_eq_false_iff_ne.2 (fun e => hb (Option.some.inj e))]
    symm
    rw [beq_eq_false_iff_ne]
    intro e
    exact hb (UInt8.toNat_inj.1 (by show (s.get! 0).toNat = 47; omega))
theorem head_back {s : ByteArray} (h : (s.data.toList.head? == some 47) = true) : slB ++ s.extract 1 s.size = s := by
  have h := eq_of_beq h
  apply ba_ext
  rw [list_append, list_extract, List.take_of_length_le (by rw [List.length_drop, ← size_list]; omega)]
  cases hs : s.data.toList with
  | nil => rw [hs] at h; cases h
  | cons b t => rw [hs] at h; obtain rfl : b = 47 := by simpa using h
                rfl
theorem size_pos {s : ByteArray} (h : (s.toList == (⟨#[]⟩ : ByteArray).toList) = false) : 0 < s.size := by
  rcases Nat.eq_zero_or_pos s.size with h0 | h0
  · have : s = ⟨#[]⟩ := by apply ba_ext; rw [size_list] at h0; exact List.length_eq_zero_iff.1 h0
    rw [this] at h; simp at h
  · exact h0
theorem head_nil {s : ByteArray} (h : (s.toList == (⟨#[]⟩ : ByteArray).toList) = true) (hb : ∀ {a b : ByteArray}, (a.toList == b.toList) = true → a = b) : (s.data.toList.head? == some 47) = false := by
  rw [hb h]; rfl
theorem joinT_pieces (t : ByteArray) (c : UInt8) : joinT (piecesB t c) ⟨#[c]⟩ = t := by
  apply ba_ext
  show Go.Lib.join ((piecesB t c).map (·.data.toList)) [c] = _
  unfold piecesB
  rw [List.map_map]
  have : ((fun x : ByteArray => x.data.toList) ∘ fun l : List UInt8 => (⟨l.toArray⟩ : ByteArray)) = id := by funext l; rfl
  rw [this, List.map_id, splitL_join]
theorem joinT_sl (t : ByteArray) : joinT (piecesB t 47) slB = t := joinT_pieces t 47
end Go.Proofs.YtoaopmkbfifhaaaGreatDoor

/- Names, paths, texts cut: walked. -/
namespace Go.Proofs.YtoaopmkbfifhaaaGreatDoor
set_option linter.unusedVariables false
set_option linter.unusedSimpArgs false
set_option maxHeartbeats 1000000
set_option maxRecDepth 100000
open Go.RowKit

section
variable {P : Program} {w : World} {o : Oper} {a : Act} {t : TypeId} {x y z : Operand}
theorem yl_sliceSm (ho : o.op = .slice t x (some y) (some z) none) {b : ByteArray} (hx : a.eval x = .string b) {k1 k2 : IntKind} {m n : Int} (hy : a.eval y = .int k1 m) (hz : a.eval z = .int k2 n) (hu : P.underlying t = some .string) {i j : Nat} (hm : m = (i : Int)) (hn : n = (j : Int)) (hij : i ≤ j) (hj : j ≤ b.size) : Yl P w o a (.string (b.extract i j)) := by
  subst hm; subst hn
  have h1 : ((i : Int) ≤ (j : Int)) := by omega
  have h2 : ((j : Int) ≤ (b.size : Int)) := by omega
  unfold Yl execOp
  simp only [ho, hx, hy, hz, Option.map_some, Option.map_none, Instr.sliceAt, Instr.slice, Sem.run_bind, run_underlying hu w, Result.andThen_ok]
  simp [Instr.slice, Instr.sliceBounds, Instr.sliceBound, asIntOf, go_sem, run_underlying hu w, h1, h2]
  rw [if_pos hj, if_pos hij]
end
theorem u8_eqI {a b : UInt8} (h : ((a.toNat : Int) == (b.toNat : Int)) = true) : a = b := by
  have := eq_of_beq h
  exact UInt8.toNat_inj.1 (by omega)
theorem u8_neI {a b : UInt8} (h : ((a.toNat : Int) == (b.toNat : Int)) = false) : a ≠ b := fun e => by rw [e] at h; simp at h
/-- The variable of the library that tells how long a text may be for its fast road holds some number. -/
def MaxP (w : World) : Prop := ∃ m, w.cell? ⟨1, 0, none⟩ = some (.int .i64 m)
theorem MaxP.below {w w' : World} (h : MaxP w) (hb : Below w.heap.size w w') : MaxP w' := by
  obtain ⟨m, hm⟩ := h
  have hlt : 1 < w.heap.size := World.block_lt_of_cell? w _ hm
  exact ⟨m, (hb.cell (p := ⟨1, 0, none⟩) hlt).trans hm⟩

theorem nameOk1_any (r : Nat) (w0 : World) : Calls Tryz.prog 135 #[.int .i32 (r : Int)] w0 fun e w' => e = .returned (.bool (badR r)) ∧ Below w0.heap.size w0 w' := by
 have HS := Bx.mk (St.start w0)
 refine wc_enter Tryz.func135 rfl Tryz.ntmps135 [(0, .int .i32 (r : Int))] ⟨rfl, trivial⟩ rfl ?_; intro a HF
 refine wp_sr ?_
 refine wl_as HF rfl rfl rfl rfl rfl ?_; clear HF a; intro a HF
 refine wl_ne ?_
 refine wp_sr ?_
 refine wl_mv HF rfl rfl rfl rfl rfl ?_; clear HF a; intro a HF
 refine wl_y rfl HF rfl rfl (yl_lssI rfl (HF.ev rfl) (HF.ev rfl)) ?_; clear HF a; intro a HF
 refine wl_mv HF rfl rfl rfl rfl rfl ?_; clear HF a; intro a HF
 refine HF.cases 5 rfl (fun cc1 HF1 => ?_) (fun cc1 HF1 => ?_)
 ·clear HF; have HF := HF1; clear HF1
  have dcc1 := of_decide_eq_true cc1
  refine wl_skip HF rfl rfl rfl rfl rfl rfl ?_; clear HF a; intro a HF
  refine wl_skip HF rfl rfl rfl rfl rfl rfl ?_; clear HF a; intro a HF
  refine wl_y rfl HF rfl rfl (yl_pick_t rfl (HF.ev rfl) (HF.ev rfl)) ?_; clear HF a; intro a HF
  refine wl_as HF rfl rfl rfl rfl rfl ?_; clear HF a; intro a HF
  refine wl_ne ?_
  refine wp_ret ?_
  refine bp_ret1 HF Tryz.results135 (HF.res rfl) ?_
  exact ⟨by unfold badR; rw [cc1] <;> rfl, HS.out.bel⟩
 ·clear HF; have HF := HF1; clear HF1
  have dcc1 := of_decide_eq_false cc1
  refine wl_yg HF rfl rfl rfl rfl rfl (yl_move rfl (HF.ev rfl)) ?_; clear HF a; intro a HF
  refine wl_yg HF rfl rfl rfl rfl rfl (yl_gtrI rfl (HF.ev rfl) (HF.ev rfl)) ?_; clear HF a; intro a HF
  refine wl_y rfl HF rfl rfl (yl_pick_f rfl (HF.ev rfl) (HF.ev rfl)) ?_; clear HF a; intro a HF
  refine wl_as HF rfl rfl rfl rfl rfl ?_; clear HF a; intro a HF
  refine wl_ne ?_
  refine wp_ret ?_
  refine bp_ret1 HF Tryz.results135 (HF.res rfl) ?_
  exact ⟨by unfold badR; rw [cc1] <;> rfl, HS.out.bel⟩

theorem idxF_any (s : ByteArray) (w : World) : Calls Tryz.prog 134 #[.string s, .func (.func 135) #[] #[]] w fun e w' => e = .returned (.int .i64 (Go.Lib.idxFunc badR true s)) ∧ Below w.heap.size w w' :=
  Any.strings_IndexFunc_grows layIdxF 135 #[] (enter_of Tryz.func135 (by kernel_rfl) rfl) badR s w fun W x _ _ => nameOk1_any x W

theorem implNameOk_any (s : ByteArray) (w0 : World) (hs : s.size ≤ 9223372036854775806) : Calls Tryz.prog 90 #[.string s] w0 fun e w' => e = .returned (.bool (nameB s)) ∧ Below w0.heap.size w0 w' := by
 have HS := Bx.mk (St.start w0)
 refine wc_enter Tryz.func90 rfl Tryz.ntmps90 [(0, .string s)] ⟨rfl, trivial⟩ rfl ?_; intro a HF
 refine wp_sr ?_
 refine wl_as HF rfl rfl rfl rfl rfl ?_; clear HF a; intro a HF
 refine wl_ne ?_
 refine wp_sr ?_
 refine wl_mv HF rfl rfl rfl rfl rfl ?_; clear HF a; intro a HF
 refine wl_y rfl HF rfl rfl (yl_lenS rfl (HF.ev rfl) (by kernel_rfl)) ?_; clear HF a; intro a HF
 refine wl_callB rfl HF rfl (enter_of Tryz.func52 (by kernel_rfl) rfl) (args := #[.int .i64 (s.size : Int), .int .i64 1, .int .i64 4]) rfl (v := .bool (inB (s.size : Int) 1 4)) (((within_any (s.size : Int) 1 4 _).mono fun _ _ h => ⟨h.1, h.2 ▸ Below.refl _ _⟩)) rfl rfl HS.out ?_; clear HF HS a; intro w1 a HS HF; replace HS := Bx.mk HS
 refine wl_mv HF rfl rfl rfl rfl rfl ?_; clear HF a; intro a HF
 refine HF.cases 6 rfl (fun cc1 HF1 => ?_) (fun cc1 HF1 => ?_)
 ·clear HF; have HF := HF1; clear HF1
  refine wl_yg HF rfl rfl rfl rfl rfl (yl_move rfl (HF.ev rfl)) ?_; clear HF a; intro a HF
  refine wl_callBg HF rfl rfl rfl rfl (enter_of Tryz.func134 (by kernel_rfl) rfl) (args := #[.string s, .func (.func 135) #[] #[]]) rfl (v := .int .i64 (Go.Lib.idxFunc badR true s)) (idxF_any s _) rfl rfl HS.out ?_; clear HF HS a; intro w2 a HS HF; replace HS := Bx.mk HS
  refine wl_yg HF rfl rfl rfl rfl rfl (yl_lssI rfl (HF.ev rfl) (HF.ev rfl)) ?_; clear HF a; intro a HF
  refine wl_y rfl HF rfl rfl (yl_pick_t rfl (HF.ev rfl) (HF.ev rfl)) ?_; clear HF a; intro a HF
  refine wl_as HF rfl rfl rfl rfl rfl ?_; clear HF a; intro a HF
  refine wl_ne ?_
  refine wp_ret ?_
  refine bp_ret1 HF Tryz.results90 (HF.res rfl) ?_
  exact ⟨by unfold nameB; rw [cc1, Bool.true_and, ← idx_good], HS.out.bel⟩
 ·clear HF; have HF := HF1; clear HF1
  refine wl_skip HF rfl rfl rfl rfl rfl rfl ?_; clear HF a; intro a HF
  refine wl_skip HF rfl rfl rfl rfl rfl rfl ?_; clear HF a; intro a HF
  refine wl_skip HF rfl rfl rfl rfl rfl rfl ?_; clear HF a; intro a HF
  refine wl_y rfl HF rfl rfl (yl_pick_f rfl (HF.ev rfl) (HF.ev rfl)) ?_; clear HF a; intro a HF
  refine wl_as HF rfl rfl rfl rfl rfl ?_; clear HF a; intro a HF
  refine wl_ne ?_
  refine wp_ret ?_
  refine bp_ret1 HF Tryz.results90 (HF.res rfl) ?_
  exact ⟨by unfold nameB; rw [cc1]; rfl, HS.out.bel⟩

theorem specNameOk_any (s : ByteArray) (w0 : World) (hs : s.size ≤ 9223372036854775806) : Calls Tryz.prog 87 #[.string s] w0 fun e w' => e = .returned (.bool (nameB s)) ∧ Below w0.heap.size w0 w' := by
 have HS := Bx.mk (St.start w0)
 refine wc_enter Tryz.func87 rfl Tryz.ntmps87 [(0, .string s)] ⟨rfl, trivial⟩ rfl ?_; intro a HF
 refine wp_sr ?_
 refine wl_as HF rfl rfl rfl rfl rfl ?_; clear HF a; intro a HF
 refine wl_ne ?_
 refine wp_seq ?_
 refine wp_sr ?_
 refine wl_as HF rfl rfl rfl rfl rfl ?_; clear HF a; intro a HF
 refine wl_ne ?_
 refine wp_block ?_
 refine wc_loop (ι := Nat) (fun k a w => (k ≤ s.size ∧ s.data.toList.all goodC = (s.data.toList.drop k).all goodC) ∧ Fr 23 a [(0, .string s), (3, .int .i64 (k : Int))] ∧ St w0 ([]) w) (fun k => s.size - k) 0 ⟨⟨Nat.zero_le _, rfl⟩, HF.less _ ⟨rfl, rfl, trivial⟩, HS.out⟩ ?_
 clear HF HS; clear a
 rintro k a w1 ⟨⟨hk, hg⟩, HF, HS⟩
 replace HS := Bx.mk HS
 refine wp_seq ?_
 refine wp_sr ?_
 refine wl_mv HF rfl rfl rfl rfl rfl ?_; clear HF a; intro a HF
 refine wl_mv HF rfl rfl rfl rfl rfl ?_; clear HF a; intro a HF
 refine wl_y rfl HF rfl rfl (yl_lenS rfl (HF.ev rfl) (by kernel_rfl)) ?_; clear HF a; intro a HF
 refine wl_y rfl HF rfl rfl (yl_lssI rfl (HF.ev rfl) (HF.ev rfl)) ?_; clear HF a; intro a HF
 refine wl_ne ?_
 refine HF.cases 7 rfl (fun cc1 HF1 => ?_) (fun cc1 HF1 => ?_)
 ·clear HF; have HF := HF1; clear HF1
  have dcc1 := of_decide_eq_true cc1
  refine wc_true HF rfl ?_
  refine wp_skip ?_
  refine ex_then ?_
  refine wp_seq ?_
  refine wp_block ?_
  refine wp_sr ?_
  refine wl_mv HF rfl rfl rfl rfl rfl ?_; clear HF a; intro a HF
  refine wl_mv HF rfl rfl rfl rfl rfl ?_; clear HF a; intro a HF
  refine wl_y rfl HF rfl rfl (yl_indexS (i := k) rfl (HF.ev rfl) (HF.ev rfl) (by kernel_rfl) (by omega) (by omega)) ?_; clear HF a; intro a HF
  refine wl_y rfl HF rfl rfl (yl_lssI rfl (HF.ev rfl) (HF.ev rfl)) ?_; clear HF a; intro a HF
  refine wl_mv HF rfl rfl rfl rfl rfl ?_; clear HF a; intro a HF
  refine HF.cases 14 rfl (fun cc2 HF1 => ?_) (fun cc2 HF1 => ?_)
  ·clear HF; have HF := HF1; clear HF1
   have dcc2 := of_decide_eq_true cc2
   refine wl_skip HF rfl rfl rfl rfl rfl rfl ?_; clear HF a; intro a HF
   refine wl_skip HF rfl rfl rfl rfl rfl rfl ?_; clear HF a; intro a HF
   refine wl_skip HF rfl rfl rfl rfl rfl rfl ?_; clear HF a; intro a HF
   refine wl_skip HF rfl rfl rfl rfl rfl rfl ?_; clear HF a; intro a HF
   refine wl_y rfl HF rfl rfl (yl_pick_t rfl (HF.ev rfl) (HF.ev rfl)) ?_; clear HF a; intro a HF
   refine wl_ne ?_
   refine wc_true HF rfl ?_
   refine wp_sr ?_
   refine wl_as HF rfl rfl rfl rfl rfl ?_; clear HF a; intro a HF
   refine wl_ne ?_
   refine wp_ret ?_
   refine ex_block_ret ?_
   refine ex_then_ret ?_
   refine ex_then_ret ?_
   refine ex_block_ret ?_
   refine ex_then_ret ?_
   refine bp_ret1 HF Tryz.results87 (HF.res rfl) ?_
   have hgk : goodC (s.get! k) = false := by unfold goodC; rw [decide_eq_false (by have := of_decide_eq_true cc2; omega)]; rfl
   exact ⟨by unfold nameB; rw [hg, goodB_drop (by omega), hgk, Bool.false_and, Bool.and_false], HS.out.bel⟩
  ·clear HF; have HF := HF1; clear HF1
   have dcc2 := of_decide_eq_false cc2
   refine wl_yg HF rfl rfl rfl rfl rfl (yl_move rfl (HF.ev rfl)) ?_; clear HF a; intro a HF
   refine wl_yg HF rfl rfl rfl rfl rfl (yl_move rfl (HF.ev rfl)) ?_; clear HF a; intro a HF
   refine wl_yg HF rfl rfl rfl rfl rfl (yl_indexS (i := k) rfl (HF.ev rfl) (HF.ev rfl) (by kernel_rfl) (by omega) (by omega)) ?_; clear HF a; intro a HF
   refine wl_yg HF rfl rfl rfl rfl rfl (yl_gtrI rfl (HF.ev rfl) (HF.ev rfl)) ?_; clear HF a; intro a HF
   refine wl_y rfl HF rfl rfl (yl_pick_f rfl (HF.ev rfl) (HF.ev rfl)) ?_; clear HF a; intro a HF
   refine wl_ne ?_
   refine HF.cases 19 rfl (fun cc3 HF1 => ?_) (fun cc3 HF1 => ?_)
   ·clear HF; have HF := HF1; clear HF1
    have dcc3 := of_decide_eq_true cc3
    refine wc_true HF rfl ?_
    refine wp_sr ?_
    refine wl_as HF rfl rfl rfl rfl rfl ?_; clear HF a; intro a HF
    refine wl_ne ?_
    refine wp_ret ?_
    refine ex_block_ret ?_
    refine ex_then_ret ?_
    refine ex_then_ret ?_
    refine ex_block_ret ?_
    refine ex_then_ret ?_
    refine bp_ret1 HF Tryz.results87 (HF.res rfl) ?_
    have hgk : goodC (s.get! k) = false := by unfold goodC; rw [decide_eq_false (show ¬ (s.get! k).toNat ≤ 122 by have := of_decide_eq_true cc3; omega), Bool.and_false]
    exact ⟨by unfold nameB; rw [hg, goodB_drop (by omega), hgk, Bool.false_and, Bool.and_false], HS.out.bel⟩
   ·clear HF; have HF := HF1; clear HF1
    have dcc3 := of_decide_eq_false cc3
    refine wc_false HF rfl ?_
    refine wp_skip ?_
    refine ex_block ?_
    refine ex_then ?_
    refine wp_region_lit ?_
    refine wl_mv HF rfl rfl rfl rfl rfl ?_; clear HF a; intro a HF
    refine wl_y rfl HF rfl rfl (yl_addI rfl (HF.ev rfl) (HF.ev rfl) (i64w (by omega))) ?_; clear HF a; intro a HF
    refine wl_as HF rfl rfl rfl rfl rfl ?_; clear HF a; intro a HF
    refine wl_ne ?_
    have hgk : goodC (s.get! k) = true := by have := of_decide_eq_false cc2; have := of_decide_eq_false cc3; unfold goodC; rw [decide_eq_true (by omega), decide_eq_true (by omega)]; rfl
    have hnx : s.data.toList.all goodC = (s.data.toList.drop (k + 1)).all goodC := by rw [hg, goodB_drop (by omega), hgk, Bool.true_and]
    exact ⟨k + 1, ⟨⟨by omega, hnx⟩, HF.less _ ⟨rfl, rfl, trivial⟩, HS.out⟩, (by omega)⟩
 ·clear HF; have HF := HF1; clear HF1
  have dcc1 := of_decide_eq_false cc1
  refine wc_false HF rfl ?_
  refine wp_exit ?_
  refine ex_then_exit ?_
  refine ex_then_exit ?_
  refine ex_block_hit ?_
  refine ex_then ?_
  refine wp_sr ?_
  refine wl_mv HF rfl rfl rfl rfl rfl ?_; clear HF a; intro a HF
  refine wl_y rfl HF rfl rfl (yl_lenS rfl (HF.ev rfl) (by kernel_rfl)) ?_; clear HF a; intro a HF
  refine wl_callB rfl HF rfl (enter_of Tryz.func61 (by kernel_rfl) rfl) (args := #[.int .i64 (s.size : Int), .int .i64 1, .int .i64 4]) rfl (v := .bool (inB (s.size : Int) 1 4)) (((l6In_any (s.size : Int) 1 4 _).mono fun _ _ h => ⟨h.1, h.2 ▸ Below.refl _ _⟩)) rfl rfl HS.out ?_; clear HF HS a; intro w2 a HS HF; replace HS := Bx.mk HS
  refine wl_as HF rfl rfl rfl rfl rfl ?_; clear HF a; intro a HF
  refine wl_ne ?_
  refine wp_ret ?_
  refine bp_ret1 HF Tryz.results87 (HF.res rfl) ?_
  exact ⟨by unfold nameB; rw [hg, goodB_end (by omega), Bool.and_true], HS.out.bel⟩

theorem l2Cut_any (s : ByteArray) (c : UInt8) (w0 : World) (hs : s.size ≤ 1099511627776) : Calls Tryz.prog 173 #[.string s, .int .u8 (c.toNat : Int)] w0 fun e w' => ∃ ao cp, e = .returned (.slice ao (piecesB s c).length cp) ∧ St w0 [rowA encS 1 9 (.slice ao (piecesB s c).length cp) (piecesB s c)] w' := by
 have HS := Bx.mk (St.start w0)
 refine wc_enter Tryz.func173 rfl Tryz.ntmps173 [(0, .string s), (1, .int .u8 (c.toNat : Int))] ⟨rfl, rfl, trivial⟩ rfl ?_; intro a HF
 refine wp_sr ?_
 refine wl_as HF rfl rfl rfl rfl rfl ?_; clear HF a; intro a HF
 refine wl_ne ?_
 refine wp_sr ?_
 refine wl_empty (e := 9) (size := 1) rfl HF rfl rfl rfl (by kernel_rfl) HS.out ?_; clear HF HS a; intro a w1 b1 HF HS; replace HS := Bx.mk HS
 refine wl_as HF rfl rfl rfl rfl rfl ?_; clear HF a; intro a HF
 refine wl_ne ?_
 refine wp_sr ?_
 refine wl_as HF rfl rfl rfl rfl rfl ?_; clear HF a; intro a HF
 refine wl_ne ?_
 refine wp_seq ?_
 refine wp_sr ?_
 refine wl_as HF rfl rfl rfl rfl rfl ?_; clear HF a; intro a HF
 refine wl_ne ?_
 refine wp_block ?_
 replace HS := Bx.mk (HS.out.nilRow encS 1 9 (some ⟨b1, 0, none⟩))
 refine wc_loop (ι := Nat) (fun k a w => ∃ (ao : Option Addr) (cp : Nat) (xs : List ByteArray), (k ≤ s.size ∧ xs = (cutAt s c k).1) ∧ Fr 35 a [(0, .string s), (1, .int .u8 (c.toNat : Int)), (5, .slice ao xs.length cp), (6, .int .i64 ((cutAt s c k).2 : Int)), (7, .int .i64 (k : Int))] ∧ St w0 ([rowA encS 1 9 (.slice ao xs.length cp) xs]) w) (fun k => s.size - k) 0 ⟨_, _, [], ⟨Nat.zero_le _, rfl⟩, HF.less _ ⟨rfl, rfl, rfl, rfl, rfl, trivial⟩, HS.out⟩ ?_
 clear HF HS; clear a
 rintro k a w2 ⟨ao, cp, xs, ⟨hk, hq⟩, HF, HS⟩
 replace HS := Bx.mk HS
 have hfl := cutAt_le s c k; have hml := cutAt_many s c k; have hxl : xs.length = (cutAt s c k).1.length := by rw [hq]
 refine wp_seq ?_
 refine wp_sr ?_
 refine wl_mv HF rfl rfl rfl rfl rfl ?_; clear HF a; intro a HF
 refine wl_mv HF rfl rfl rfl rfl rfl ?_; clear HF a; intro a HF
 refine wl_y rfl HF rfl rfl (yl_lenS rfl (HF.ev rfl) (by kernel_rfl)) ?_; clear HF a; intro a HF
 refine wl_y rfl HF rfl rfl (yl_lssI rfl (HF.ev rfl) (HF.ev rfl)) ?_; clear HF a; intro a HF
 refine wl_ne ?_
 refine HF.cases 12 rfl (fun cc1 HF1 => ?_) (fun cc1 HF1 => ?_)
 ·clear HF; have HF := HF1; clear HF1
  have dcc1 := of_decide_eq_true cc1
  refine wc_true HF rfl ?_
  refine wp_skip ?_
  refine ex_then ?_
  refine wp_seq ?_
  refine wp_block ?_
  refine wp_sr ?_
  refine wl_mv HF rfl rfl rfl rfl rfl ?_; clear HF a; intro a HF
  refine wl_mv HF rfl rfl rfl rfl rfl ?_; clear HF a; intro a HF
  refine wl_y rfl HF rfl rfl (yl_indexS (i := k) rfl (HF.ev rfl) (HF.ev rfl) (by kernel_rfl) (by omega) (by omega)) ?_; clear HF a; intro a HF
  refine wl_mv HF rfl rfl rfl rfl rfl ?_; clear HF a; intro a HF
  refine wl_y rfl HF rfl rfl (yl_eqlI rfl (HF.ev rfl) (HF.ev rfl)) ?_; clear HF a; intro a HF
  refine wl_ne ?_
  refine HF.cases 19 rfl (fun cc2 HF1 => ?_) (fun cc2 HF1 => ?_)
  ·clear HF; have HF := HF1; clear HF1
   have dcc2 := eq_of_beq cc2
   refine wc_true HF rfl ?_
   refine wp_sr ?_
   refine wl_mv HF rfl rfl rfl rfl rfl ?_; clear HF a; intro a HF
   refine wl_mv HF rfl rfl rfl rfl rfl ?_; clear HF a; intro a HF
   refine wl_mv HF rfl rfl rfl rfl rfl ?_; clear HF a; intro a HF
   refine wl_mv HF rfl rfl rfl rfl rfl ?_; clear HF a; intro a HF
   refine wl_y rfl HF rfl rfl (yl_sliceSm (i := (cutAt s c k).2) (j := k) rfl (HF.ev rfl) (HF.ev rfl) (HF.ev rfl) (by kernel_rfl) (by omega) (by omega) (by omega) (by omega)) ?_; clear HF a; intro a HF
   refine wl_buildS (enc := encS) (e := 9) (size := 1) rfl HF rfl rfl rfl (ps := [(0, .string (s.extract ((cutAt s c k).2) k))]) rfl (cells := [.string (s.extract ((cutAt s c k).2) k)]) (by kernel_rfl) [s.extract ((cutAt s c k).2) k] rfl rfl (by unfold maxLen; omega) rfl HS.out ?_; clear HF HS a; intro b2 a w3 HF HS; replace HS := Bx.mk HS
   refine wl_appL rfl HF rfl rfl rfl (HF.ev rfl) (HF.ev rfl) elemS encS_len HS.out 1 (xs := xs) rfl (ys := [s.extract ((cutAt s c k).2) k]) (St.rdN HS.out encS_len 0 rfl) (cells_one_S _) (by unfold maxLen; (try simp only [List.length_append, List.length_cons, List.length_nil, List.nil_append, List.length_map]); omega) (by (try simp only [List.length_append, List.length_cons, List.length_nil, List.nil_append, List.length_map]); omega) ?_; clear HF HS a; intro ao3 cp4 w4 a HF HS; replace HS := Bx.mk HS
   replace HS : Bx (St w0 ([rowA encS 1 9 (.slice (some ⟨b2, 0, none⟩) 1 1) ([s.extract ((cutAt s c k).2) k]), rowA encS 1 9 (.slice ao3 (xs.length + ([s.extract ((cutAt s c k).2) k]).length) cp4) (xs ++ ([s.extract ((cutAt s c k).2) k]))]) _) := ⟨HS.out⟩
   refine wl_as HF rfl rfl rfl rfl rfl ?_; clear HF a; intro a HF
   refine wl_ne ?_
   refine wp_region_lit ?_
   refine wl_mv HF rfl rfl rfl rfl rfl ?_; clear HF a; intro a HF
   refine wl_y rfl HF rfl rfl (yl_addI rfl (HF.ev rfl) (HF.ev rfl) (i64w (by omega))) ?_; clear HF a; intro a HF
   refine wl_as HF rfl rfl rfl rfl rfl ?_; clear HF a; intro a HF
   refine wpList_nil ?_
   refine ex_block ?_
   refine ex_then ?_
   refine wp_region_lit ?_
   refine wl_mv HF rfl rfl rfl rfl rfl ?_; clear HF a; intro a HF
   refine wl_y rfl HF rfl rfl (yl_addI rfl (HF.ev rfl) (HF.ev rfl) (i64w (by omega))) ?_; clear HF a; intro a HF
   refine wl_as HF rfl rfl rfl rfl rfl ?_; clear HF a; intro a HF
   refine wl_ne ?_
   have hst := cutAt_hit (s := s) (c := c) (k := k) (u8_eqI cc2)
   have hz : xs.length + [s.extract (cutAt s c k).2 k].length = (xs ++ [s.extract (cutAt s c k).2 k]).length := (List.length_append ..).symm
   rw [hz] at HS HF
   have hnext : xs ++ [s.extract (cutAt s c k).2 k] = (cutAt s c (k + 1)).1 := by rw [hst, hq]
   replace HS : Bx (St w0 ([rowA encS 1 9 (.slice ao3 ((xs ++ [s.extract (cutAt s c k).2 k]).length) cp4) (xs ++ [s.extract (cutAt s c k).2 k]), rowA encS 1 9 (.slice (some ⟨b2, 0, none⟩) 1 1) ([s.extract ((cutAt s c k).2) k])]) _) := ⟨(HS.out).pick 1 rfl⟩
   exact ⟨k + 1, ⟨_, _, xs ++ [s.extract (cutAt s c k).2 k], ⟨by omega, hnext⟩, HF.less _ ⟨rfl, rfl, rfl, (by rw [hst]; rfl), rfl, trivial⟩, (HS.out.erase 1)⟩, (by omega)⟩
  ·clear HF; have HF := HF1; clear HF1
   have dcc2 := ne_of_beq_false cc2
   refine wc_false HF rfl ?_
   refine wp_skip ?_
   refine ex_block ?_
   refine ex_then ?_
   refine wp_region_lit ?_
   refine wl_mv HF rfl rfl rfl rfl rfl ?_; clear HF a; intro a HF
   refine wl_y rfl HF rfl rfl (yl_addI rfl (HF.ev rfl) (HF.ev rfl) (i64w (by omega))) ?_; clear HF a; intro a HF
   refine wl_as HF rfl rfl rfl rfl rfl ?_; clear HF a; intro a HF
   refine wl_ne ?_
   have hst := cutAt_miss (s := s) (c := c) (k := k) (u8_neI cc2)
   have hnext : xs = (cutAt s c (k + 1)).1 := by rw [hst, hq]
   exact ⟨k + 1, ⟨_, _, xs, ⟨by omega, hnext⟩, HF.less _ ⟨rfl, rfl, rfl, (by rw [hst]; rfl), rfl, trivial⟩, HS.out⟩, (by omega)⟩
 ·clear HF; have HF := HF1; clear HF1
  have dcc1 := of_decide_eq_false cc1
  refine wc_false HF rfl ?_
  refine wp_exit ?_
  refine ex_then_exit ?_
  refine ex_then_exit ?_
  refine ex_block_hit ?_
  refine ex_then ?_
  refine wp_sr ?_
  refine wl_mv HF rfl rfl rfl rfl rfl ?_; clear HF a; intro a HF
  refine wl_mv HF rfl rfl rfl rfl rfl ?_; clear HF a; intro a HF
  refine wl_mv HF rfl rfl rfl rfl rfl ?_; clear HF a; intro a HF
  refine wl_y rfl HF rfl rfl (yl_sliceSl (k := (cutAt s c k).2) rfl (HF.ev rfl) (HF.ev rfl) (by kernel_rfl) (by omega) (by omega)) ?_; clear HF a; intro a HF
  refine wl_buildS (enc := encS) (e := 9) (size := 1) rfl HF rfl rfl rfl (ps := [(0, .string (s.extract ((cutAt s c k).2) s.size))]) rfl (cells := [.string (s.extract ((cutAt s c k).2) s.size)]) (by kernel_rfl) [s.extract ((cutAt s c k).2) s.size] rfl rfl (by unfold maxLen; omega) rfl HS.out ?_; clear HF HS a; intro b5 a w5 HF HS; replace HS := Bx.mk HS
  refine wl_appL rfl HF rfl rfl rfl (HF.ev rfl) (HF.ev rfl) elemS encS_len HS.out 1 (xs := xs) rfl (ys := [s.extract ((cutAt s c k).2) s.size]) (St.rdN HS.out encS_len 0 rfl) (cells_one_S _) (by unfold maxLen; (try simp only [List.length_append, List.length_cons, List.length_nil, List.nil_append, List.length_map]); omega) (by (try simp only [List.length_append, List.length_cons, List.length_nil, List.nil_append, List.length_map]); omega) ?_; clear HF HS a; intro ao6 cp7 w6 a HF HS; replace HS := Bx.mk HS
  replace HS : Bx (St w0 ([rowA encS 1 9 (.slice (some ⟨b5, 0, none⟩) 1 1) ([s.extract ((cutAt s c k).2) s.size]), rowA encS 1 9 (.slice ao6 (xs.length + ([s.extract ((cutAt s c k).2) s.size]).length) cp7) (xs ++ ([s.extract ((cutAt s c k).2) s.size]))]) _) := ⟨HS.out⟩
  refine wl_as HF rfl rfl rfl rfl rfl ?_; clear HF a; intro a HF
  refine wl_ne ?_
  refine wp_ret ?_
  refine bp_ret1 HF Tryz.results173 (HF.res rfl) ?_
  replace HS : Bx (St w0 ([rowA encS 1 9 (.slice ao6 (xs.length + ([s.extract ((cutAt s c k).2) s.size]).length) cp7) (xs ++ ([s.extract ((cutAt s c k).2) s.size])), rowA encS 1 9 (.slice (some ⟨b5, 0, none⟩) 1 1) ([s.extract ((cutAt s c k).2) s.size])]) _) := ⟨(HS.out).pick 1 rfl⟩
  obtain rfl : k = s.size := by omega
  have hcb : xs ++ [s.extract (cutAt s c s.size).2 s.size] = cutB s c := by rw [hq]; rfl
  have hz : xs.length + [s.extract (cutAt s c s.size).2 s.size].length = (cutB s c).length := by rw [← hcb, List.length_append]
  refine ⟨ao6, cp7, ?_, ?_⟩
  ·rw [hz, cutB_pieces]
  ·have HT2 := (HS.out.erase 1); rw [hz, hcb, cutB_pieces] at HT2; exact HT2

theorem max_of {w : World} (h : w.ShapedOpen Tryz.prog) : MaxP w := laySplit.s1_3 w h
theorem split_any (s : ByteArray) (c : UInt8) (w : World) (hs : s.size < 4294967281) (hM : MaxP w) : Calls Tryz.prog 175 #[.string s, .string ⟨#[c]⟩] w fun e w' => ∃ ao cp, e = .returned (.slice ao (piecesB s c).length cp) ∧ St w [rowA encS 1 9 (.slice ao (piecesB s c).length cp) (piecesB s c)] w' := by
  obtain ⟨m, hm⟩ := hM
  refine (Any.strings_Split { laySplit with } laySplit.i9 s ⟨#[c]⟩ m w hs hm (Nat.le_refl 1)).mono ?_
  rintro e w' ⟨rfl, rfl⟩
  have hl : Go.Lib.countB s ⟨#[c]⟩ + 1 = (piecesB s c).length := by rw [← splitB_pieces, Go.Lib.splitB_all ⟨#[c]⟩ (Nat.le_refl 1) 0 _ s rfl]
  rw [hl, splitB_pieces]
  refine ⟨_, _, rfl, ?_⟩
  have hm2 : (piecesB s c).length ≤ maxLen := by
    have h1 := pieces_len s c
    have h2 := List.count_le_length (a := c) (l := s.data.toList)
    have h3 := size_list s
    unfold maxLen; omega
  refine (St.start w).rowNew (enc := encS) (size := 1) (ys := piecesB s c) ((Below.refl _ _).alloc (Nat.le_refl _) _) (blk_new w _ _ rfl) (Nat.le_refl _) (by simp) (Nat.le_refl _) hm2 ?_
  rw [Nat.mul_one, List.take_of_length_le (by simp), List.map_eq_flatMap]; rfl
theorem cutP_any (s : ByteArray) (w : World) : Calls Tryz.prog 174 #[.string s, .string (⟨#[47]⟩ : ByteArray)] w fun e w' => e = .returned (.tuple #[.string (bif s.data.toList.head? == some 47 then s.extract 1 s.size else s), .bool (s.data.toList.head? == some 47)]) ∧ Below w.heap.size w w' := by
  refine (Any.strings_CutPrefix layCutP s ⟨#[47]⟩ w).mono ?_
  rintro e w' ⟨rfl, rfl⟩
  refine ⟨?_, Below.refl _ _⟩
  have hz := size_list s
  have hx : (s.extract 1 s.size).data.toList = s.data.toList.drop 1 := by rw [list_extract, List.take_of_length_le (by rw [List.length_drop]; omega)]
  have hp : Go.Lib.hasPrefix s.data.toList (⟨#[47]⟩ : ByteArray).data.toList = (s.data.toList.head? == some 47) := by
    unfold Go.Lib.hasPrefix
    cases s.data.toList with
    | nil => rfl
    | cons b t => show (((47 : UInt8) == b) && List.isPrefixOf [] t) = (some b == some 47); rw [List.isPrefixOf_nil_left, Bool.and_true]; by_cases hb : b = 47
                  · subst hb; rfl
                  · rw [beq_eq_false_iff_ne.2 (fun e => hb e.symm), beq_eq_false_iff_ne.2 (fun e => hb (Option.some.inj e))]
  have ht : (⟨(Go.Lib.trimPrefix s.data.toList (⟨#[47]⟩ : ByteArray).data.toList).toArray⟩ : ByteArray) = bif s.data.toList.head? == some 47 then s.extract 1 s.size else s := by
    unfold Go.Lib.trimPrefix
    rw [hp]
    cases h : (s.data.toList.head? == some 47) with
    | true => rw [cond_true]; apply ba_ext; rw [hx]; rfl
    | false => rw [cond_false]; apply ba_ext; rfl
  rw [ht, hp]

theorem indexFuncT_any (a0 : Option Addr) (c0 : Nat) (xs : List ByteArray) (f : FuncId) (caps : Array Value) (p : Nat → Bool) (w0 : World) (hl : xs.length ≤ 1048576) (HE : ∀ (args : Array Value) (w : World), (callFunc f args).run Tryz.prog w = .ok (.enter f args) w) (hR : Rd encS 1 w0 a0 xs.length xs) (hf : ∀ k, k < xs.length → ∀ w, Below w0.heap.size w0 w → Calls Tryz.prog f (#[] ++ #[.string (xs.getD k ByteArray.empty)] ++ caps) w fun e w' => e = .returned (.bool (p k)) ∧ Below w.heap.size w w') : Calls Tryz.prog 208 #[.slice a0 xs.length c0, .func (.func f) #[] caps] w0 fun e w' => e = .returned (.int .i64 (idxB p xs.length 0)) ∧ Below w0.heap.size w0 w' := by
 have HR := Bx.mk hR; have HF0 := Bx.mk hf; clear hR hf
 have HS := Bx.mk (St.start w0)
 refine wc_enter Tryz.func208 rfl Tryz.ntmps208 [(0, .slice a0 xs.length c0), (1, .func (.func f) #[] caps)] ⟨rfl, rfl, trivial⟩ rfl ?_; intro a HF
 refine wp_sr ?_
 refine wl_as HF rfl rfl rfl rfl rfl ?_; clear HF a; intro a HF
 refine wl_ne ?_
 refine wp_seq ?_
 refine wp_sr ?_
 refine wl_mv HF rfl rfl rfl rfl rfl ?_; clear HF a; intro a HF
 refine wl_y rfl HF rfl rfl (yl_lenL (e := 9) (size := 1) rfl (HF.ev rfl) (by kernel_rfl)) ?_; clear HF a; intro a HF
 refine wl_mv HF rfl rfl rfl rfl rfl ?_; clear HF a; intro a HF
 refine wl_ne ?_
 refine wp_block ?_
 refine wc_loop (ι := Nat) (fun k a w => (k ≤ xs.length ∧ idxB p xs.length 0 = idxB p xs.length k) ∧ Fr 19 a [(0, .slice a0 xs.length c0), (1, .func (.func f) #[] caps), (7, .int .i64 (xs.length : Int)), (8, .int .i64 (k : Int))] ∧ St w0 ([]) w) (fun k => xs.length - k) 0 ⟨⟨Nat.zero_le _, rfl⟩, HF.less _ ⟨rfl, rfl, rfl, rfl, trivial⟩, HS.out⟩ ?_
 clear HF HS; clear a
 rintro k a w1 ⟨⟨hk, hf⟩, HF, HS⟩
 replace HS := Bx.mk HS
 refine wp_sr ?_
 refine wl_y rfl HF rfl rfl (yl_lssI rfl (HF.ev rfl) (HF.ev rfl)) ?_; clear HF a; intro a HF
 refine wl_ne ?_
 refine wp_seq ?_
 refine HF.cases 9 rfl (fun cc1 HF1 => ?_) (fun cc1 HF1 => ?_)
 ·clear HF; have HF := HF1; clear HF1
  have dcc1 := of_decide_eq_true cc1
  refine wc_true HF rfl ?_
  refine wp_skip ?_
  refine ex_then ?_
  refine wp_seq ?_
  refine wp_block ?_
  refine wp_sr ?_
  refine wl_mv HF rfl rfl rfl rfl rfl ?_; clear HF a; intro a HF
  refine wl_as HF rfl rfl rfl rfl rfl ?_; clear HF a; intro a HF
  refine wl_ne ?_
  refine wp_seq ?_
  obtain ⟨g0, o0, r0⟩ := HR.out.opn; have R0 := Bx.mk r0; clear r0
  refine wp_region_lit ?_
  refine wl_mv HF rfl rfl rfl rfl rfl ?_; clear HF a; intro a HF
  refine wl_mv HF rfl rfl rfl rfl rfl ?_; clear HF a; intro a HF
  refine wl_mv HF rfl rfl rfl rfl rfl ?_; clear HF a; intro a HF
  refine wl_y rfl HF rfl rfl (yl_indexAddrR (e := 9) (i := k) (size := 1) rfl (HF.ev rfl) (HF.ev rfl) (by kernel_rfl) rfl (by omega) (R0.out.ao k (by omega))) ?_; clear HF a; intro a HF
  refine wl_y rfl HF rfl rfl (yl_load (v := .string (xs.getD k ByteArray.empty)) rfl (HF.ev rfl) (R0.out.elem1 HS.out (get_getD (xs := xs) (j := k) (d := ByteArray.empty) (by omega)) rfl) (by kernel_rfl)) ?_; clear HF a; intro a HF
  refine wl_callvB rfl HF rfl (HF.ev rfl) HE (args := #[.string (xs.getD k ByteArray.empty)]) rfl (v := .bool (p k)) (HF0.out k (by omega) _ HS.out.bel) rfl rfl HS.out ?_; clear HF HS a; intro w2 a HS HF; replace HS := Bx.mk HS
  refine wl_ne ?_
  refine HF.cases 16 rfl (fun cc2 HF1 => ?_) (fun cc2 HF1 => ?_)
  ·clear HF; have HF := HF1; clear HF1
   refine wc_true HF rfl ?_
   refine wp_sr ?_
   refine wl_mv HF rfl rfl rfl rfl rfl ?_; clear HF a; intro a HF
   refine wl_as HF rfl rfl rfl rfl rfl ?_; clear HF a; intro a HF
   refine wl_ne ?_
   refine wp_ret ?_
   refine ex_block_ret ?_
   refine ex_then_ret ?_
   refine ex_then_ret ?_
   refine ex_block_ret ?_
   refine ex_then_ret ?_
   refine bp_ret1 HF Tryz.results208 (HF.res rfl) ?_
   rw [idxB_lt (k := k) (by omega), if_pos cc2] at hf
   exact ⟨by rw [hf], HS.out.bel⟩
  ·clear HF; have HF := HF1; clear HF1
   refine wc_false HF rfl ?_
   refine wp_skip ?_
   refine ex_block ?_
   refine ex_then ?_
   refine wp_region_lit ?_
   refine wl_y rfl HF rfl rfl (yl_addI rfl (HF.ev rfl) (HF.ev rfl) (i64w (by omega))) ?_; clear HF a; intro a HF
   refine wl_mv HF rfl rfl rfl rfl rfl ?_; clear HF a; intro a HF
   refine wl_ne ?_
   rw [idxB_lt (k := k) (by omega), if_neg (by rw [cc2]; simp)] at hf
   exact ⟨k + 1, ⟨⟨by omega, hf⟩, HF.less _ ⟨rfl, rfl, rfl, rfl, trivial⟩, HS.out⟩, (by omega)⟩
 ·clear HF; have HF := HF1; clear HF1
  have dcc1 := of_decide_eq_false cc1
  refine wc_false HF rfl ?_
  refine wp_exit ?_
  refine ex_then_exit ?_
  refine ex_then_exit ?_
  refine ex_block_hit ?_
  refine ex_then ?_
  refine wp_sr ?_
  refine wl_as HF rfl rfl rfl rfl rfl ?_; clear HF a; intro a HF
  refine wl_ne ?_
  refine wp_ret ?_
  refine bp_ret1 HF Tryz.results208 (HF.res rfl) ?_
  rw [idxB_end (k := k) (by omega)] at hf
  exact ⟨by rw [hf], HS.out.bel⟩

theorem containsFuncT_any (a0 : Option Addr) (c0 : Nat) (xs : List ByteArray) (f : FuncId) (caps : Array Value) (p : Nat → Bool) (w0 : World) (hl : xs.length ≤ 1048576) (HE : ∀ (args : Array Value) (w : World), (callFunc f args).run Tryz.prog w = .ok (.enter f args) w) (hR : Rd encS 1 w0 a0 xs.length xs) (hf : ∀ k, k < xs.length → ∀ w, Below w0.heap.size w0 w → Calls Tryz.prog f (#[] ++ #[.string (xs.getD k ByteArray.empty)] ++ caps) w fun e w' => e = .returned (.bool (p k)) ∧ Below w.heap.size w w') : Calls Tryz.prog 189 #[.slice a0 xs.length c0, .func (.func f) #[] caps] w0 fun e w' => e = .returned (.bool (!allB (fun k => !p k) xs.length)) ∧ Below w0.heap.size w0 w' := by
 have HR := Bx.mk hR; have HF0 := Bx.mk hf; clear hR hf
 have HS := Bx.mk (St.start w0)
 refine wc_enter Tryz.func189 rfl Tryz.ntmps189 [(0, .slice a0 xs.length c0), (1, .func (.func f) #[] caps)] ⟨rfl, rfl, trivial⟩ rfl ?_; intro a HF
 refine wp_sr ?_
 refine wl_as HF rfl rfl rfl rfl rfl ?_; clear HF a; intro a HF
 refine wl_ne ?_
 refine wp_sr ?_
 refine wl_mv HF rfl rfl rfl rfl rfl ?_; clear HF a; intro a HF
 refine wl_mv HF rfl rfl rfl rfl rfl ?_; clear HF a; intro a HF
 refine wl_callB rfl HF rfl (enter_of Tryz.func208 (by kernel_rfl) rfl) (args := #[.slice a0 xs.length c0, .func (.func f) #[] caps]) rfl (v := .int .i64 (idxB p xs.length 0)) (indexFuncT_any a0 c0 xs f caps p _ hl HE (HR.out.below HS.out.bel) (fun k hk w hb => HF0.out k hk w (HS.out.bel.trans (hb.mono HS.out.bel.size)))) rfl rfl HS.out ?_; clear HF HS a; intro w1 a HS HF; replace HS := Bx.mk HS
 refine wl_y rfl HF rfl rfl (yl_geqI rfl (HF.ev rfl) (HF.ev rfl)) ?_; clear HF a; intro a HF
 refine wl_as HF rfl rfl rfl rfl rfl ?_; clear HF a; intro a HF
 refine wl_ne ?_
 refine wp_ret ?_
 refine bp_ret1 HF Tryz.results189 (HF.res rfl) ?_
 exact ⟨by rw [← idxB_any], HS.out.bel⟩

theorem pathOf1_any (s : ByteArray) (w0 : World) (hs : s.size ≤ 9223372036854775806) : Calls Tryz.prog 190 #[.string s] w0 fun e w' => e = .returned (.bool (!nameB s)) ∧ Below w0.heap.size w0 w' := by
 have HS := Bx.mk (St.start w0)
 refine wc_enter Tryz.func190 rfl Tryz.ntmps190 [(0, .string s)] ⟨rfl, trivial⟩ rfl ?_; intro a HF
 refine wp_sr ?_
 refine wl_as HF rfl rfl rfl rfl rfl ?_; clear HF a; intro a HF
 refine wl_ne ?_
 refine wp_sr ?_
 refine wl_mv HF rfl rfl rfl rfl rfl ?_; clear HF a; intro a HF
 refine wl_callB rfl HF rfl (enter_of Tryz.func90 (by kernel_rfl) rfl) (args := #[.string s]) rfl (v := .bool (nameB s)) (implNameOk_any s _ (by omega)) rfl rfl HS.out ?_; clear HF HS a; intro w1 a HS HF; replace HS := Bx.mk HS
 refine wl_y rfl HF rfl rfl (yl_not rfl (HF.ev rfl)) ?_; clear HF a; intro a HF
 refine wl_as HF rfl rfl rfl rfl rfl ?_; clear HF a; intro a HF
 refine wl_ne ?_
 refine wp_ret ?_
 refine bp_ret1 HF Tryz.results190 (HF.res rfl) ?_
 exact ⟨rfl, HS.out.bel⟩

theorem allB_all (xs : List ByteArray) : allB (fun k => !!nameB (xs.getD k ByteArray.empty)) xs.length = xs.all nameB := by
  cases h : xs.all nameB with
  | true =>
    rw [List.all_eq_true] at h
    exact allB_mk fun k hk => by
      rw [Bool.not_not]
      have := h (xs.getD k ByteArray.empty) (by rw [List.getD_eq_getElem?_getD, List.getElem?_eq_getElem hk]; exact List.getElem_mem hk)
      exact this
  | false =>
    cases h2 : allB (fun k => !!nameB (xs.getD k ByteArray.empty)) xs.length with
    | false => rfl
    | true =>
      exfalso
      have : xs.all nameB = true := List.all_eq_true.2 fun x hx => by
        obtain ⟨k, hk, rfl⟩ := List.getElem_of_mem hx
        have := allB_at h2 hk
        rw [Bool.not_not, List.getD_eq_getElem?_getD, List.getElem?_eq_getElem hk] at this
        exact this
      rw [h] at this; cases this

theorem pathText_any (a0 : Option Addr) (n c0 : Nat) (xs : List ByteArray) (w0 : World) (hl : xs.length ≤ 100) (hx : szs xs) (hc : xs.length ≤ c0) (hR : Rd encS 1 w0 a0 n xs) : Calls Tryz.prog 191 #[.slice a0 n c0] w0 fun e w' => e = .returned (.string (slB ++ joinT xs slB)) ∧ Below w0.heap.size w0 w' := by
 obtain rfl := hR.len
 have hR0 := Bx.mk hR
 obtain ⟨g0, o0, r0⟩ := hR.opn; have R0 := Bx.mk r0; clear r0 hR
 have HS := Bx.mk (St.start w0)
 refine wc_enter Tryz.func191 rfl Tryz.ntmps191 [(0, .slice a0 xs.length c0)] ⟨rfl, trivial⟩ rfl ?_; intro a HF
 refine wp_sr ?_
 refine wl_as HF rfl rfl rfl rfl rfl ?_; clear HF a; intro a HF
 refine wl_ne ?_
 refine wp_seq ?_
 have hjz : (joinT xs (⟨#[47]⟩ : ByteArray)).size ≤ 100 * (100 + 1099511627776) := Nat.le_trans (joinT_size xs _ hx) (Nat.mul_le_mul hl (by decide))
 refine wp_region_lit ?_
 refine wl_mv HF rfl rfl rfl rfl rfl ?_; clear HF a; intro a HF
 refine wl_callB rfl HF rfl (enter_of Tryz.func159 (by kernel_rfl) rfl) (args := #[.slice a0 xs.length c0, .string (⟨#[47]⟩ : ByteArray)]) rfl (v := .string (joinT xs (⟨#[47]⟩ : ByteArray))) (join_any _ _ _ xs (⟨#[47]⟩ : ByteArray) _ (hR0.out.below HS.out.bel) hc (by omega) hx (by decide)) rfl rfl HS.out ?_; clear HF HS a; intro w1 a HS HF; replace HS := Bx.mk HS
 refine wl_y rfl HF rfl rfl (yl_addS rfl (HF.ev rfl) (HF.ev rfl) (by (try simp only [size1]); omega)) ?_; clear HF a; intro a HF
 refine wl_as HF rfl rfl rfl rfl rfl ?_; clear HF a; intro a HF
 refine wl_ne ?_
 refine wp_ret ?_
 refine bp_ret1 HF Tryz.results191 (HF.res rfl) ?_
 exact ⟨rfl, HS.out.bel⟩

theorem pathOf_any (a0 : Option Addr) (n c0 : Nat) (xs : List ByteArray) (w0 : World) (hl : xs.length ≤ 100) (hx : szs xs) (hc : xs.length ≤ c0) (hR : Rd encS 1 w0 a0 n xs) : Calls Tryz.prog 176 #[.slice a0 n c0] w0 fun e w' => (okN xs = true ∧ e = .returned (.tuple #[.string (slB ++ joinT xs slB), .bool true]) ∧ Below w0.heap.size w0 w') ∨ (okN xs = false ∧ e = .returned (.tuple #[.string ByteArray.empty, .bool false]) ∧ Below w0.heap.size w0 w') := by
 obtain rfl := hR.len
 have hR0 := Bx.mk hR
 obtain ⟨g0, o0, r0⟩ := hR.opn; have R0 := Bx.mk r0; clear r0 hR
 have HS := Bx.mk (St.start w0)
 refine wc_enter Tryz.func176 rfl Tryz.ntmps176 [(0, .slice a0 xs.length c0)] ⟨rfl, trivial⟩ rfl ?_; intro a HF
 refine wp_sr ?_
 refine wl_as HF rfl rfl rfl rfl rfl ?_; clear HF a; intro a HF
 refine wl_as HF rfl rfl rfl rfl rfl ?_; clear HF a; intro a HF
 refine wl_ne ?_
 refine wp_seq ?_
 refine wp_sr ?_
 refine wl_mv HF rfl rfl rfl rfl rfl ?_; clear HF a; intro a HF
 refine wl_y rfl HF rfl rfl (yl_lenL (e := 9) (size := 1) rfl (HF.ev rfl) (by kernel_rfl)) ?_; clear HF a; intro a HF
 refine wl_y rfl HF rfl rfl (yl_gtrI rfl (HF.ev rfl) (HF.ev rfl)) ?_; clear HF a; intro a HF
 refine wl_mv HF rfl rfl rfl rfl rfl ?_; clear HF a; intro a HF
 refine HF.cases 7 rfl (fun cc1 HF1 => ?_) (fun cc1 HF1 => ?_)
 ·clear HF; have HF := HF1; clear HF1
  have dcc1 := of_decide_eq_true cc1
  refine wl_skip HF rfl rfl rfl rfl rfl rfl ?_; clear HF a; intro a HF
  refine wl_skip HF rfl rfl rfl rfl rfl rfl ?_; clear HF a; intro a HF
  refine wl_y rfl HF rfl rfl (yl_pick_t rfl (HF.ev rfl) (HF.ev rfl)) ?_; clear HF a; intro a HF
  refine wl_ne ?_
  refine wc_true HF rfl ?_
  refine wp_sr ?_
  refine wl_as HF rfl rfl rfl rfl rfl ?_; clear HF a; intro a HF
  refine wl_as HF rfl rfl rfl rfl rfl ?_; clear HF a; intro a HF
  refine wl_ne ?_
  refine wp_ret ?_
  refine ex_then_ret ?_
  refine bp_ret2 HF Tryz.results176 (HF.res rfl) (HF.res rfl) ?_
  exact .inr ⟨by unfold okN; rw [decide_eq_false (by omega)]; rfl, rfl, HS.out.bel⟩
 ·clear HF; have HF := HF1; clear HF1
  have dcc1 := of_decide_eq_false cc1
  refine wl_yg HF rfl rfl rfl rfl rfl (yl_move rfl (HF.ev rfl)) ?_; clear HF a; intro a HF
  refine wl_callBg HF rfl rfl rfl rfl (enter_of Tryz.func189 (by kernel_rfl) rfl) (args := #[.slice a0 xs.length c0, .func (.func 190) #[] #[]]) rfl (v := .bool (!allB (fun k => !!nameB (xs.getD k ByteArray.empty)) xs.length)) (containsFuncT_any a0 c0 xs 190 #[] (fun k => !nameB (xs.getD k ByteArray.empty)) _ (by omega) (enter_of Tryz.func190 (by kernel_rfl) rfl) (hR0.out.below HS.out.bel) (fun k hk w _ => pathOf1_any _ w (by have := hx k; omega))) rfl rfl HS.out ?_; clear HF HS a; intro w1 a HS HF; replace HS := Bx.mk HS
  refine wl_y rfl HF rfl rfl (yl_pick_f rfl (HF.ev rfl) (HF.ev rfl)) ?_; clear HF a; intro a HF
  refine wl_ne ?_
  refine HF.cases 10 rfl (fun cc2 HF1 => ?_) (fun cc2 HF1 => ?_)
  ·clear HF; have HF := HF1; clear HF1
   refine wc_true HF rfl ?_
   refine wp_sr ?_
   refine wl_as HF rfl rfl rfl rfl rfl ?_; clear HF a; intro a HF
   refine wl_as HF rfl rfl rfl rfl rfl ?_; clear HF a; intro a HF
   refine wl_ne ?_
   refine wp_ret ?_
   refine ex_then_ret ?_
   refine bp_ret2 HF Tryz.results176 (HF.res rfl) (HF.res rfl) ?_
   exact .inr ⟨by unfold okN; rw [← allB_all]; rw [show allB (fun k => !!nameB (xs.getD k ByteArray.empty)) xs.length = false by simpa using cc2, Bool.and_false], rfl, HS.out.bel⟩
  ·clear HF; have HF := HF1; clear HF1
   refine wc_false HF rfl ?_
   refine wp_skip ?_
   refine ex_then ?_
   refine wp_sr ?_
   refine wl_mv HF rfl rfl rfl rfl rfl ?_; clear HF a; intro a HF
   refine wl_callB rfl HF rfl (enter_of Tryz.func191 (by kernel_rfl) rfl) (args := #[.slice a0 xs.length c0]) rfl (v := .string (slB ++ joinT xs slB)) (pathText_any _ _ _ xs _ (by omega) hx hc (hR0.out.below HS.out.bel)) rfl rfl HS.out ?_; clear HF HS a; intro w2 a HS HF; replace HS := Bx.mk HS
   refine wl_as HF rfl rfl rfl rfl rfl ?_; clear HF a; intro a HF
   refine wl_as HF rfl rfl rfl rfl rfl ?_; clear HF a; intro a HF
   refine wl_ne ?_
   refine wp_ret ?_
   refine bp_ret2 HF Tryz.results176 (HF.res rfl) (HF.res rfl) ?_
   exact .inl ⟨by unfold okN; rw [decide_eq_true (by omega), Bool.true_and, ← allB_all]; simpa using cc2, rfl, HS.out.bel⟩

theorem cutP_ways (s : ByteArray) (w : World) : Calls Tryz.prog 174 #[.string s, .string (⟨#[47]⟩ : ByteArray)] w fun e w' => ((s.data.toList.head? == some 47) = true ∧ e = .returned (.tuple #[.string (s.extract 1 s.size), .bool true]) ∧ Below w.heap.size w w') ∨ ((s.data.toList.head? == some 47) = false ∧ e = .returned (.tuple #[.string s, .bool false]) ∧ Below w.heap.size w w') := by
  refine (cutP_any s w).mono ?_
  rintro e w' ⟨rfl, hb⟩
  cases h : (s.data.toList.head? == some 47) with
  | true => exact .inl ⟨rfl, rfl, hb⟩
  | false => exact .inr ⟨rfl, rfl, hb⟩
theorem szs_pieces (s : ByteArray) (c : UInt8) (h : s.size ≤ 1099511627776) : szs (piecesB s c) := fun k => by
  have key : ∀ (l : List UInt8) (x : List UInt8), x ∈ splitL c l → x.length ≤ l.length := by
    intro l
    induction l with
    | nil => intro x hx; obtain rfl : x = [] := by simpa [splitL] using hx
             exact Nat.le_refl _
    | cons b t ih =>
      intro x hx
      by_cases hb : b = c
      · subst hb
        rw [splitL_eq] at hx
        rcases List.mem_cons.1 hx with rfl | hx
        · exact Nat.zero_le _
        · exact Nat.le_succ_of_le (ih x hx)
      · obtain ⟨y, r, hs⟩ := splitL_ne c t
        rw [splitL_cons t hb hs] at hx
        rcases List.mem_cons.1 hx with rfl | hx
        · have := ih y (by rw [hs]; exact List.mem_cons_self ..)
          simp only [List.length_cons]; omega
        · exact Nat.le_succ_of_le (ih x (by rw [hs]; exact List.mem_cons_of_mem _ hx))
  by_cases hk : k < (piecesB s c).length
  · have hm : (piecesB s c).getD k ByteArray.empty ∈ piecesB s c := by rw [List.getD_eq_getElem?_getD, List.getElem?_eq_getElem hk]; exact List.getElem_mem hk
    obtain ⟨l, hl, e⟩ := List.mem_map.1 hm
    have := key _ _ hl
    rw [← size_list] at this
    rw [← e, size_list]; exact Nat.le_trans this h
  · rw [List.getD_eq_getElem?_getD, List.getElem?_eq_none (by omega)]; exact Nat.zero_le _

theorem pathNames_any (s : ByteArray) (w0 : World) (hM : MaxP w0) (hs : s.size ≤ 4000000000) : Calls Tryz.prog 163 #[.string s] w0 fun e w' => ∃ v, e = .returned (.tuple #[v, .bool (pathB s)]) ∧ Below w0.heap.size w0 w' := by
 have HM := Bx.mk hM; clear hM
 have HS := Bx.mk (St.start w0)
 refine wc_enter Tryz.func163 rfl Tryz.ntmps163 [(0, .string s)] ⟨rfl, trivial⟩ rfl ?_; intro a HF
 refine wp_sr ?_
 refine wl_as HF rfl rfl rfl rfl rfl ?_; clear HF a; intro a HF
 refine wl_as HF rfl rfl rfl rfl rfl ?_; clear HF a; intro a HF
 refine wl_ne ?_
 refine wp_seq ?_
 refine wp_sr ?_
 refine wl_mv HF rfl rfl rfl rfl rfl ?_; clear HF a; intro a HF
 refine wl_y rfl HF rfl rfl (yl_eqlS rfl (HF.ev rfl) (HF.ev rfl)) ?_; clear HF a; intro a HF
 refine wl_ne ?_
 refine HF.cases 10 rfl (fun cc1 HF1 => ?_) (fun cc1 HF1 => ?_)
 ·clear HF; have HF := HF1; clear HF1
  refine wc_true HF rfl ?_
  refine wp_sr ?_
  refine wl_as HF rfl rfl rfl rfl rfl ?_; clear HF a; intro a HF
  refine wl_as HF rfl rfl rfl rfl rfl ?_; clear HF a; intro a HF
  refine wl_ne ?_
  refine wp_ret ?_
  refine ex_then_ret ?_
  refine bp_ret2 HF Tryz.results163 (HF.res rfl) (HF.res rfl) ?_
  exact ⟨_, by rw [pathB_sl cc1] <;> rfl, HS.out.bel⟩
 ·clear HF; have HF := HF1; clear HF1
  refine wc_false HF rfl ?_
  refine wp_skip ?_
  refine ex_then ?_
  refine wp_sr ?_
  refine wl_mv HF rfl rfl rfl rfl rfl ?_; clear HF a; intro a HF
  refine wl_call rfl HF rfl (enter_of Tryz.func174 (by kernel_rfl) rfl) (args := #[.string s, .string (⟨#[47]⟩ : ByteArray)]) rfl (cutP_ways s _) rfl rfl ?_
  rintro _ w1 (⟨hpr, rfl, hb⟩ | ⟨hpr, rfl, hb⟩)
  ·skip
   refine ⟨_, rfl, ?_⟩; replace HS := Bx.mk (HS.out.later hb); clear hb HF; clear a; intro a HF
   refine wl_mv HF rfl rfl rfl rfl rfl ?_; clear HF a; intro a HF
   refine wl_y rfl HF rfl rfl (yl_extract rfl (HF.ev rfl) rfl) ?_; clear HF a; intro a HF
   refine wl_y rfl HF rfl rfl (yl_extract rfl (HF.ev rfl) rfl) ?_; clear HF a; intro a HF
   refine wl_as HF rfl rfl rfl rfl rfl ?_; clear HF a; intro a HF
   refine wl_as HF rfl rfl rfl rfl rfl ?_; clear HF a; intro a HF
   refine wl_ne ?_
   refine wp_seq ?_
   refine wp_sr ?_
   refine wl_mv HF rfl rfl rfl rfl rfl ?_; clear HF a; intro a HF
   refine wl_y rfl HF rfl rfl (yl_not rfl (HF.ev rfl)) ?_; clear HF a; intro a HF
   refine wl_mv HF rfl rfl rfl rfl rfl ?_; clear HF a; intro a HF
   refine wl_yg HF rfl rfl rfl rfl rfl (yl_move rfl (HF.ev rfl)) ?_; clear HF a; intro a HF
   refine wl_yg HF rfl rfl rfl rfl rfl (yl_lenS rfl (HF.ev rfl) (by kernel_rfl)) ?_; clear HF a; intro a HF
   refine wl_yg HF rfl rfl rfl rfl rfl (yl_gtrI rfl (HF.ev rfl) (HF.ev rfl)) ?_; clear HF a; intro a HF
   refine wl_y rfl HF rfl rfl (yl_pick_f rfl (HF.ev rfl) (HF.ev rfl)) ?_; clear HF a; intro a HF
   refine wl_ne ?_
   refine HF.cases 22 rfl (fun cc2 HF1 => ?_) (fun cc2 HF1 => ?_)
   ·clear HF; have HF := HF1; clear HF1
    have dcc2 := of_decide_eq_true cc2
    refine wc_true HF rfl ?_
    refine wp_sr ?_
    refine wl_as HF rfl rfl rfl rfl rfl ?_; clear HF a; intro a HF
    refine wl_as HF rfl rfl rfl rfl rfl ?_; clear HF a; intro a HF
    refine wl_ne ?_
    refine wp_ret ?_
    refine ex_then_ret ?_
    refine bp_ret2 HF Tryz.results163 (HF.res rfl) (HF.res rfl) ?_
    exact ⟨_, by rw [(pathB_rest cc1 hpr).trans (restB_long (by omega))] <;> rfl, HS.out.bel⟩
   ·clear HF; have HF := HF1; clear HF1
    have dcc2 := of_decide_eq_false cc2
    refine wc_false HF rfl ?_
    refine wp_skip ?_
    refine ex_then ?_
    refine wp_seq ?_
    have hez : (s.extract 1 s.size).size = s.size - 1 := ext1_size; have hpl := pieces_len (s.extract 1 s.size) 47; have hcl := List.count_le_length (a := (47 : UInt8)) (l := (s.extract 1 s.size).data.toList); have hsl := size_list (s.extract 1 s.size)
    refine wp_region_lit ?_
    refine wl_mv HF rfl rfl rfl rfl rfl ?_; clear HF a; intro a HF
    refine wl_call rfl HF rfl (enter_of Tryz.func175 (by kernel_rfl) rfl) (args := #[.string (s.extract 1 s.size), .string (⟨#[47]⟩ : ByteArray)]) rfl (split_any (s.extract 1 s.size) 47 _ (by omega) (HM.out.below HS.out.bel)) rfl rfl ?_
    rintro _ w2 ⟨ao1, cp1, rfl, hs⟩
    refine ⟨_, rfl, ?_⟩
    replace HS := Bx.mk (HS.out.add hs); clear hs HF; clear a; intro a HF
    replace HS : Bx (St w0 ([rowA encS 1 9 (.slice ao1 ((piecesB (s.extract 1 s.size) 47).length) cp1) (piecesB (s.extract 1 s.size) 47)]) _) := ⟨HS.out⟩
    refine wl_as HF rfl rfl rfl rfl rfl ?_; clear HF a; intro a HF
    refine wl_ne ?_
    refine wp_seq ?_
    refine wp_sr ?_
    refine wl_mv HF rfl rfl rfl rfl rfl ?_; clear HF a; intro a HF
    refine wl_call rfl HF rfl (enter_of Tryz.func176 (by kernel_rfl) rfl) (args := #[.slice ao1 ((piecesB (s.extract 1 s.size) 47).length) cp1]) rfl (pathOf_any _ _ _ (piecesB (s.extract 1 s.size) 47) _ (by omega) (szs_pieces _ _ (by omega)) (St.capLe HS.out 0 rfl) (St.rdOf HS.out encS_len 0 rfl)) rfl rfl ?_
    rintro _ w3 (⟨hok, rfl, hb⟩ | ⟨hok, rfl, hb⟩)
    ·skip
     refine ⟨_, rfl, ?_⟩; replace HS := Bx.mk (HS.out.later hb); clear hb HF; clear a; intro a HF
     refine wl_mv HF rfl rfl rfl rfl rfl ?_; clear HF a; intro a HF
     refine wl_y rfl HF rfl rfl (yl_extract rfl (HF.ev rfl) rfl) ?_; clear HF a; intro a HF
     refine wl_y rfl HF rfl rfl (yl_extract rfl (HF.ev rfl) rfl) ?_; clear HF a; intro a HF
     refine wl_as HF rfl rfl rfl rfl rfl ?_; clear HF a; intro a HF
     refine wl_as HF rfl rfl rfl rfl rfl ?_; clear HF a; intro a HF
     refine wl_ne ?_
     refine wp_sr ?_
     refine wl_mv HF rfl rfl rfl rfl rfl ?_; clear HF a; intro a HF
     refine wl_y rfl HF rfl rfl (yl_not rfl (HF.ev rfl)) ?_; clear HF a; intro a HF
     refine wl_mv HF rfl rfl rfl rfl rfl ?_; clear HF a; intro a HF
     refine wl_yg HF rfl rfl rfl rfl rfl (yl_move rfl (HF.ev rfl)) ?_; clear HF a; intro a HF
     refine wl_yg HF rfl rfl rfl rfl rfl (yl_move rfl (HF.ev rfl)) ?_; clear HF a; intro a HF
     refine wl_yg HF rfl rfl rfl rfl rfl (yl_neqS rfl (HF.ev rfl) (HF.ev rfl)) ?_; clear HF a; intro a HF
     refine wl_y rfl HF rfl rfl (yl_pick_f rfl (HF.ev rfl) (HF.ev rfl)) ?_; clear HF a; intro a HF
     refine wl_ne ?_
     refine HF.cases 36 rfl (fun cc3 HF1 => ?_) (fun cc3 HF1 => ?_)
     ·clear HF; have HF := HF1; clear HF1
      rw [joinT_sl, head_back hpr] at cc3
      simp at cc3
     ·clear HF; have HF := HF1; clear HF1
      rw [joinT_sl, head_back hpr] at cc3
      refine wc_false HF rfl ?_
      refine wp_skip ?_
      refine ex_then ?_
      refine wp_sr ?_
      refine wl_mv HF rfl rfl rfl rfl rfl ?_; clear HF a; intro a HF
      refine wl_as HF rfl rfl rfl rfl rfl ?_; clear HF a; intro a HF
      refine wl_as HF rfl rfl rfl rfl rfl ?_; clear HF a; intro a HF
      refine wl_ne ?_
      refine wp_ret ?_
      refine bp_ret2 HF Tryz.results163 (HF.res rfl) (HF.res rfl) ?_
      exact ⟨_, by rw [(pathB_rest cc1 hpr).trans ((restB_okN _).trans hok)] <;> rfl, HS.out.bel⟩
    ·skip
     refine ⟨_, rfl, ?_⟩; replace HS := Bx.mk (HS.out.later hb); clear hb HF; clear a; intro a HF
     refine wl_mv HF rfl rfl rfl rfl rfl ?_; clear HF a; intro a HF
     refine wl_y rfl HF rfl rfl (yl_extract rfl (HF.ev rfl) rfl) ?_; clear HF a; intro a HF
     refine wl_y rfl HF rfl rfl (yl_extract rfl (HF.ev rfl) rfl) ?_; clear HF a; intro a HF
     refine wl_as HF rfl rfl rfl rfl rfl ?_; clear HF a; intro a HF
     refine wl_as HF rfl rfl rfl rfl rfl ?_; clear HF a; intro a HF
     refine wl_ne ?_
     refine wp_sr ?_
     refine wl_mv HF rfl rfl rfl rfl rfl ?_; clear HF a; intro a HF
     refine wl_y rfl HF rfl rfl (yl_not rfl (HF.ev rfl)) ?_; clear HF a; intro a HF
     refine wl_mv HF rfl rfl rfl rfl rfl ?_; clear HF a; intro a HF
     refine wl_skip HF rfl rfl rfl rfl rfl rfl ?_; clear HF a; intro a HF
     refine wl_skip HF rfl rfl rfl rfl rfl rfl ?_; clear HF a; intro a HF
     refine wl_skip HF rfl rfl rfl rfl rfl rfl ?_; clear HF a; intro a HF
     refine wl_y rfl HF rfl rfl (yl_pick_t rfl (HF.ev rfl) (HF.ev rfl)) ?_; clear HF a; intro a HF
     refine wl_ne ?_
     refine wc_true HF rfl ?_
     refine wp_sr ?_
     refine wl_as HF rfl rfl rfl rfl rfl ?_; clear HF a; intro a HF
     refine wl_as HF rfl rfl rfl rfl rfl ?_; clear HF a; intro a HF
     refine wl_ne ?_
     refine wp_ret ?_
     refine ex_then_ret ?_
     refine bp_ret2 HF Tryz.results163 (HF.res rfl) (HF.res rfl) ?_
     exact ⟨_, by rw [(pathB_rest cc1 hpr).trans ((restB_okN _).trans hok)] <;> rfl, HS.out.bel⟩
  ·skip
   refine ⟨_, rfl, ?_⟩; replace HS := Bx.mk (HS.out.later hb); clear hb HF; clear a; intro a HF
   refine wl_mv HF rfl rfl rfl rfl rfl ?_; clear HF a; intro a HF
   refine wl_y rfl HF rfl rfl (yl_extract rfl (HF.ev rfl) rfl) ?_; clear HF a; intro a HF
   refine wl_y rfl HF rfl rfl (yl_extract rfl (HF.ev rfl) rfl) ?_; clear HF a; intro a HF
   refine wl_as HF rfl rfl rfl rfl rfl ?_; clear HF a; intro a HF
   refine wl_as HF rfl rfl rfl rfl rfl ?_; clear HF a; intro a HF
   refine wl_ne ?_
   refine wp_seq ?_
   refine wp_sr ?_
   refine wl_mv HF rfl rfl rfl rfl rfl ?_; clear HF a; intro a HF
   refine wl_y rfl HF rfl rfl (yl_not rfl (HF.ev rfl)) ?_; clear HF a; intro a HF
   refine wl_mv HF rfl rfl rfl rfl rfl ?_; clear HF a; intro a HF
   refine wl_skip HF rfl rfl rfl rfl rfl rfl ?_; clear HF a; intro a HF
   refine wl_skip HF rfl rfl rfl rfl rfl rfl ?_; clear HF a; intro a HF
   refine wl_skip HF rfl rfl rfl rfl rfl rfl ?_; clear HF a; intro a HF
   refine wl_y rfl HF rfl rfl (yl_pick_t rfl (HF.ev rfl) (HF.ev rfl)) ?_; clear HF a; intro a HF
   refine wl_ne ?_
   refine wc_true HF rfl ?_
   refine wp_sr ?_
   refine wl_as HF rfl rfl rfl rfl rfl ?_; clear HF a; intro a HF
   refine wl_as HF rfl rfl rfl rfl rfl ?_; clear HF a; intro a HF
   refine wl_ne ?_
   refine wp_ret ?_
   refine ex_then_ret ?_
   refine bp_ret2 HF Tryz.results163 (HF.res rfl) (HF.res rfl) ?_
   exact ⟨_, by rw [pathB_no cc1 hpr] <;> rfl, HS.out.bel⟩

theorem implPathOk_any (s : ByteArray) (w0 : World) (hM : MaxP w0) (hs : s.size ≤ 4000000000) : Calls Tryz.prog 136 #[.string s] w0 fun e w' => e = .returned (.bool (pathB s)) ∧ Below w0.heap.size w0 w' := by
 have HM := Bx.mk hM; clear hM
 have HS := Bx.mk (St.start w0)
 refine wc_enter Tryz.func136 rfl Tryz.ntmps136 [(0, .string s)] ⟨rfl, trivial⟩ rfl ?_; intro a HF
 refine wp_sr ?_
 refine wl_as HF rfl rfl rfl rfl rfl ?_; clear HF a; intro a HF
 refine wl_ne ?_
 refine wp_sr ?_
 refine wl_mv HF rfl rfl rfl rfl rfl ?_; clear HF a; intro a HF
 refine wl_call rfl HF rfl (enter_of Tryz.func163 (by kernel_rfl) rfl) (args := #[.string s]) rfl (pathNames_any s _ (HM.out.below HS.out.bel) (by omega)) rfl rfl ?_
 rintro _ w1 ⟨v, rfl, hb⟩
 refine ⟨_, rfl, ?_⟩; replace HS := Bx.mk (HS.out.later hb); clear hb HF; clear a; intro a HF
 refine wl_mv HF rfl rfl rfl rfl rfl ?_; clear HF a; intro a HF
 refine wl_y rfl HF rfl rfl (yl_extract rfl (HF.ev rfl) rfl) ?_; clear HF a; intro a HF
 refine wl_y rfl HF rfl rfl (yl_extract rfl (HF.ev rfl) rfl) ?_; clear HF a; intro a HF
 refine wl_as HF rfl rfl rfl rfl rfl ?_; clear HF a; intro a HF
 refine wl_as HF rfl rfl rfl rfl rfl ?_; clear HF a; intro a HF
 refine wl_ne ?_
 refine wp_sr ?_
 refine wl_mv HF rfl rfl rfl rfl rfl ?_; clear HF a; intro a HF
 refine wl_as HF rfl rfl rfl rfl rfl ?_; clear HF a; intro a HF
 refine wl_ne ?_
 refine wp_ret ?_
 refine bp_ret1 HF Tryz.results136 (HF.res rfl) ?_
 exact ⟨rfl, HS.out.bel⟩

theorem l14Names_any (s : ByteArray) (w0 : World) (hne : (s.toList == (⟨#[47]⟩ : ByteArray).toList) = false) (hh : (s.data.toList.head? == some 47) = true) (hs : s.size ≤ 1099511627776) : Calls Tryz.prog 161 #[.string s] w0 fun e w' => ∃ ao cp, e = .returned (.slice ao ((piecesB s 47).length - 1) cp) ∧ Rd encS 1 w' ao ((piecesB s 47).length - 1) (piecesB (s.extract 1 s.size) 47) ∧ Below w0.heap.size w0 w' := by
 have HS := Bx.mk (St.start w0)
 refine wc_enter Tryz.func161 rfl Tryz.ntmps161 [(0, .string s)] ⟨rfl, trivial⟩ rfl ?_; intro a HF
 refine wp_sr ?_
 refine wl_as HF rfl rfl rfl rfl rfl ?_; clear HF a; intro a HF
 refine wl_ne ?_
 refine wp_seq ?_
 refine wp_sr ?_
 refine wl_mv HF rfl rfl rfl rfl rfl ?_; clear HF a; intro a HF
 refine wl_y rfl HF rfl rfl (yl_eqlS rfl (HF.ev rfl) (HF.ev rfl)) ?_; clear HF a; intro a HF
 refine wl_ne ?_
 refine HF.cases 4 rfl (fun cc1 HF1 => ?_) (fun cc1 HF1 => ?_)
 ·clear HF; have HF := HF1; clear HF1
  rw [hne] at cc1; cases cc1
 ·clear HF; have HF := HF1; clear HF1
  refine wc_false HF rfl ?_
  refine wp_skip ?_
  refine ex_then ?_
  refine wp_sr ?_
  refine wl_mv HF rfl rfl rfl rfl rfl ?_; clear HF a; intro a HF
  refine wl_call rfl HF rfl (enter_of Tryz.func173 (by kernel_rfl) rfl) (args := #[.string s, .int .u8 47]) rfl (l2Cut_any s 47 _ (by omega)) rfl rfl ?_
  rintro _ w1 ⟨ao1, cp1, rfl, hs⟩
  refine ⟨_, rfl, ?_⟩
  replace HS := Bx.mk (HS.out.add hs); clear hs HF; clear a; intro a HF
  replace HS : Bx (St w0 ([rowA encS 1 9 (.slice ao1 ((piecesB s 47).length) cp1) (piecesB s 47)]) _) := ⟨HS.out⟩
  have hph := pieces_head (eq_of_beq hh); have hpl := pieces_len (s.extract 1 s.size) 47; have hp2 : (piecesB s 47).length = (piecesB (s.extract 1 s.size) 47).length + 1 := by rw [hph]; rfl
  obtain ⟨g2, rfl, _, _, _, _⟩ := HS.out.rowOpen 0 rfl (by omega)
  refine wl_y rfl HF rfl rfl (yl_sliceLo (e := 9) (size := 1) (k := 1) rfl (HF.ev rfl) (HF.ev rfl) (by kernel_rfl) (by omega) (by omega) (Nat.lt_of_lt_of_le (by omega) (St.capLe HS.out 0 rfl))) ?_; clear HF a; intro a HF
  refine wl_as HF rfl rfl rfl rfl rfl ?_; clear HF a; intro a HF
  refine wl_ne ?_
  refine wp_ret ?_
  refine bp_ret1 HF Tryz.results161 (HF.res rfl) ?_
  have hrd := Rd.drop (St.rdN HS.out encS_len 0 rfl) (k := 1) (by omega)
  rw [hph] at hrd
  refine ⟨_, _, rfl, ?_, HS.out.bel⟩
  have hn : (piecesB s 47).length - 1 = (piecesB (s.extract 1 s.size) 47).length := (by omega)
  have h1 : (ByteArray.empty :: piecesB (s.extract 1 s.size) 47).length - 1 = (piecesB (s.extract 1 s.size) 47).length := rfl
  rw [hn]; exact hrd

theorem allB_no {p : Nat → Bool} {n k : Nat} (hk : k < n) (h : p k = false) : allB p n = false := by
  cases h2 : allB p n with
  | false => rfl
  | true => rw [allB_at h2 hk] at h; cases h

theorem specPathOk_any (s : ByteArray) (w0 : World) (hs : s.size ≤ 4000000000) : Calls Tryz.prog 132 #[.string s] w0 fun e w' => e = .returned (.bool (pathB s)) ∧ Below w0.heap.size w0 w' := by
 have HS := Bx.mk (St.start w0)
 refine wc_enter Tryz.func132 rfl Tryz.ntmps132 [(0, .string s)] ⟨rfl, trivial⟩ rfl ?_; intro a HF
 refine wp_sr ?_
 refine wl_as HF rfl rfl rfl rfl rfl ?_; clear HF a; intro a HF
 refine wl_ne ?_
 refine wp_seq ?_
 refine wp_sr ?_
 refine wl_mv HF rfl rfl rfl rfl rfl ?_; clear HF a; intro a HF
 refine wl_y rfl HF rfl rfl (yl_eqlS rfl (HF.ev rfl) (HF.ev rfl)) ?_; clear HF a; intro a HF
 refine wl_ne ?_
 refine HF.cases 6 rfl (fun cc1 HF1 => ?_) (fun cc1 HF1 => ?_)
 ·clear HF; have HF := HF1; clear HF1
  refine wc_true HF rfl ?_
  refine wp_sr ?_
  refine wl_as HF rfl rfl rfl rfl rfl ?_; clear HF a; intro a HF
  refine wl_ne ?_
  refine wp_ret ?_
  refine ex_then_ret ?_
  refine bp_ret1 HF Tryz.results132 (HF.res rfl) ?_
  exact ⟨by rw [pathB_sl cc1], HS.out.bel⟩
 ·clear HF; have HF := HF1; clear HF1
  refine wc_false HF rfl ?_
  refine wp_skip ?_
  refine ex_then ?_
  refine wp_seq ?_
  refine wp_sr ?_
  refine wl_mv HF rfl rfl rfl rfl rfl ?_; clear HF a; intro a HF
  refine wl_y rfl HF rfl rfl (yl_eqlS rfl (HF.ev rfl) (HF.ev rfl)) ?_; clear HF a; intro a HF
  refine wl_mv HF rfl rfl rfl rfl rfl ?_; clear HF a; intro a HF
  refine HF.cases 9 rfl (fun cc2 HF1 => ?_) (fun cc2 HF1 => ?_)
  ·clear HF; have HF := HF1; clear HF1
   refine wl_skip HF rfl rfl rfl rfl rfl rfl ?_; clear HF a; intro a HF
   refine wl_skip HF rfl rfl rfl rfl rfl rfl ?_; clear HF a; intro a HF
   refine wl_skip HF rfl rfl rfl rfl rfl rfl ?_; clear HF a; intro a HF
   refine wl_y rfl HF rfl rfl (yl_pick_t rfl (HF.ev rfl) (HF.ev rfl)) ?_; clear HF a; intro a HF
   refine wl_ne ?_
   refine wc_true HF rfl ?_
   refine wp_sr ?_
   refine wl_as HF rfl rfl rfl rfl rfl ?_; clear HF a; intro a HF
   refine wl_ne ?_
   refine wp_ret ?_
   refine ex_then_ret ?_
   refine bp_ret1 HF Tryz.results132 (HF.res rfl) ?_
   exact ⟨by rw [pathB_no cc1 (head_nil cc2 bytes_toList)], HS.out.bel⟩
  ·clear HF; have HF := HF1; clear HF1
   have hpos := size_pos cc2
   refine wl_yg HF rfl rfl rfl rfl rfl (yl_move rfl (HF.ev rfl)) ?_; clear HF a; intro a HF
   refine wl_yg HF rfl rfl rfl rfl rfl (yl_indexS (i := 0) rfl (HF.ev rfl) (HF.ev rfl) (by kernel_rfl) (by omega) (by omega)) ?_; clear HF a; intro a HF
   refine wl_yg HF rfl rfl rfl rfl rfl (yl_neqI rfl (HF.ev rfl) (HF.ev rfl)) ?_; clear HF a; intro a HF
   refine wl_y rfl HF rfl rfl (yl_pick_f rfl (HF.ev rfl) (HF.ev rfl)) ?_; clear HF a; intro a HF
   refine wl_ne ?_
   refine HF.cases 13 rfl (fun cc3 HF1 => ?_) (fun cc3 HF1 => ?_)
   ·clear HF; have HF := HF1; clear HF1
    have dcc3 := bne_iff_ne.1 cc3
    refine wc_true HF rfl ?_
    refine wp_sr ?_
    refine wl_as HF rfl rfl rfl rfl rfl ?_; clear HF a; intro a HF
    refine wl_ne ?_
    refine wp_ret ?_
    refine ex_then_ret ?_
    refine bp_ret1 HF Tryz.results132 (HF.res rfl) ?_
    exact ⟨by rw [pathB_no cc1 (by rw [head_get hpos]; exact beq_eq_false_iff_ne.2 (bne_iff_ne.1 cc3))], HS.out.bel⟩
   ·clear HF; have HF := HF1; clear HF1
    have dcc3 := bne_eq_false_iff_eq.1 cc3
    have hh : (s.data.toList.head? == some 47) = true := by rw [head_get hpos]; exact beq_iff_eq.2 (bne_eq_false_iff_eq.1 cc3)
    refine wc_false HF rfl ?_
    refine wp_skip ?_
    refine ex_then ?_
    refine wp_sr ?_
    refine wl_mv HF rfl rfl rfl rfl rfl ?_; clear HF a; intro a HF
    refine wl_call rfl HF rfl (enter_of Tryz.func161 (by kernel_rfl) rfl) (args := #[.string s]) rfl (l14Names_any s _ cc1 hh (by omega)) rfl rfl ?_
    rintro _ w1 ⟨ao, cp, rfl, hrd, hb⟩
    refine ⟨_, rfl, ?_⟩; have HB := Bx.mk (HS.out.later hb).bel; clear HS hb HF; clear a; intro a HF
    obtain ⟨w0, rfl⟩ : ∃ x, x = w1 := ⟨_, rfl⟩; have HS := Bx.mk (St.start w0)
    have hrl := hrd.len; rw [← hrl] at hrd HF; generalize hxs : piecesB (s.extract 1 s.size) 47 = xs at hrd HF hrl; obtain ⟨g0, o0, r0⟩ := hrd.opn; have R0 := Bx.mk r0; clear r0 hrd; have hx : szs xs := (by rw [← hxs]; exact szs_pieces _ _ (by rw [ext1_size]; omega)); have hpl := pieces_len (s.extract 1 s.size) 47; rw [hxs] at hpl; have hcl := List.count_le_length (a := (47 : UInt8)) (l := (s.extract 1 s.size).data.toList); have hsl := size_list (s.extract 1 s.size); have hez : (s.extract 1 s.size).size = s.size - 1 := ext1_size
    refine wl_as HF rfl rfl rfl rfl rfl ?_; clear HF a; intro a HF
    refine wl_ne ?_
    refine wp_seq ?_
    refine wp_sr ?_
    refine wl_as HF rfl rfl rfl rfl rfl ?_; clear HF a; intro a HF
    refine wl_ne ?_
    refine wp_block ?_
    refine wc_loop (ι := Nat) (fun k a w => (k ≤ xs.length ∧ ∀ j, j < k → nameB (xs.getD j ByteArray.empty) = true) ∧ Fr 31 a [(3, .slice ao xs.length cp), (4, .int .i64 (k : Int))] ∧ St w0 ([]) w) (fun k => xs.length - k) 0 ⟨⟨Nat.zero_le _, fun j hj => absurd hj (Nat.not_lt_zero _)⟩, HF.less _ ⟨rfl, rfl, trivial⟩, HS.out⟩ ?_
    clear HF HS; clear a
    rintro k a w2 ⟨⟨hk, hg⟩, HF, HS⟩
    replace HS := Bx.mk HS
    have hxk := hx k
    refine wp_seq ?_
    refine wp_sr ?_
    refine wl_mv HF rfl rfl rfl rfl rfl ?_; clear HF a; intro a HF
    refine wl_mv HF rfl rfl rfl rfl rfl ?_; clear HF a; intro a HF
    refine wl_y rfl HF rfl rfl (yl_lenL (e := 9) (size := 1) rfl (HF.ev rfl) (by kernel_rfl)) ?_; clear HF a; intro a HF
    refine wl_y rfl HF rfl rfl (yl_lssI rfl (HF.ev rfl) (HF.ev rfl)) ?_; clear HF a; intro a HF
    refine wl_ne ?_
    refine HF.cases 19 rfl (fun cc4 HF1 => ?_) (fun cc4 HF1 => ?_)
    ·clear HF; have HF := HF1; clear HF1
     have dcc4 := of_decide_eq_true cc4
     refine wc_true HF rfl ?_
     refine wp_skip ?_
     refine ex_then ?_
     refine wp_seq ?_
     refine wp_block ?_
     refine wp_sr ?_
     refine wl_mv HF rfl rfl rfl rfl rfl ?_; clear HF a; intro a HF
     refine wl_mv HF rfl rfl rfl rfl rfl ?_; clear HF a; intro a HF
     refine wl_y rfl HF rfl rfl (yl_indexAddrR (e := 9) (i := k) (size := 1) rfl (HF.ev rfl) (HF.ev rfl) (by kernel_rfl) rfl (by omega) (R0.out.ao k (by omega))) ?_; clear HF a; intro a HF
     refine wl_y rfl HF rfl rfl (yl_load (v := .string (xs.getD k ByteArray.empty)) rfl (HF.ev rfl) (R0.out.elem1 HS.out (get_getD (xs := xs) (j := k) (d := ByteArray.empty) (by omega)) rfl) (by kernel_rfl)) ?_; clear HF a; intro a HF
     refine wl_callB rfl HF rfl (enter_of Tryz.func87 (by kernel_rfl) rfl) (args := #[.string (xs.getD k ByteArray.empty)]) rfl (v := .bool (nameB (xs.getD k ByteArray.empty))) (specNameOk_any (xs.getD k ByteArray.empty) _ (by omega)) rfl rfl HS.out ?_; clear HF HS a; intro w3 a HS HF; replace HS := Bx.mk HS
     refine wl_y rfl HF rfl rfl (yl_not rfl (HF.ev rfl)) ?_; clear HF a; intro a HF
     refine wl_ne ?_
     refine HF.cases 27 rfl (fun cc5 HF1 => ?_) (fun cc5 HF1 => ?_)
     ·clear HF; have HF := HF1; clear HF1
      refine wc_true HF rfl ?_
      refine wp_sr ?_
      refine wl_as HF rfl rfl rfl rfl rfl ?_; clear HF a; intro a HF
      refine wl_ne ?_
      refine wp_ret ?_
      refine ex_block_ret ?_
      refine ex_then_ret ?_
      refine ex_then_ret ?_
      refine ex_block_ret ?_
      refine ex_then_ret ?_
      refine bp_ret1 HF Tryz.results132 (HF.res rfl) ?_
      have hok : okN xs = false := by unfold okN; rw [← allB_all, allB_no (k := k) (by omega) (by rw [Bool.not_not]; simpa using cc5), Bool.and_false]
      exact ⟨by rw [pathB_rest cc1 hh, restB_okN, hxs, hok], HB.out.trans (HS.out.bel.mono HB.out.size)⟩
     ·clear HF; have HF := HF1; clear HF1
      refine wc_false HF rfl ?_
      refine wp_skip ?_
      refine ex_block ?_
      refine ex_then ?_
      refine wp_region_lit ?_
      refine wl_mv HF rfl rfl rfl rfl rfl ?_; clear HF a; intro a HF
      refine wl_y rfl HF rfl rfl (yl_addI rfl (HF.ev rfl) (HF.ev rfl) (i64w (by omega))) ?_; clear HF a; intro a HF
      refine wl_as HF rfl rfl rfl rfl rfl ?_; clear HF a; intro a HF
      refine wl_ne ?_
      have hnx : ∀ j, j < k + 1 → nameB (xs.getD j ByteArray.empty) = true := fun j hj => by rcases Nat.lt_or_ge j k with h | h; exact hg j h; obtain rfl : j = k := (by omega); simpa using cc5
      exact ⟨k + 1, ⟨⟨by omega, hnx⟩, HF.less _ ⟨rfl, rfl, trivial⟩, HS.out⟩, (by omega)⟩
    ·clear HF; have HF := HF1; clear HF1
     have dcc4 := of_decide_eq_false cc4
     refine wc_false HF rfl ?_
     refine wp_exit ?_
     refine ex_then_exit ?_
     refine ex_then_exit ?_
     refine ex_block_hit ?_
     refine ex_then ?_
     refine wp_sr ?_
     refine wl_mv HF rfl rfl rfl rfl rfl ?_; clear HF a; intro a HF
     refine wl_y rfl HF rfl rfl (yl_lenL (e := 9) (size := 1) rfl (HF.ev rfl) (by kernel_rfl)) ?_; clear HF a; intro a HF
     refine wl_y rfl HF rfl rfl (yl_leqI rfl (HF.ev rfl) (HF.ev rfl)) ?_; clear HF a; intro a HF
     refine wl_as HF rfl rfl rfl rfl rfl ?_; clear HF a; intro a HF
     refine wl_ne ?_
     refine wp_ret ?_
     refine bp_ret1 HF Tryz.results132 (HF.res rfl) ?_
     have hall : xs.all nameB = true := by rw [← allB_all]; exact allB_mk fun j hj => by rw [Bool.not_not]; exact hg j (by omega)
     have hok : okN xs = (decide ((xs.length : Int) ≤ 4)) := by unfold okN; rw [hall, Bool.and_true]; exact decide_eq_decide.2 (by omega)
     exact ⟨by rw [pathB_rest cc1 hh, restB_okN, hxs, hok], HB.out.trans (HS.out.bel.mono HB.out.size)⟩

end Go.Proofs.YtoaopmkbfifhaaaGreatDoor

/- Operations as texts: walked. -/
namespace Go.Proofs.YtoaopmkbfifhaaaGreatDoor
set_option linter.unusedVariables false
set_option linter.unusedSimpArgs false
set_option maxHeartbeats 1000000
set_option maxRecDepth 100000
open Go.RowKit

structure OpD where
  fKind : Int
  fPath : ByteArray
  fTo : ByteArray
  fAt : Int
  fText : ByteArray
def OpD.cells (o : OpD) : List Value := [.int .i64 o.fKind, .string o.fPath, .string o.fTo, .int .i64 o.fAt, .string o.fText]
def OpD.two (o : OpD) : Bool := (o.fKind == (6 : Int)) || (o.fKind == (7 : Int))
def OpD.sized (o : OpD) : Bool := (o.fKind == (3 : Int)) || (o.fKind == (4 : Int))
def OpD.toOk (o : OpD) : Bool := bif o.two then pathB o.fTo else (o.fTo.toList == (⟨#[]⟩ : ByteArray).toList)
def OpD.atOk (o : OpD) : Bool := (o.fAt == (0 : Int)) || (o.sized && inB o.fAt 0 192)
def OpD.textOk (o : OpD) : Bool := (o.fText.toList == (⟨#[]⟩ : ByteArray).toList) || ((o.fKind == (3 : Int)) && decide ((o.fText.size : Int) ≤ (24 : Int)))
def OpD.ok (o : OpD) : Bool := inB o.fKind 1 7 && pathB o.fPath && o.toOk && o.atOk && o.textOk
theorem OpD.ok_mk {o : OpD} (h1 : inB o.fKind 1 7 = true) (h2 : pathB o.fPath = true) (h3 : o.toOk = true) (h4 : o.atOk = true) : o.ok = o.textOk := by unfold OpD.ok; rw [h1, h2, h3, h4]; rfl
theorem OpD.ok_mk2 {o : OpD} (h1 : (inB o.fKind 1 7 && pathB o.fPath && o.toOk) = true) (h4 : o.textOk = true) : o.ok = o.atOk := by unfold OpD.ok; rw [h1, h4, Bool.true_and, Bool.and_true]
theorem pathB_nil {t : ByteArray} (h : (t.toList == (⟨#[]⟩ : ByteArray).toList) = true) : pathB t = false := by
  obtain rfl := bytes_toList h
  refine pathB_no ?_ rfl
  cases hc : ((⟨#[]⟩ : ByteArray).toList == (⟨#[47]⟩ : ByteArray).toList) with
  | false => rfl
  | true => exact absurd (congrArg ByteArray.size (bytes_toList hc)) (by decide)
theorem size_nil {t : ByteArray} (h : (t.toList == (⟨#[]⟩ : ByteArray).toList) = true) : decide ((24 : Int) < (t.size : Int)) = false := by
  obtain rfl := bytes_toList h
  rfl
theorem size_le24 (t : ByteArray) : decide ((t.size : Int) ≤ (24 : Int)) = !decide ((24 : Int) < (t.size : Int)) := by
  by_cases h : (t.size : Int) ≤ 24
  · rw [decide_eq_true h, decide_eq_false (by omega)]; rfl
  · rw [decide_eq_false h, decide_eq_true (by omega)]; rfl
theorem at_zero {n : Int} (h : (n == (0 : Int)) = true) : inB n 0 192 = true := by obtain rfl := eq_of_beq h; rfl
theorem bne_int (a b : Int) : (a != b) = !(a == b) := rfl

theorem opTo_tree (o : OpD) : (bif !((bif (o.fKind == 6) then true else (o.fKind == 7)) == (!(o.fTo.toList == (⟨#[]⟩ : ByteArray).toList))) then true else (bif (bif (o.fKind == 6) then true else (o.fKind == 7)) then (!(pathB o.fTo)) else false)) = !o.toOk := by
  have hr := fun h => pathB_nil (t := o.fTo) h
  unfold OpD.toOk OpD.two
  revert hr
  cases h1 : (o.fKind == (6 : Int)) <;> cases h2 : (o.fKind == (7 : Int)) <;> cases h3 : (o.fTo.toList == (⟨#[]⟩ : ByteArray).toList) <;> cases h4 : pathB o.fTo <;> intro hr <;> first | rfl | exact absurd (hr rfl) (by simp)
theorem opAt_tree (o : OpD) : (bif !(bif (o.fKind == 3) then true else (o.fKind == 4)) then (bif (o.fAt != 0) then true else (!(inB o.fAt 0 192))) else (!(inB o.fAt 0 192))) = !o.atOk := by
  have hr := fun h => at_zero (n := o.fAt) h
  unfold OpD.atOk OpD.sized
  rw [bne_int]
  revert hr
  cases h1 : (o.fKind == (3 : Int)) <;> cases h2 : (o.fKind == (4 : Int)) <;> cases h3 : (o.fAt == (0 : Int)) <;> cases h4 : inB o.fAt 0 192 <;> intro hr <;> first | rfl | exact absurd (hr rfl) (by simp)
theorem opText_tree (o : OpD) : (bif (o.fText.toList == (⟨#[]⟩ : ByteArray).toList) then true else (bif (o.fKind == 3) then (decide ((o.fText.size : Int) ≤ 24)) else false)) = o.textOk := by
  unfold OpD.textOk
  cases h1 : (o.fText.toList == (⟨#[]⟩ : ByteArray).toList) <;> cases h2 : (o.fKind == (3 : Int)) <;> rfl

theorem implOpOk_any (o : OpD) (w0 : World) (hM : MaxP w0) (hp : o.fPath.size ≤ 4000000000) (ht : o.fTo.size ≤ 4000000000) (hx : o.fText.size ≤ 4000000000) : Calls Tryz.prog 91 #[.agg #[.int .i64 o.fKind, .string o.fPath, .string o.fTo, .int .i64 o.fAt, .string o.fText]] w0 fun e w' => e = .returned (.bool o.ok) ∧ Below w0.heap.size w0 w' := by
 have HM := Bx.mk hM; clear hM
 have HS := Bx.mk (St.start w0)
 refine wc_enter Tryz.func91 rfl Tryz.ntmps91 [(0, .agg #[.int .i64 o.fKind, .string o.fPath, .string o.fTo, .int .i64 o.fAt, .string o.fText])] ⟨rfl, trivial⟩ rfl ?_; intro a HF
 refine wp_sr ?_
 refine wl_box rfl HF rfl (HF.ev rfl) (Z := [.int .i64 o.fKind, .string o.fPath, .string o.fTo, .int .i64 o.fAt, .string o.fText]) rfl rfl rfl rfl HS.out ?_; clear HF HS a; intro a w1 b1 HF HS; replace HS := Bx.mk HS
 refine wl_as HF rfl rfl rfl rfl rfl ?_; clear HF a; intro a HF
 refine wl_ne ?_
 refine wp_seq ?_
 refine wp_join (R := fun a w => Fr 73 a [(0, .agg #[.int .i64 o.fKind, .string o.fPath, .string o.fTo, .int .i64 o.fAt, .string o.fText]), (1, .pointer (some ⟨b1, 0, none⟩)), (2, .bool false), (3, .bool (bif (o.fKind == 6) then true else (o.fKind == 7)))] ∧ St w0 ([boxA b1 5 53 (.agg #[.int .i64 o.fKind, .string o.fPath, .string o.fTo, .int .i64 o.fAt, .string o.fText])]) w) ?_ ?_
 ·skip
  refine wp_region_lit ?_
  refine wl_y rfl HF rfl rfl (yl_fieldAddr (j := 0) rfl (HF.ev rfl) (by kernel_rfl)) ?_; clear HF a; intro a HF
  refine wl_y rfl HF rfl rfl (yl_load (v := .int .i64 o.fKind) rfl (HF.ev rfl) (((HS.out.box 0 rfl).cell 0).trans rfl) (by kernel_rfl)) ?_; clear HF a; intro a HF
  refine wl_y rfl HF rfl rfl (yl_eqlI rfl (HF.ev rfl) (HF.ev rfl)) ?_; clear HF a; intro a HF
  refine wl_mv HF rfl rfl rfl rfl rfl ?_; clear HF a; intro a HF
  refine HF.cases 8 rfl (fun cc1 HF1 => ?_) (fun cc1 HF1 => ?_)
  ·clear HF; have HF := HF1; clear HF1
   have dcc1 := eq_of_beq cc1
   refine wl_skip HF rfl rfl rfl rfl rfl rfl ?_; clear HF a; intro a HF
   refine wl_skip HF rfl rfl rfl rfl rfl rfl ?_; clear HF a; intro a HF
   refine wl_skip HF rfl rfl rfl rfl rfl rfl ?_; clear HF a; intro a HF
   refine wl_y rfl HF rfl rfl (yl_pick_t rfl (HF.ev rfl) (HF.ev rfl)) ?_; clear HF a; intro a HF
   refine wl_as HF rfl rfl rfl rfl rfl ?_; clear HF a; intro a HF
   refine wpList_nil ?_
   exact on_mk ⟨HF.less _ ⟨rfl, rfl, rfl, (congrArg (fun z => some (Value.bool z)) (show (true : Bool) = (bif (o.fKind == 6) then true else (o.fKind == 7)) from (by (try rw [cc1]); first | done | rfl))), trivial⟩, HS.out⟩
  ·clear HF; have HF := HF1; clear HF1
   have dcc1 := ne_of_beq_false cc1
   refine wl_yg HF rfl rfl rfl rfl rfl (yl_fieldAddr (j := 0) rfl (HF.ev rfl) (by kernel_rfl)) ?_; clear HF a; intro a HF
   refine wl_yg HF rfl rfl rfl rfl rfl (yl_load (v := .int .i64 o.fKind) rfl (HF.ev rfl) (((HS.out.box 0 rfl).cell 0).trans rfl) (by kernel_rfl)) ?_; clear HF a; intro a HF
   refine wl_yg HF rfl rfl rfl rfl rfl (yl_eqlI rfl (HF.ev rfl) (HF.ev rfl)) ?_; clear HF a; intro a HF
   refine wl_y rfl HF rfl rfl (yl_pick_f rfl (HF.ev rfl) (HF.ev rfl)) ?_; clear HF a; intro a HF
   refine wl_as HF rfl rfl rfl rfl rfl ?_; clear HF a; intro a HF
   refine wpList_nil ?_
   exact on_mk ⟨HF.less _ ⟨rfl, rfl, rfl, (congrArg (fun z => some (Value.bool z)) (show ((o.fKind == 7) : Bool) = (bif (o.fKind == 6) then true else (o.fKind == 7)) from (by (try rw [cc1]); first | done | rfl))), trivial⟩, HS.out⟩
 clear HF HS a; rintro a w2 ⟨HF, HS⟩; replace HS := Bx.mk HS
 refine ex_then ?_
 refine wp_seq ?_
 refine wp_join (R := fun a w => Fr 73 a [(0, .agg #[.int .i64 o.fKind, .string o.fPath, .string o.fTo, .int .i64 o.fAt, .string o.fText]), (1, .pointer (some ⟨b1, 0, none⟩)), (2, .bool false), (3, .bool (bif (o.fKind == 6) then true else (o.fKind == 7))), (4, .bool (bif (o.fKind == 3) then true else (o.fKind == 4)))] ∧ St w0 ([boxA b1 5 53 (.agg #[.int .i64 o.fKind, .string o.fPath, .string o.fTo, .int .i64 o.fAt, .string o.fText])]) w) ?_ ?_
 ·skip
  refine wp_region_lit ?_
  refine wl_y rfl HF rfl rfl (yl_fieldAddr (j := 0) rfl (HF.ev rfl) (by kernel_rfl)) ?_; clear HF a; intro a HF
  refine wl_y rfl HF rfl rfl (yl_load (v := .int .i64 o.fKind) rfl (HF.ev rfl) (((HS.out.box 0 rfl).cell 0).trans rfl) (by kernel_rfl)) ?_; clear HF a; intro a HF
  refine wl_y rfl HF rfl rfl (yl_eqlI rfl (HF.ev rfl) (HF.ev rfl)) ?_; clear HF a; intro a HF
  refine wl_mv HF rfl rfl rfl rfl rfl ?_; clear HF a; intro a HF
  refine HF.cases 16 rfl (fun cc2 HF1 => ?_) (fun cc2 HF1 => ?_)
  ·clear HF; have HF := HF1; clear HF1
   have dcc2 := eq_of_beq cc2
   refine wl_skip HF rfl rfl rfl rfl rfl rfl ?_; clear HF a; intro a HF
   refine wl_skip HF rfl rfl rfl rfl rfl rfl ?_; clear HF a; intro a HF
   refine wl_skip HF rfl rfl rfl rfl rfl rfl ?_; clear HF a; intro a HF
   refine wl_y rfl HF rfl rfl (yl_pick_t rfl (HF.ev rfl) (HF.ev rfl)) ?_; clear HF a; intro a HF
   refine wl_as HF rfl rfl rfl rfl rfl ?_; clear HF a; intro a HF
   refine wpList_nil ?_
   exact on_mk ⟨HF.less _ ⟨rfl, rfl, rfl, rfl, (congrArg (fun z => some (Value.bool z)) (show (true : Bool) = (bif (o.fKind == 3) then true else (o.fKind == 4)) from (by (try rw [cc2]); first | done | rfl))), trivial⟩, HS.out⟩
  ·clear HF; have HF := HF1; clear HF1
   have dcc2 := ne_of_beq_false cc2
   refine wl_yg HF rfl rfl rfl rfl rfl (yl_fieldAddr (j := 0) rfl (HF.ev rfl) (by kernel_rfl)) ?_; clear HF a; intro a HF
   refine wl_yg HF rfl rfl rfl rfl rfl (yl_load (v := .int .i64 o.fKind) rfl (HF.ev rfl) (((HS.out.box 0 rfl).cell 0).trans rfl) (by kernel_rfl)) ?_; clear HF a; intro a HF
   refine wl_yg HF rfl rfl rfl rfl rfl (yl_eqlI rfl (HF.ev rfl) (HF.ev rfl)) ?_; clear HF a; intro a HF
   refine wl_y rfl HF rfl rfl (yl_pick_f rfl (HF.ev rfl) (HF.ev rfl)) ?_; clear HF a; intro a HF
   refine wl_as HF rfl rfl rfl rfl rfl ?_; clear HF a; intro a HF
   refine wpList_nil ?_
   exact on_mk ⟨HF.less _ ⟨rfl, rfl, rfl, rfl, (congrArg (fun z => some (Value.bool z)) (show ((o.fKind == 4) : Bool) = (bif (o.fKind == 3) then true else (o.fKind == 4)) from (by (try rw [cc2]); first | done | rfl))), trivial⟩, HS.out⟩
 clear HF HS a; rintro a w3 ⟨HF, HS⟩; replace HS := Bx.mk HS
 refine ex_then ?_
 refine wp_seq ?_
 refine wp_block ?_
 refine wp_seq ?_
 refine wp_sr ?_
 refine wl_y rfl HF rfl rfl (yl_fieldAddr (j := 0) rfl (HF.ev rfl) (by kernel_rfl)) ?_; clear HF a; intro a HF
 refine wl_y rfl HF rfl rfl (yl_load (v := .int .i64 o.fKind) rfl (HF.ev rfl) (((HS.out.box 0 rfl).cell 0).trans rfl) (by kernel_rfl)) ?_; clear HF a; intro a HF
 refine wl_callB rfl HF rfl (enter_of Tryz.func52 (by kernel_rfl) rfl) (args := #[.int .i64 o.fKind, .int .i64 1, .int .i64 7]) rfl (v := .bool (inB o.fKind 1 7)) (((within_any o.fKind 1 7 _).mono fun _ _ h => ⟨h.1, h.2 ▸ Below.refl _ _⟩)) rfl rfl HS.out ?_; clear HF HS a; intro w4 a HS HF; replace HS := Bx.mk HS
 refine wl_y rfl HF rfl rfl (yl_not rfl (HF.ev rfl)) ?_; clear HF a; intro a HF
 refine wl_as HF rfl rfl rfl rfl rfl ?_; clear HF a; intro a HF
 refine wl_ne ?_
 refine HF.cases 21 rfl (fun cc3 HF1 => ?_) (fun cc3 HF1 => ?_)
 ·clear HF; have HF := HF1; clear HF1
  refine wc_true HF rfl ?_
  refine wp_skip ?_
  refine ex_then ?_
  refine wc_true HF rfl ?_
  refine wp_sr ?_
  refine wl_as HF rfl rfl rfl rfl rfl ?_; clear HF a; intro a HF
  refine wl_ne ?_
  refine wp_ret ?_
  refine ex_block_ret ?_
  refine ex_then_ret ?_
  refine bp_ret1 HF Tryz.results91 (HF.res rfl) ?_
  have k1 : inB o.fKind 1 7 = false := by simpa using cc3
  exact ⟨by unfold OpD.ok; rw [k1] <;> simp, HS.out.bel⟩
 ·clear HF; have HF := HF1; clear HF1
  refine wc_false HF rfl ?_
  refine wp_region_lit ?_
  refine wl_y rfl HF rfl rfl (yl_fieldAddr (j := 1) rfl (HF.ev rfl) (by kernel_rfl)) ?_; clear HF a; intro a HF
  refine wl_y rfl HF rfl rfl (yl_load (v := .string o.fPath) rfl (HF.ev rfl) (((HS.out.box 0 rfl).cell 1).trans rfl) (by kernel_rfl)) ?_; clear HF a; intro a HF
  refine wl_callB rfl HF rfl (enter_of Tryz.func136 (by kernel_rfl) rfl) (args := #[.string o.fPath]) rfl (v := .bool (pathB o.fPath)) (implPathOk_any o.fPath _ (HM.out.below HS.out.bel) (by omega)) rfl rfl HS.out ?_; clear HF HS a; intro w5 a HS HF; replace HS := Bx.mk HS
  refine wl_y rfl HF rfl rfl (yl_not rfl (HF.ev rfl)) ?_; clear HF a; intro a HF
  refine wl_as HF rfl rfl rfl rfl rfl ?_; clear HF a; intro a HF
  refine wl_ne ?_
  refine HF.cases 21 rfl (fun cc4 HF1 => ?_) (fun cc4 HF1 => ?_)
  ·clear HF; have HF := HF1; clear HF1
   refine wc_true HF rfl ?_
   refine wp_sr ?_
   refine wl_as HF rfl rfl rfl rfl rfl ?_; clear HF a; intro a HF
   refine wl_ne ?_
   refine wp_ret ?_
   refine ex_block_ret ?_
   refine ex_then_ret ?_
   refine bp_ret1 HF Tryz.results91 (HF.res rfl) ?_
   have k1 : inB o.fKind 1 7 = true := by simpa using cc3
   have k2 : pathB o.fPath = false := by simpa using cc4
   exact ⟨by unfold OpD.ok; rw [k1, k2] <;> simp, HS.out.bel⟩
  ·clear HF; have HF := HF1; clear HF1
   refine wc_false HF rfl ?_
   refine wp_seq ?_
   refine wp_join (R := fun a w => Fr 73 a [(0, .agg #[.int .i64 o.fKind, .string o.fPath, .string o.fTo, .int .i64 o.fAt, .string o.fText]), (1, .pointer (some ⟨b1, 0, none⟩)), (2, .bool false), (4, .bool (bif (o.fKind == 3) then true else (o.fKind == 4))), (22, .pointer (some ⟨b1, 0 + 0, none⟩)), (23, .int .i64 o.fKind), (24, .bool (inB o.fKind 1 7)), (25, .bool (!(inB o.fKind 1 7))), (21, .bool false), (26, .pointer (some ⟨b1, 0 + 1, none⟩)), (27, .string o.fPath), (28, .bool (pathB o.fPath)), (29, .bool (!(pathB o.fPath))), (30, .bool (bif !((bif (o.fKind == 6) then true else (o.fKind == 7)) == (!(o.fTo.toList == (⟨#[]⟩ : ByteArray).toList))) then true else (bif (bif (o.fKind == 6) then true else (o.fKind == 7)) then (!(pathB o.fTo)) else false)))] ∧ St w0 ([boxA b1 5 53 (.agg #[.int .i64 o.fKind, .string o.fPath, .string o.fTo, .int .i64 o.fAt, .string o.fText])]) w) ?_ ?_
   ·skip
    refine wp_region_lit ?_
    refine wl_mv HF rfl rfl rfl rfl rfl ?_; clear HF a; intro a HF
    refine wl_y rfl HF rfl rfl (yl_fieldAddr (j := 2) rfl (HF.ev rfl) (by kernel_rfl)) ?_; clear HF a; intro a HF
    refine wl_y rfl HF rfl rfl (yl_load (v := .string o.fTo) rfl (HF.ev rfl) (((HS.out.box 0 rfl).cell 2).trans rfl) (by kernel_rfl)) ?_; clear HF a; intro a HF
    refine wl_y rfl HF rfl rfl (yl_neqS rfl (HF.ev rfl) (HF.ev rfl)) ?_; clear HF a; intro a HF
    refine wl_y rfl HF rfl rfl (yl_neqB rfl (HF.ev rfl) (HF.ev rfl) (by kernel_rfl)) ?_; clear HF a; intro a HF
    refine wl_mv HF rfl rfl rfl rfl rfl ?_; clear HF a; intro a HF
    refine HF.cases 36 rfl (fun cc5 HF1 => ?_) (fun cc5 HF1 => ?_)
    ·clear HF; have HF := HF1; clear HF1
     refine wl_skip HF rfl rfl rfl rfl rfl rfl ?_; clear HF a; intro a HF
     refine wl_skip HF rfl rfl rfl rfl rfl rfl ?_; clear HF a; intro a HF
     refine wl_skipU HF rfl rfl rfl rfl rfl ?_; clear HF a; intro a HF
     refine wl_skipU HF rfl rfl rfl rfl rfl ?_; clear HF a; intro a HF
     refine wl_skipU HF rfl rfl rfl rfl rfl ?_; clear HF a; intro a HF
     refine wl_skipU HF rfl rfl rfl rfl rfl ?_; clear HF a; intro a HF
     refine wl_skip HF rfl rfl rfl rfl rfl rfl ?_; clear HF a; intro a HF
     refine wl_y rfl HF rfl rfl (yl_pick_t rfl (HF.ev rfl) (HF.ev rfl)) ?_; clear HF a; intro a HF
     refine wl_as HF rfl rfl rfl rfl rfl ?_; clear HF a; intro a HF
     refine wpList_nil ?_
     exact on_mk ⟨HF.less _ ⟨rfl, rfl, rfl, rfl, rfl, rfl, rfl, rfl, rfl, rfl, rfl, rfl, rfl, (congrArg (fun z => some (Value.bool z)) (show (true : Bool) = (bif !((bif (o.fKind == 6) then true else (o.fKind == 7)) == (!(o.fTo.toList == (⟨#[]⟩ : ByteArray).toList))) then true else (bif (bif (o.fKind == 6) then true else (o.fKind == 7)) then (!(pathB o.fTo)) else false)) from (by (try rw [cc5]); first | done | rfl))), trivial⟩, HS.out⟩
    ·clear HF; have HF := HF1; clear HF1
     refine wl_yg HF rfl rfl rfl rfl rfl (yl_move rfl (HF.ev rfl)) ?_; clear HF a; intro a HF
     refine wl_yg HF rfl rfl rfl rfl rfl (yl_move rfl (HF.ev rfl)) ?_; clear HF a; intro a HF
     refine HF.cases 38 rfl (fun cc6 HF1 => ?_) (fun cc6 HF1 => ?_)
     ·clear HF; have HF := HF1; clear HF1
      refine wl_yg HF rfl rfl rfl rfl rfl (yl_fieldAddr (j := 2) rfl (HF.ev rfl) (by kernel_rfl)) ?_; clear HF a; intro a HF
      refine wl_yg HF rfl rfl rfl rfl rfl (yl_load (v := .string o.fTo) rfl (HF.ev rfl) (((HS.out.box 0 rfl).cell 2).trans rfl) (by kernel_rfl)) ?_; clear HF a; intro a HF
      refine wl_callBg HF rfl rfl rfl rfl (enter_of Tryz.func136 (by kernel_rfl) rfl) (args := #[.string o.fTo]) rfl (v := .bool (pathB o.fTo)) (implPathOk_any o.fTo _ (HM.out.below HS.out.bel) (by omega)) rfl rfl HS.out ?_; clear HF HS a; intro w6 a HS HF; replace HS := Bx.mk HS
      refine wl_yg HF rfl rfl rfl rfl rfl (yl_not rfl (HF.ev rfl)) ?_; clear HF a; intro a HF
      refine wl_yg HF rfl rfl rfl rfl rfl (yl_pick_t rfl (HF.ev rfl) (HF.ev rfl)) ?_; clear HF a; intro a HF
      refine wl_y rfl HF rfl rfl (yl_pick_f rfl (HF.ev rfl) (HF.ev rfl)) ?_; clear HF a; intro a HF
      refine wl_as HF rfl rfl rfl rfl rfl ?_; clear HF a; intro a HF
      refine wpList_nil ?_
      exact on_mk ⟨HF.less _ ⟨rfl, rfl, rfl, rfl, rfl, rfl, rfl, rfl, rfl, rfl, rfl, rfl, rfl, (congrArg (fun z => some (Value.bool z)) (show (!(pathB o.fTo) : Bool) = (bif !((bif (o.fKind == 6) then true else (o.fKind == 7)) == (!(o.fTo.toList == (⟨#[]⟩ : ByteArray).toList))) then true else (bif (bif (o.fKind == 6) then true else (o.fKind == 7)) then (!(pathB o.fTo)) else false)) from (by (try rw [cc5]); (try rw [cc6]); first | done | rfl))), trivial⟩, HS.out⟩
     ·clear HF; have HF := HF1; clear HF1
      refine wl_skip HF rfl rfl rfl rfl rfl rfl ?_; clear HF a; intro a HF
      refine wl_skip HF rfl rfl rfl rfl rfl rfl ?_; clear HF a; intro a HF
      refine wl_skip HF rfl rfl rfl rfl rfl rfl ?_; clear HF a; intro a HF
      refine wl_skip HF rfl rfl rfl rfl rfl rfl ?_; clear HF a; intro a HF
      refine wl_yg HF rfl rfl rfl rfl rfl (yl_pick_f rfl (HF.ev rfl) (HF.ev rfl)) ?_; clear HF a; intro a HF
      refine wl_y rfl HF rfl rfl (yl_pick_f rfl (HF.ev rfl) (HF.ev rfl)) ?_; clear HF a; intro a HF
      refine wl_as HF rfl rfl rfl rfl rfl ?_; clear HF a; intro a HF
      refine wpList_nil ?_
      exact on_mk ⟨HF.less _ ⟨rfl, rfl, rfl, rfl, rfl, rfl, rfl, rfl, rfl, rfl, rfl, rfl, rfl, (congrArg (fun z => some (Value.bool z)) (show (false : Bool) = (bif !((bif (o.fKind == 6) then true else (o.fKind == 7)) == (!(o.fTo.toList == (⟨#[]⟩ : ByteArray).toList))) then true else (bif (bif (o.fKind == 6) then true else (o.fKind == 7)) then (!(pathB o.fTo)) else false)) from (by (try rw [cc5]); (try rw [cc6]); first | done | rfl))), trivial⟩, HS.out⟩
   clear HF HS a; rintro a w7 ⟨HF, HS⟩; replace HS := Bx.mk HS
   refine ex_then ?_
   refine HF.cases 30 rfl (fun cc7 HF1 => ?_) (fun cc7 HF1 => ?_)
   ·clear HF; have HF := HF1; clear HF1
    refine wc_true HF rfl ?_
    refine wp_sr ?_
    refine wl_as HF rfl rfl rfl rfl rfl ?_; clear HF a; intro a HF
    refine wl_ne ?_
    refine wp_ret ?_
    refine ex_block_ret ?_
    refine ex_then_ret ?_
    refine bp_ret1 HF Tryz.results91 (HF.res rfl) ?_
    have k1 : inB o.fKind 1 7 = true := by simpa using cc3
    have k2 : pathB o.fPath = true := by simpa using cc4
    have k3 : o.toOk = false := by have := cc7; rw [opTo_tree] at this; simpa using this
    exact ⟨by unfold OpD.ok; rw [k1, k2, k3] <;> simp, HS.out.bel⟩
   ·clear HF; have HF := HF1; clear HF1
    refine wc_false HF rfl ?_
    refine wp_seq ?_
    refine wp_join (R := fun a w => Fr 73 a [(0, .agg #[.int .i64 o.fKind, .string o.fPath, .string o.fTo, .int .i64 o.fAt, .string o.fText]), (1, .pointer (some ⟨b1, 0, none⟩)), (2, .bool false), (22, .pointer (some ⟨b1, 0 + 0, none⟩)), (23, .int .i64 o.fKind), (24, .bool (inB o.fKind 1 7)), (25, .bool (!(inB o.fKind 1 7))), (21, .bool false), (26, .pointer (some ⟨b1, 0 + 1, none⟩)), (27, .string o.fPath), (28, .bool (pathB o.fPath)), (29, .bool (!(pathB o.fPath))), (30, .bool false), (45, .bool (bif !(bif (o.fKind == 3) then true else (o.fKind == 4)) then (bif (o.fAt != 0) then true else (!(inB o.fAt 0 192))) else (!(inB o.fAt 0 192))))] ∧ St w0 ([boxA b1 5 53 (.agg #[.int .i64 o.fKind, .string o.fPath, .string o.fTo, .int .i64 o.fAt, .string o.fText])]) w) ?_ ?_
    ·skip
     refine wp_region_lit ?_
     refine wl_mv HF rfl rfl rfl rfl rfl ?_; clear HF a; intro a HF
     refine wl_y rfl HF rfl rfl (yl_not rfl (HF.ev rfl)) ?_; clear HF a; intro a HF
     refine wl_mv HF rfl rfl rfl rfl rfl ?_; clear HF a; intro a HF
     refine HF.cases 48 rfl (fun cc8 HF1 => ?_) (fun cc8 HF1 => ?_)
     ·clear HF; have HF := HF1; clear HF1
      refine wl_yg HF rfl rfl rfl rfl rfl (yl_fieldAddr (j := 3) rfl (HF.ev rfl) (by kernel_rfl)) ?_; clear HF a; intro a HF
      refine wl_yg HF rfl rfl rfl rfl rfl (yl_load (v := .int .i64 o.fAt) rfl (HF.ev rfl) (((HS.out.box 0 rfl).cell 3).trans rfl) (by kernel_rfl)) ?_; clear HF a; intro a HF
      refine wl_yg HF rfl rfl rfl rfl rfl (yl_neqI rfl (HF.ev rfl) (HF.ev rfl)) ?_; clear HF a; intro a HF
      refine wl_y rfl HF rfl rfl (yl_pick_t rfl (HF.ev rfl) (HF.ev rfl)) ?_; clear HF a; intro a HF
      refine wl_mv HF rfl rfl rfl rfl rfl ?_; clear HF a; intro a HF
      refine HF.cases 53 rfl (fun cc9 HF1 => ?_) (fun cc9 HF1 => ?_)
      ·clear HF; have HF := HF1; clear HF1
       have dcc9 := bne_iff_ne.1 cc9
       refine wl_skip HF rfl rfl rfl rfl rfl rfl ?_; clear HF a; intro a HF
       refine wl_skip HF rfl rfl rfl rfl rfl rfl ?_; clear HF a; intro a HF
       refine wl_skip HF rfl rfl rfl rfl rfl rfl ?_; clear HF a; intro a HF
       refine wl_skip HF rfl rfl rfl rfl rfl rfl ?_; clear HF a; intro a HF
       refine wl_y rfl HF rfl rfl (yl_pick_t rfl (HF.ev rfl) (HF.ev rfl)) ?_; clear HF a; intro a HF
       refine wl_as HF rfl rfl rfl rfl rfl ?_; clear HF a; intro a HF
       refine wpList_nil ?_
       exact on_mk ⟨HF.less _ ⟨rfl, rfl, rfl, rfl, rfl, rfl, rfl, rfl, rfl, rfl, rfl, rfl, rfl, (congrArg (fun z => some (Value.bool z)) (show (true : Bool) = (bif !(bif (o.fKind == 3) then true else (o.fKind == 4)) then (bif (o.fAt != 0) then true else (!(inB o.fAt 0 192))) else (!(inB o.fAt 0 192))) from (by (try rw [cc8]); (try rw [cc9]); first | done | rfl))), trivial⟩, HS.out⟩
      ·clear HF; have HF := HF1; clear HF1
       have dcc9 := bne_eq_false_iff_eq.1 cc9
       refine wl_yg HF rfl rfl rfl rfl rfl (yl_fieldAddr (j := 3) rfl (HF.ev rfl) (by kernel_rfl)) ?_; clear HF a; intro a HF
       refine wl_yg HF rfl rfl rfl rfl rfl (yl_load (v := .int .i64 o.fAt) rfl (HF.ev rfl) (((HS.out.box 0 rfl).cell 3).trans rfl) (by kernel_rfl)) ?_; clear HF a; intro a HF
       refine wl_callBg HF rfl rfl rfl rfl (enter_of Tryz.func52 (by kernel_rfl) rfl) (args := #[.int .i64 o.fAt, .int .i64 0, .int .i64 192]) rfl (v := .bool (inB o.fAt 0 192)) (((within_any o.fAt 0 192 _).mono fun _ _ h => ⟨h.1, h.2 ▸ Below.refl _ _⟩)) rfl rfl HS.out ?_; clear HF HS a; intro w8 a HS HF; replace HS := Bx.mk HS
       refine wl_yg HF rfl rfl rfl rfl rfl (yl_not rfl (HF.ev rfl)) ?_; clear HF a; intro a HF
       refine wl_y rfl HF rfl rfl (yl_pick_f rfl (HF.ev rfl) (HF.ev rfl)) ?_; clear HF a; intro a HF
       refine wl_as HF rfl rfl rfl rfl rfl ?_; clear HF a; intro a HF
       refine wpList_nil ?_
       exact on_mk ⟨HF.less _ ⟨rfl, rfl, rfl, rfl, rfl, rfl, rfl, rfl, rfl, rfl, rfl, rfl, rfl, (congrArg (fun z => some (Value.bool z)) (show (!(inB o.fAt 0 192) : Bool) = (bif !(bif (o.fKind == 3) then true else (o.fKind == 4)) then (bif (o.fAt != 0) then true else (!(inB o.fAt 0 192))) else (!(inB o.fAt 0 192))) from (by (try rw [cc8]); (try rw [cc9]); first | done | rfl))), trivial⟩, HS.out⟩
     ·clear HF; have HF := HF1; clear HF1
      refine wl_skip HF rfl rfl rfl rfl rfl rfl ?_; clear HF a; intro a HF
      refine wl_skip HF rfl rfl rfl rfl rfl rfl ?_; clear HF a; intro a HF
      refine wl_skip HF rfl rfl rfl rfl rfl rfl ?_; clear HF a; intro a HF
      refine wl_y rfl HF rfl rfl (yl_pick_f rfl (HF.ev rfl) (HF.ev rfl)) ?_; clear HF a; intro a HF
      refine wl_mv HF rfl rfl rfl rfl rfl ?_; clear HF a; intro a HF
      refine wl_yg HF rfl rfl rfl rfl rfl (yl_fieldAddr (j := 3) rfl (HF.ev rfl) (by kernel_rfl)) ?_; clear HF a; intro a HF
      refine wl_yg HF rfl rfl rfl rfl rfl (yl_load (v := .int .i64 o.fAt) rfl (HF.ev rfl) (((HS.out.box 0 rfl).cell 3).trans rfl) (by kernel_rfl)) ?_; clear HF a; intro a HF
      refine wl_callBg HF rfl rfl rfl rfl (enter_of Tryz.func52 (by kernel_rfl) rfl) (args := #[.int .i64 o.fAt, .int .i64 0, .int .i64 192]) rfl (v := .bool (inB o.fAt 0 192)) (((within_any o.fAt 0 192 _).mono fun _ _ h => ⟨h.1, h.2 ▸ Below.refl _ _⟩)) rfl rfl HS.out ?_; clear HF HS a; intro w9 a HS HF; replace HS := Bx.mk HS
      refine wl_yg HF rfl rfl rfl rfl rfl (yl_not rfl (HF.ev rfl)) ?_; clear HF a; intro a HF
      refine wl_y rfl HF rfl rfl (yl_pick_f rfl (HF.ev rfl) (HF.ev rfl)) ?_; clear HF a; intro a HF
      refine wl_as HF rfl rfl rfl rfl rfl ?_; clear HF a; intro a HF
      refine wpList_nil ?_
      exact on_mk ⟨HF.less _ ⟨rfl, rfl, rfl, rfl, rfl, rfl, rfl, rfl, rfl, rfl, rfl, rfl, rfl, (congrArg (fun z => some (Value.bool z)) (show (!(inB o.fAt 0 192) : Bool) = (bif !(bif (o.fKind == 3) then true else (o.fKind == 4)) then (bif (o.fAt != 0) then true else (!(inB o.fAt 0 192))) else (!(inB o.fAt 0 192))) from (by (try rw [cc8]); first | done | rfl))), trivial⟩, HS.out⟩
    clear HF HS a; rintro a w10 ⟨HF, HS⟩; replace HS := Bx.mk HS
    refine ex_then ?_
    refine HF.cases 45 rfl (fun cc10 HF1 => ?_) (fun cc10 HF1 => ?_)
    ·clear HF; have HF := HF1; clear HF1
     refine wc_true HF rfl ?_
     refine wp_sr ?_
     refine wl_as HF rfl rfl rfl rfl rfl ?_; clear HF a; intro a HF
     refine wl_ne ?_
     refine wp_ret ?_
     refine ex_block_ret ?_
     refine ex_then_ret ?_
     refine bp_ret1 HF Tryz.results91 (HF.res rfl) ?_
     have k1 : inB o.fKind 1 7 = true := by simpa using cc3
     have k2 : pathB o.fPath = true := by simpa using cc4
     have k3 : o.toOk = true := by have := cc7; rw [opTo_tree] at this; simpa using this
     have k4 : o.atOk = false := by have := cc10; rw [opAt_tree] at this; simpa using this
     exact ⟨by unfold OpD.ok; rw [k1, k2, k3, k4] <;> simp, HS.out.bel⟩
    ·clear HF; have HF := HF1; clear HF1
     refine wc_false HF rfl ?_
     refine wp_skip ?_
     refine ex_block ?_
     refine ex_then ?_
     refine wp_seq ?_
     refine wp_join (R := fun a w => Fr 73 a [(0, .agg #[.int .i64 o.fKind, .string o.fPath, .string o.fTo, .int .i64 o.fAt, .string o.fText]), (1, .pointer (some ⟨b1, 0, none⟩)), (2, .bool (bif (o.fText.toList == (⟨#[]⟩ : ByteArray).toList) then true else (bif (o.fKind == 3) then (decide ((o.fText.size : Int) ≤ 24)) else false))), (22, .pointer (some ⟨b1, 0 + 0, none⟩)), (23, .int .i64 o.fKind), (24, .bool (inB o.fKind 1 7)), (25, .bool (!(inB o.fKind 1 7))), (21, .bool false), (26, .pointer (some ⟨b1, 0 + 1, none⟩)), (27, .string o.fPath), (28, .bool (pathB o.fPath)), (29, .bool (!(pathB o.fPath))), (30, .bool false), (45, .bool false)] ∧ St w0 ([boxA b1 5 53 (.agg #[.int .i64 o.fKind, .string o.fPath, .string o.fTo, .int .i64 o.fAt, .string o.fText])]) w) ?_ ?_
     ·skip
      refine wp_region_lit ?_
      refine wl_y rfl HF rfl rfl (yl_fieldAddr (j := 4) rfl (HF.ev rfl) (by kernel_rfl)) ?_; clear HF a; intro a HF
      refine wl_y rfl HF rfl rfl (yl_load (v := .string o.fText) rfl (HF.ev rfl) (((HS.out.box 0 rfl).cell 4).trans rfl) (by kernel_rfl)) ?_; clear HF a; intro a HF
      refine wl_y rfl HF rfl rfl (yl_eqlS rfl (HF.ev rfl) (HF.ev rfl)) ?_; clear HF a; intro a HF
      refine wl_mv HF rfl rfl rfl rfl rfl ?_; clear HF a; intro a HF
      refine HF.cases 62 rfl (fun cc11 HF1 => ?_) (fun cc11 HF1 => ?_)
      ·clear HF; have HF := HF1; clear HF1
       refine wl_skip HF rfl rfl rfl rfl rfl rfl ?_; clear HF a; intro a HF
       refine wl_skip HF rfl rfl rfl rfl rfl rfl ?_; clear HF a; intro a HF
       refine wl_skip HF rfl rfl rfl rfl rfl rfl ?_; clear HF a; intro a HF
       refine wl_skip HF rfl rfl rfl rfl rfl rfl ?_; clear HF a; intro a HF
       refine wl_skipU HF rfl rfl rfl rfl rfl ?_; clear HF a; intro a HF
       refine wl_skipU HF rfl rfl rfl rfl rfl ?_; clear HF a; intro a HF
       refine wl_skipU HF rfl rfl rfl rfl rfl ?_; clear HF a; intro a HF
       refine wl_skipU HF rfl rfl rfl rfl rfl ?_; clear HF a; intro a HF
       refine wl_skip HF rfl rfl rfl rfl rfl rfl ?_; clear HF a; intro a HF
       refine wl_y rfl HF rfl rfl (yl_pick_t rfl (HF.ev rfl) (HF.ev rfl)) ?_; clear HF a; intro a HF
       refine wl_as HF rfl rfl rfl rfl rfl ?_; clear HF a; intro a HF
       refine wpList_nil ?_
       exact on_mk ⟨HF.less _ ⟨rfl, rfl, (congrArg (fun z => some (Value.bool z)) (show (true : Bool) = (bif (o.fText.toList == (⟨#[]⟩ : ByteArray).toList) then true else (bif (o.fKind == 3) then (decide ((o.fText.size : Int) ≤ 24)) else false)) from (by (try rw [cc11]); first | done | rfl))), rfl, rfl, rfl, rfl, rfl, rfl, rfl, rfl, rfl, rfl, rfl, trivial⟩, HS.out⟩
      ·clear HF; have HF := HF1; clear HF1
       refine wl_yg HF rfl rfl rfl rfl rfl (yl_fieldAddr (j := 0) rfl (HF.ev rfl) (by kernel_rfl)) ?_; clear HF a; intro a HF
       refine wl_yg HF rfl rfl rfl rfl rfl (yl_load (v := .int .i64 o.fKind) rfl (HF.ev rfl) (((HS.out.box 0 rfl).cell 0).trans rfl) (by kernel_rfl)) ?_; clear HF a; intro a HF
       refine wl_yg HF rfl rfl rfl rfl rfl (yl_eqlI rfl (HF.ev rfl) (HF.ev rfl)) ?_; clear HF a; intro a HF
       refine wl_yg HF rfl rfl rfl rfl rfl (yl_move rfl (HF.ev rfl)) ?_; clear HF a; intro a HF
       refine HF.cases 66 rfl (fun cc12 HF1 => ?_) (fun cc12 HF1 => ?_)
       ·clear HF; have HF := HF1; clear HF1
        have dcc12 := eq_of_beq cc12
        refine wl_yg HF rfl rfl rfl rfl rfl (yl_fieldAddr (j := 4) rfl (HF.ev rfl) (by kernel_rfl)) ?_; clear HF a; intro a HF
        refine wl_yg HF rfl rfl rfl rfl rfl (yl_load (v := .string o.fText) rfl (HF.ev rfl) (((HS.out.box 0 rfl).cell 4).trans rfl) (by kernel_rfl)) ?_; clear HF a; intro a HF
        refine wl_yg HF rfl rfl rfl rfl rfl (yl_lenS rfl (HF.ev rfl) (by kernel_rfl)) ?_; clear HF a; intro a HF
        refine wl_yg HF rfl rfl rfl rfl rfl (yl_leqI rfl (HF.ev rfl) (HF.ev rfl)) ?_; clear HF a; intro a HF
        refine wl_yg HF rfl rfl rfl rfl rfl (yl_pick_t rfl (HF.ev rfl) (HF.ev rfl)) ?_; clear HF a; intro a HF
        refine wl_y rfl HF rfl rfl (yl_pick_f rfl (HF.ev rfl) (HF.ev rfl)) ?_; clear HF a; intro a HF
        refine wl_as HF rfl rfl rfl rfl rfl ?_; clear HF a; intro a HF
        refine wpList_nil ?_
        exact on_mk ⟨HF.less _ ⟨rfl, rfl, (congrArg (fun z => some (Value.bool z)) (show ((decide ((o.fText.size : Int) ≤ 24)) : Bool) = (bif (o.fText.toList == (⟨#[]⟩ : ByteArray).toList) then true else (bif (o.fKind == 3) then (decide ((o.fText.size : Int) ≤ 24)) else false)) from (by (try rw [cc11]); (try rw [cc12]); first | done | rfl))), rfl, rfl, rfl, rfl, rfl, rfl, rfl, rfl, rfl, rfl, rfl, trivial⟩, HS.out⟩
       ·clear HF; have HF := HF1; clear HF1
        have dcc12 := ne_of_beq_false cc12
        refine wl_skip HF rfl rfl rfl rfl rfl rfl ?_; clear HF a; intro a HF
        refine wl_skip HF rfl rfl rfl rfl rfl rfl ?_; clear HF a; intro a HF
        refine wl_skip HF rfl rfl rfl rfl rfl rfl ?_; clear HF a; intro a HF
        refine wl_skip HF rfl rfl rfl rfl rfl rfl ?_; clear HF a; intro a HF
        refine wl_yg HF rfl rfl rfl rfl rfl (yl_pick_f rfl (HF.ev rfl) (HF.ev rfl)) ?_; clear HF a; intro a HF
        refine wl_y rfl HF rfl rfl (yl_pick_f rfl (HF.ev rfl) (HF.ev rfl)) ?_; clear HF a; intro a HF
        refine wl_as HF rfl rfl rfl rfl rfl ?_; clear HF a; intro a HF
        refine wpList_nil ?_
        exact on_mk ⟨HF.less _ ⟨rfl, rfl, (congrArg (fun z => some (Value.bool z)) (show (false : Bool) = (bif (o.fText.toList == (⟨#[]⟩ : ByteArray).toList) then true else (bif (o.fKind == 3) then (decide ((o.fText.size : Int) ≤ 24)) else false)) from (by (try rw [cc11]); (try rw [cc12]); first | done | rfl))), rfl, rfl, rfl, rfl, rfl, rfl, rfl, rfl, rfl, rfl, rfl, trivial⟩, HS.out⟩
     clear HF HS a; rintro a w11 ⟨HF, HS⟩; replace HS := Bx.mk HS
     refine ex_then ?_
     refine wp_ret ?_
     refine bp_ret1 HF Tryz.results91 (HF.res rfl) ?_
     have k1 : inB o.fKind 1 7 = true := by simpa using cc3
     have k2 : pathB o.fPath = true := by simpa using cc4
     have k3 : o.toOk = true := by have := cc7; rw [opTo_tree] at this; simpa using this
     have k4 : o.atOk = true := by have := cc10; rw [opAt_tree] at this; simpa using this
     exact ⟨by rw [OpD.ok_mk k1 k2 k3 k4, ← opText_tree], HS.out.bel⟩

theorem spTo_tree (o : OpD) : (bif !(inB o.fKind 1 7) then true else (bif !(pathB o.fPath) then true else (bif (bif (o.fKind == 6) then true else (o.fKind == 7)) then (bif !(pathB o.fTo) then true else false) else (!(o.fTo.toList == (⟨#[]⟩ : ByteArray).toList))))) = !(inB o.fKind 1 7 && pathB o.fPath && o.toOk) := by
  have hr := fun h => pathB_nil (t := o.fTo) h
  unfold OpD.toOk OpD.two
  revert hr
  cases inB o.fKind 1 7 <;> cases pathB o.fPath <;> cases h1 : (o.fKind == (6 : Int)) <;> cases h2 : (o.fKind == (7 : Int)) <;> cases h3 : (o.fTo.toList == (⟨#[]⟩ : ByteArray).toList) <;> cases h4 : pathB o.fTo <;> intro hr <;> first | rfl | exact absurd (hr rfl) (by simp)
theorem spText_tree (o : OpD) : (bif (o.fKind != 3) then (bif (!(o.fText.toList == (⟨#[]⟩ : ByteArray).toList)) then true else (decide ((24 : Int) < (o.fText.size : Int)))) else (decide ((24 : Int) < (o.fText.size : Int)))) = !o.textOk := by
  have hr := fun h => size_nil (t := o.fText) h
  unfold OpD.textOk
  rw [size_le24]
  try rw [bne_int]
  revert hr
  cases h1 : (o.fText.toList == (⟨#[]⟩ : ByteArray).toList) <;> cases h2 : (o.fKind == (3 : Int)) <;> cases h3 : decide ((24 : Int) < (o.fText.size : Int)) <;> intro hr <;> first | rfl | exact absurd (hr rfl) (by simp)
theorem spAt_tree (o : OpD) : (bif (o.fAt == 0) then true else (bif (bif (o.fKind == 3) then true else (o.fKind == 4)) then (inB o.fAt 0 192) else false)) = o.atOk := by
  unfold OpD.atOk OpD.sized
  cases h1 : (o.fKind == (3 : Int)) <;> cases h2 : (o.fKind == (4 : Int)) <;> cases h3 : (o.fAt == (0 : Int)) <;> rfl

theorem specOpOk_any (o : OpD) (w0 : World) (hp : o.fPath.size ≤ 4000000000) (ht : o.fTo.size ≤ 4000000000) (hx : o.fText.size ≤ 4000000000) : Calls Tryz.prog 88 #[.agg #[.int .i64 o.fKind, .string o.fPath, .string o.fTo, .int .i64 o.fAt, .string o.fText]] w0 fun e w' => e = .returned (.bool o.ok) ∧ Below w0.heap.size w0 w' := by
 have HS := Bx.mk (St.start w0)
 refine wc_enter Tryz.func88 rfl Tryz.ntmps88 [(0, .agg #[.int .i64 o.fKind, .string o.fPath, .string o.fTo, .int .i64 o.fAt, .string o.fText])] ⟨rfl, trivial⟩ rfl ?_; intro a HF
 refine wp_sr ?_
 refine wl_box rfl HF rfl (HF.ev rfl) (Z := [.int .i64 o.fKind, .string o.fPath, .string o.fTo, .int .i64 o.fAt, .string o.fText]) rfl rfl rfl rfl HS.out ?_; clear HF HS a; intro a w1 b1 HF HS; replace HS := Bx.mk HS
 refine wl_as HF rfl rfl rfl rfl rfl ?_; clear HF a; intro a HF
 refine wl_ne ?_
 refine wp_seq ?_
 refine wp_join (R := fun a w => Fr 74 a [(0, .agg #[.int .i64 o.fKind, .string o.fPath, .string o.fTo, .int .i64 o.fAt, .string o.fText]), (1, .pointer (some ⟨b1, 0, none⟩)), (2, .bool false), (3, .bool (bif (o.fKind == 6) then true else (o.fKind == 7)))] ∧ St w0 ([boxA b1 5 53 (.agg #[.int .i64 o.fKind, .string o.fPath, .string o.fTo, .int .i64 o.fAt, .string o.fText])]) w) ?_ ?_
 ·skip
  refine wp_region_lit ?_
  refine wl_y rfl HF rfl rfl (yl_fieldAddr (j := 0) rfl (HF.ev rfl) (by kernel_rfl)) ?_; clear HF a; intro a HF
  refine wl_y rfl HF rfl rfl (yl_load (v := .int .i64 o.fKind) rfl (HF.ev rfl) (((HS.out.box 0 rfl).cell 0).trans rfl) (by kernel_rfl)) ?_; clear HF a; intro a HF
  refine wl_y rfl HF rfl rfl (yl_eqlI rfl (HF.ev rfl) (HF.ev rfl)) ?_; clear HF a; intro a HF
  refine wl_mv HF rfl rfl rfl rfl rfl ?_; clear HF a; intro a HF
  refine HF.cases 8 rfl (fun cc1 HF1 => ?_) (fun cc1 HF1 => ?_)
  ·clear HF; have HF := HF1; clear HF1
   have dcc1 := eq_of_beq cc1
   refine wl_skip HF rfl rfl rfl rfl rfl rfl ?_; clear HF a; intro a HF
   refine wl_skip HF rfl rfl rfl rfl rfl rfl ?_; clear HF a; intro a HF
   refine wl_skip HF rfl rfl rfl rfl rfl rfl ?_; clear HF a; intro a HF
   refine wl_y rfl HF rfl rfl (yl_pick_t rfl (HF.ev rfl) (HF.ev rfl)) ?_; clear HF a; intro a HF
   refine wl_as HF rfl rfl rfl rfl rfl ?_; clear HF a; intro a HF
   refine wpList_nil ?_
   exact on_mk ⟨HF.less _ ⟨rfl, rfl, rfl, (congrArg (fun z => some (Value.bool z)) (show (true : Bool) = (bif (o.fKind == 6) then true else (o.fKind == 7)) from (by (try rw [cc1]); first | done | rfl))), trivial⟩, HS.out⟩
  ·clear HF; have HF := HF1; clear HF1
   have dcc1 := ne_of_beq_false cc1
   refine wl_yg HF rfl rfl rfl rfl rfl (yl_fieldAddr (j := 0) rfl (HF.ev rfl) (by kernel_rfl)) ?_; clear HF a; intro a HF
   refine wl_yg HF rfl rfl rfl rfl rfl (yl_load (v := .int .i64 o.fKind) rfl (HF.ev rfl) (((HS.out.box 0 rfl).cell 0).trans rfl) (by kernel_rfl)) ?_; clear HF a; intro a HF
   refine wl_yg HF rfl rfl rfl rfl rfl (yl_eqlI rfl (HF.ev rfl) (HF.ev rfl)) ?_; clear HF a; intro a HF
   refine wl_y rfl HF rfl rfl (yl_pick_f rfl (HF.ev rfl) (HF.ev rfl)) ?_; clear HF a; intro a HF
   refine wl_as HF rfl rfl rfl rfl rfl ?_; clear HF a; intro a HF
   refine wpList_nil ?_
   exact on_mk ⟨HF.less _ ⟨rfl, rfl, rfl, (congrArg (fun z => some (Value.bool z)) (show ((o.fKind == 7) : Bool) = (bif (o.fKind == 6) then true else (o.fKind == 7)) from (by (try rw [cc1]); first | done | rfl))), trivial⟩, HS.out⟩
 clear HF HS a; rintro a w2 ⟨HF, HS⟩; replace HS := Bx.mk HS
 refine ex_then ?_
 refine wp_seq ?_
 refine wp_join (R := fun a w => Fr 74 a [(0, .agg #[.int .i64 o.fKind, .string o.fPath, .string o.fTo, .int .i64 o.fAt, .string o.fText]), (1, .pointer (some ⟨b1, 0, none⟩)), (2, .bool false), (3, .bool (bif (o.fKind == 6) then true else (o.fKind == 7))), (4, .bool (bif (o.fKind == 3) then true else (o.fKind == 4)))] ∧ St w0 ([boxA b1 5 53 (.agg #[.int .i64 o.fKind, .string o.fPath, .string o.fTo, .int .i64 o.fAt, .string o.fText])]) w) ?_ ?_
 ·skip
  refine wp_region_lit ?_
  refine wl_y rfl HF rfl rfl (yl_fieldAddr (j := 0) rfl (HF.ev rfl) (by kernel_rfl)) ?_; clear HF a; intro a HF
  refine wl_y rfl HF rfl rfl (yl_load (v := .int .i64 o.fKind) rfl (HF.ev rfl) (((HS.out.box 0 rfl).cell 0).trans rfl) (by kernel_rfl)) ?_; clear HF a; intro a HF
  refine wl_y rfl HF rfl rfl (yl_eqlI rfl (HF.ev rfl) (HF.ev rfl)) ?_; clear HF a; intro a HF
  refine wl_mv HF rfl rfl rfl rfl rfl ?_; clear HF a; intro a HF
  refine HF.cases 16 rfl (fun cc2 HF1 => ?_) (fun cc2 HF1 => ?_)
  ·clear HF; have HF := HF1; clear HF1
   have dcc2 := eq_of_beq cc2
   refine wl_skip HF rfl rfl rfl rfl rfl rfl ?_; clear HF a; intro a HF
   refine wl_skip HF rfl rfl rfl rfl rfl rfl ?_; clear HF a; intro a HF
   refine wl_skip HF rfl rfl rfl rfl rfl rfl ?_; clear HF a; intro a HF
   refine wl_y rfl HF rfl rfl (yl_pick_t rfl (HF.ev rfl) (HF.ev rfl)) ?_; clear HF a; intro a HF
   refine wl_as HF rfl rfl rfl rfl rfl ?_; clear HF a; intro a HF
   refine wpList_nil ?_
   exact on_mk ⟨HF.less _ ⟨rfl, rfl, rfl, rfl, (congrArg (fun z => some (Value.bool z)) (show (true : Bool) = (bif (o.fKind == 3) then true else (o.fKind == 4)) from (by (try rw [cc2]); first | done | rfl))), trivial⟩, HS.out⟩
  ·clear HF; have HF := HF1; clear HF1
   have dcc2 := ne_of_beq_false cc2
   refine wl_yg HF rfl rfl rfl rfl rfl (yl_fieldAddr (j := 0) rfl (HF.ev rfl) (by kernel_rfl)) ?_; clear HF a; intro a HF
   refine wl_yg HF rfl rfl rfl rfl rfl (yl_load (v := .int .i64 o.fKind) rfl (HF.ev rfl) (((HS.out.box 0 rfl).cell 0).trans rfl) (by kernel_rfl)) ?_; clear HF a; intro a HF
   refine wl_yg HF rfl rfl rfl rfl rfl (yl_eqlI rfl (HF.ev rfl) (HF.ev rfl)) ?_; clear HF a; intro a HF
   refine wl_y rfl HF rfl rfl (yl_pick_f rfl (HF.ev rfl) (HF.ev rfl)) ?_; clear HF a; intro a HF
   refine wl_as HF rfl rfl rfl rfl rfl ?_; clear HF a; intro a HF
   refine wpList_nil ?_
   exact on_mk ⟨HF.less _ ⟨rfl, rfl, rfl, rfl, (congrArg (fun z => some (Value.bool z)) (show ((o.fKind == 4) : Bool) = (bif (o.fKind == 3) then true else (o.fKind == 4)) from (by (try rw [cc2]); first | done | rfl))), trivial⟩, HS.out⟩
 clear HF HS a; rintro a w3 ⟨HF, HS⟩; replace HS := Bx.mk HS
 refine ex_then ?_
 refine wp_seq ?_
 refine wp_seq ?_
 refine wp_join (R := fun a w => Fr 74 a [(0, .agg #[.int .i64 o.fKind, .string o.fPath, .string o.fTo, .int .i64 o.fAt, .string o.fText]), (1, .pointer (some ⟨b1, 0, none⟩)), (2, .bool false), (4, .bool (bif (o.fKind == 3) then true else (o.fKind == 4))), (48, .bool (bif !(inB o.fKind 1 7) then true else (bif !(pathB o.fPath) then true else (bif (bif (o.fKind == 6) then true else (o.fKind == 7)) then (bif !(pathB o.fTo) then true else false) else (!(o.fTo.toList == (⟨#[]⟩ : ByteArray).toList))))))] ∧ St w0 ([boxA b1 5 53 (.agg #[.int .i64 o.fKind, .string o.fPath, .string o.fTo, .int .i64 o.fAt, .string o.fText])]) w) ?_ ?_
 ·skip
  refine wp_region_lit ?_
  refine wl_y rfl HF rfl rfl (yl_fieldAddr (j := 0) rfl (HF.ev rfl) (by kernel_rfl)) ?_; clear HF a; intro a HF
  refine wl_y rfl HF rfl rfl (yl_load (v := .int .i64 o.fKind) rfl (HF.ev rfl) (((HS.out.box 0 rfl).cell 0).trans rfl) (by kernel_rfl)) ?_; clear HF a; intro a HF
  refine wl_callB rfl HF rfl (enter_of Tryz.func61 (by kernel_rfl) rfl) (args := #[.int .i64 o.fKind, .int .i64 1, .int .i64 7]) rfl (v := .bool (inB o.fKind 1 7)) (((l6In_any o.fKind 1 7 _).mono fun _ _ h => ⟨h.1, h.2 ▸ Below.refl _ _⟩)) rfl rfl HS.out ?_; clear HF HS a; intro w4 a HS HF; replace HS := Bx.mk HS
  refine wl_y rfl HF rfl rfl (yl_not rfl (HF.ev rfl)) ?_; clear HF a; intro a HF
  refine wl_mv HF rfl rfl rfl rfl rfl ?_; clear HF a; intro a HF
  refine HF.cases 25 rfl (fun cc3 HF1 => ?_) (fun cc3 HF1 => ?_)
  ·clear HF; have HF := HF1; clear HF1
   refine wl_skip HF rfl rfl rfl rfl rfl rfl ?_; clear HF a; intro a HF
   refine wl_skip HF rfl rfl rfl rfl rfl rfl ?_; clear HF a; intro a HF
   refine wl_skip HF rfl rfl rfl rfl rfl rfl ?_; clear HF a; intro a HF
   refine wl_skip HF rfl rfl rfl rfl rfl rfl ?_; clear HF a; intro a HF
   refine wl_y rfl HF rfl rfl (yl_pick_t rfl (HF.ev rfl) (HF.ev rfl)) ?_; clear HF a; intro a HF
   refine wl_mv HF rfl rfl rfl rfl rfl ?_; clear HF a; intro a HF
   refine wl_skip HF rfl rfl rfl rfl rfl rfl ?_; clear HF a; intro a HF
   refine wl_skip HF rfl rfl rfl rfl rfl rfl ?_; clear HF a; intro a HF
   refine wl_skipU HF rfl rfl rfl rfl rfl ?_; clear HF a; intro a HF
   refine wl_skipU HF rfl rfl rfl rfl rfl ?_; clear HF a; intro a HF
   refine wl_skipU HF rfl rfl rfl rfl rfl ?_; clear HF a; intro a HF
   refine wl_skipU HF rfl rfl rfl rfl rfl ?_; clear HF a; intro a HF
   refine wl_skip HF rfl rfl rfl rfl rfl rfl ?_; clear HF a; intro a HF
   refine wl_y rfl HF rfl rfl (yl_pick_t rfl (HF.ev rfl) (HF.ev rfl)) ?_; clear HF a; intro a HF
   refine wl_mv HF rfl rfl rfl rfl rfl ?_; clear HF a; intro a HF
   refine wl_skip HF rfl rfl rfl rfl rfl rfl ?_; clear HF a; intro a HF
   refine wl_skip HF rfl rfl rfl rfl rfl rfl ?_; clear HF a; intro a HF
   refine wl_skip HF rfl rfl rfl rfl rfl rfl ?_; clear HF a; intro a HF
   refine wl_skipU HF rfl rfl rfl rfl rfl ?_; clear HF a; intro a HF
   refine wl_skipU HF rfl rfl rfl rfl rfl ?_; clear HF a; intro a HF
   refine wl_skipU HF rfl rfl rfl rfl rfl ?_; clear HF a; intro a HF
   refine wl_skip HF rfl rfl rfl rfl rfl rfl ?_; clear HF a; intro a HF
   refine wl_y rfl HF rfl rfl (yl_pick_t rfl (HF.ev rfl) (HF.ev rfl)) ?_; clear HF a; intro a HF
   refine wpList_nil ?_
   exact on_mk ⟨HF.less _ ⟨rfl, rfl, rfl, rfl, (congrArg (fun z => some (Value.bool z)) (show (true : Bool) = (bif !(inB o.fKind 1 7) then true else (bif !(pathB o.fPath) then true else (bif (bif (o.fKind == 6) then true else (o.fKind == 7)) then (bif !(pathB o.fTo) then true else false) else (!(o.fTo.toList == (⟨#[]⟩ : ByteArray).toList))))) from (by (try rw [cc3]); first | done | rfl))), trivial⟩, HS.out⟩
  ·clear HF; have HF := HF1; clear HF1
   refine wl_yg HF rfl rfl rfl rfl rfl (yl_fieldAddr (j := 1) rfl (HF.ev rfl) (by kernel_rfl)) ?_; clear HF a; intro a HF
   refine wl_yg HF rfl rfl rfl rfl rfl (yl_load (v := .string o.fPath) rfl (HF.ev rfl) (((HS.out.box 0 rfl).cell 1).trans rfl) (by kernel_rfl)) ?_; clear HF a; intro a HF
   refine wl_callBg HF rfl rfl rfl rfl (enter_of Tryz.func132 (by kernel_rfl) rfl) (args := #[.string o.fPath]) rfl (v := .bool (pathB o.fPath)) (specPathOk_any o.fPath _ (by omega)) rfl rfl HS.out ?_; clear HF HS a; intro w5 a HS HF; replace HS := Bx.mk HS
   refine wl_yg HF rfl rfl rfl rfl rfl (yl_not rfl (HF.ev rfl)) ?_; clear HF a; intro a HF
   refine wl_y rfl HF rfl rfl (yl_pick_f rfl (HF.ev rfl) (HF.ev rfl)) ?_; clear HF a; intro a HF
   refine wl_mv HF rfl rfl rfl rfl rfl ?_; clear HF a; intro a HF
   refine HF.cases 31 rfl (fun cc4 HF1 => ?_) (fun cc4 HF1 => ?_)
   ·clear HF; have HF := HF1; clear HF1
    refine wl_skip HF rfl rfl rfl rfl rfl rfl ?_; clear HF a; intro a HF
    refine wl_skip HF rfl rfl rfl rfl rfl rfl ?_; clear HF a; intro a HF
    refine wl_skipU HF rfl rfl rfl rfl rfl ?_; clear HF a; intro a HF
    refine wl_skipU HF rfl rfl rfl rfl rfl ?_; clear HF a; intro a HF
    refine wl_skipU HF rfl rfl rfl rfl rfl ?_; clear HF a; intro a HF
    refine wl_skipU HF rfl rfl rfl rfl rfl ?_; clear HF a; intro a HF
    refine wl_skip HF rfl rfl rfl rfl rfl rfl ?_; clear HF a; intro a HF
    refine wl_y rfl HF rfl rfl (yl_pick_t rfl (HF.ev rfl) (HF.ev rfl)) ?_; clear HF a; intro a HF
    refine wl_mv HF rfl rfl rfl rfl rfl ?_; clear HF a; intro a HF
    refine wl_skip HF rfl rfl rfl rfl rfl rfl ?_; clear HF a; intro a HF
    refine wl_skip HF rfl rfl rfl rfl rfl rfl ?_; clear HF a; intro a HF
    refine wl_skip HF rfl rfl rfl rfl rfl rfl ?_; clear HF a; intro a HF
    refine wl_skipU HF rfl rfl rfl rfl rfl ?_; clear HF a; intro a HF
    refine wl_skipU HF rfl rfl rfl rfl rfl ?_; clear HF a; intro a HF
    refine wl_skipU HF rfl rfl rfl rfl rfl ?_; clear HF a; intro a HF
    refine wl_skip HF rfl rfl rfl rfl rfl rfl ?_; clear HF a; intro a HF
    refine wl_y rfl HF rfl rfl (yl_pick_t rfl (HF.ev rfl) (HF.ev rfl)) ?_; clear HF a; intro a HF
    refine wpList_nil ?_
    exact on_mk ⟨HF.less _ ⟨rfl, rfl, rfl, rfl, (congrArg (fun z => some (Value.bool z)) (show (true : Bool) = (bif !(inB o.fKind 1 7) then true else (bif !(pathB o.fPath) then true else (bif (bif (o.fKind == 6) then true else (o.fKind == 7)) then (bif !(pathB o.fTo) then true else false) else (!(o.fTo.toList == (⟨#[]⟩ : ByteArray).toList))))) from (by (try rw [cc3]); (try rw [cc4]); first | done | rfl))), trivial⟩, HS.out⟩
   ·clear HF; have HF := HF1; clear HF1
    refine wl_yg HF rfl rfl rfl rfl rfl (yl_move rfl (HF.ev rfl)) ?_; clear HF a; intro a HF
    refine wl_yg HF rfl rfl rfl rfl rfl (yl_move rfl (HF.ev rfl)) ?_; clear HF a; intro a HF
    refine HF.cases 33 rfl (fun cc5 HF1 => ?_) (fun cc5 HF1 => ?_)
    ·clear HF; have HF := HF1; clear HF1
     refine wl_yg HF rfl rfl rfl rfl rfl (yl_fieldAddr (j := 2) rfl (HF.ev rfl) (by kernel_rfl)) ?_; clear HF a; intro a HF
     refine wl_yg HF rfl rfl rfl rfl rfl (yl_load (v := .string o.fTo) rfl (HF.ev rfl) (((HS.out.box 0 rfl).cell 2).trans rfl) (by kernel_rfl)) ?_; clear HF a; intro a HF
     refine wl_callBg HF rfl rfl rfl rfl (enter_of Tryz.func132 (by kernel_rfl) rfl) (args := #[.string o.fTo]) rfl (v := .bool (pathB o.fTo)) (specPathOk_any o.fTo _ (by omega)) rfl rfl HS.out ?_; clear HF HS a; intro w6 a HS HF; replace HS := Bx.mk HS
     refine wl_yg HF rfl rfl rfl rfl rfl (yl_not rfl (HF.ev rfl)) ?_; clear HF a; intro a HF
     refine wl_yg HF rfl rfl rfl rfl rfl (yl_pick_t rfl (HF.ev rfl) (HF.ev rfl)) ?_; clear HF a; intro a HF
     refine wl_y rfl HF rfl rfl (yl_pick_f rfl (HF.ev rfl) (HF.ev rfl)) ?_; clear HF a; intro a HF
     refine wl_mv HF rfl rfl rfl rfl rfl ?_; clear HF a; intro a HF
     refine HF.cases 40 rfl (fun cc6 HF1 => ?_) (fun cc6 HF1 => ?_)
     ·clear HF; have HF := HF1; clear HF1
      refine wl_skip HF rfl rfl rfl rfl rfl rfl ?_; clear HF a; intro a HF
      refine wl_skip HF rfl rfl rfl rfl rfl rfl ?_; clear HF a; intro a HF
      refine wl_skip HF rfl rfl rfl rfl rfl rfl ?_; clear HF a; intro a HF
      refine wl_skipU HF rfl rfl rfl rfl rfl ?_; clear HF a; intro a HF
      refine wl_skipU HF rfl rfl rfl rfl rfl ?_; clear HF a; intro a HF
      refine wl_skipU HF rfl rfl rfl rfl rfl ?_; clear HF a; intro a HF
      refine wl_skip HF rfl rfl rfl rfl rfl rfl ?_; clear HF a; intro a HF
      refine wl_y rfl HF rfl rfl (yl_pick_t rfl (HF.ev rfl) (HF.ev rfl)) ?_; clear HF a; intro a HF
      refine wpList_nil ?_
      exact on_mk ⟨HF.less _ ⟨rfl, rfl, rfl, rfl, (congrArg (fun z => some (Value.bool z)) (show (true : Bool) = (bif !(inB o.fKind 1 7) then true else (bif !(pathB o.fPath) then true else (bif (bif (o.fKind == 6) then true else (o.fKind == 7)) then (bif !(pathB o.fTo) then true else false) else (!(o.fTo.toList == (⟨#[]⟩ : ByteArray).toList))))) from (by (try rw [cc3]); (try rw [cc4]); (try rw [cc5]); (try rw [cc6]); first | done | rfl))), trivial⟩, HS.out⟩
     ·clear HF; have HF := HF1; clear HF1
      refine wl_yg HF rfl rfl rfl rfl rfl (yl_move rfl (HF.ev rfl)) ?_; clear HF a; intro a HF
      refine wl_yg HF rfl rfl rfl rfl rfl (yl_not rfl (HF.ev rfl)) ?_; clear HF a; intro a HF
      refine wl_yg HF rfl rfl rfl rfl rfl (yl_move rfl (HF.ev rfl)) ?_; clear HF a; intro a HF
      refine HF.cases 43 rfl (fun cc7 HF1 => ?_) (fun cc7 HF1 => ?_)
      ·clear HF; have HF := HF1; clear HF1
       rw [cc5] at cc7; cases cc7
      ·clear HF; have HF := HF1; clear HF1
       refine wl_skip HF rfl rfl rfl rfl rfl rfl ?_; clear HF a; intro a HF
       refine wl_skip HF rfl rfl rfl rfl rfl rfl ?_; clear HF a; intro a HF
       refine wl_skip HF rfl rfl rfl rfl rfl rfl ?_; clear HF a; intro a HF
       refine wl_yg HF rfl rfl rfl rfl rfl (yl_pick_f rfl (HF.ev rfl) (HF.ev rfl)) ?_; clear HF a; intro a HF
       refine wl_y rfl HF rfl rfl (yl_pick_f rfl (HF.ev rfl) (HF.ev rfl)) ?_; clear HF a; intro a HF
       refine wpList_nil ?_
       exact on_mk ⟨HF.less _ ⟨rfl, rfl, rfl, rfl, (congrArg (fun z => some (Value.bool z)) (show (false : Bool) = (bif !(inB o.fKind 1 7) then true else (bif !(pathB o.fPath) then true else (bif (bif (o.fKind == 6) then true else (o.fKind == 7)) then (bif !(pathB o.fTo) then true else false) else (!(o.fTo.toList == (⟨#[]⟩ : ByteArray).toList))))) from (by (try rw [cc3]); (try rw [cc4]); (try rw [cc5]); (try rw [cc6]); (try rw [cc7]); first | done | rfl))), trivial⟩, HS.out⟩
    ·clear HF; have HF := HF1; clear HF1
     refine wl_skip HF rfl rfl rfl rfl rfl rfl ?_; clear HF a; intro a HF
     refine wl_skip HF rfl rfl rfl rfl rfl rfl ?_; clear HF a; intro a HF
     refine wl_skip HF rfl rfl rfl rfl rfl rfl ?_; clear HF a; intro a HF
     refine wl_skip HF rfl rfl rfl rfl rfl rfl ?_; clear HF a; intro a HF
     refine wl_yg HF rfl rfl rfl rfl rfl (yl_pick_f rfl (HF.ev rfl) (HF.ev rfl)) ?_; clear HF a; intro a HF
     refine wl_y rfl HF rfl rfl (yl_pick_f rfl (HF.ev rfl) (HF.ev rfl)) ?_; clear HF a; intro a HF
     refine wl_mv HF rfl rfl rfl rfl rfl ?_; clear HF a; intro a HF
     refine wl_yg HF rfl rfl rfl rfl rfl (yl_move rfl (HF.ev rfl)) ?_; clear HF a; intro a HF
     refine wl_yg HF rfl rfl rfl rfl rfl (yl_not rfl (HF.ev rfl)) ?_; clear HF a; intro a HF
     refine wl_yg HF rfl rfl rfl rfl rfl (yl_move rfl (HF.ev rfl)) ?_; clear HF a; intro a HF
     refine HF.cases 43 rfl (fun cc8 HF1 => ?_) (fun cc8 HF1 => ?_)
     ·clear HF; have HF := HF1; clear HF1
      refine wl_yg HF rfl rfl rfl rfl rfl (yl_fieldAddr (j := 2) rfl (HF.ev rfl) (by kernel_rfl)) ?_; clear HF a; intro a HF
      refine wl_yg HF rfl rfl rfl rfl rfl (yl_load (v := .string o.fTo) rfl (HF.ev rfl) (((HS.out.box 0 rfl).cell 2).trans rfl) (by kernel_rfl)) ?_; clear HF a; intro a HF
      refine wl_yg HF rfl rfl rfl rfl rfl (yl_neqS rfl (HF.ev rfl) (HF.ev rfl)) ?_; clear HF a; intro a HF
      refine wl_yg HF rfl rfl rfl rfl rfl (yl_pick_t rfl (HF.ev rfl) (HF.ev rfl)) ?_; clear HF a; intro a HF
      refine wl_y rfl HF rfl rfl (yl_pick_f rfl (HF.ev rfl) (HF.ev rfl)) ?_; clear HF a; intro a HF
      refine wpList_nil ?_
      exact on_mk ⟨HF.less _ ⟨rfl, rfl, rfl, rfl, (congrArg (fun z => some (Value.bool z)) (show ((!(o.fTo.toList == (⟨#[]⟩ : ByteArray).toList)) : Bool) = (bif !(inB o.fKind 1 7) then true else (bif !(pathB o.fPath) then true else (bif (bif (o.fKind == 6) then true else (o.fKind == 7)) then (bif !(pathB o.fTo) then true else false) else (!(o.fTo.toList == (⟨#[]⟩ : ByteArray).toList))))) from (by (try rw [cc3]); (try rw [cc4]); (try rw [cc5]); (try rw [cc8]); first | done | rfl))), trivial⟩, HS.out⟩
     ·clear HF; have HF := HF1; clear HF1
      rw [cc5] at cc8; cases cc8
 clear HF HS a; rintro a w7 ⟨HF, HS⟩; replace HS := Bx.mk HS
 refine ex_then ?_
 refine HF.cases 48 rfl (fun cc9 HF1 => ?_) (fun cc9 HF1 => ?_)
 ·clear HF; have HF := HF1; clear HF1
  refine wc_true HF rfl ?_
  refine wp_sr ?_
  refine wl_as HF rfl rfl rfl rfl rfl ?_; clear HF a; intro a HF
  refine wl_ne ?_
  refine wp_ret ?_
  refine ex_then_ret ?_
  refine bp_ret1 HF Tryz.results88 (HF.res rfl) ?_
  have k1 : (inB o.fKind 1 7 && pathB o.fPath && o.toOk) = false := by have := cc9; rw [spTo_tree] at this; cases hX : (inB o.fKind 1 7 && pathB o.fPath && o.toOk) with | false => rfl | true => rw [hX] at this; cases this
  exact ⟨by unfold OpD.ok; rw [k1]; rfl, HS.out.bel⟩
 ·clear HF; have HF := HF1; clear HF1
  refine wc_false HF rfl ?_
  refine wp_skip ?_
  refine ex_then ?_
  refine wp_seq ?_
  refine wp_seq ?_
  refine wp_join (R := fun a w => Fr 74 a [(0, .agg #[.int .i64 o.fKind, .string o.fPath, .string o.fTo, .int .i64 o.fAt, .string o.fText]), (1, .pointer (some ⟨b1, 0, none⟩)), (2, .bool false), (4, .bool (bif (o.fKind == 3) then true else (o.fKind == 4))), (48, .bool false), (62, .bool (bif (o.fKind != 3) then (bif (!(o.fText.toList == (⟨#[]⟩ : ByteArray).toList)) then true else (decide ((24 : Int) < (o.fText.size : Int)))) else (decide ((24 : Int) < (o.fText.size : Int)))))] ∧ St w0 ([boxA b1 5 53 (.agg #[.int .i64 o.fKind, .string o.fPath, .string o.fTo, .int .i64 o.fAt, .string o.fText])]) w) ?_ ?_
  ·skip
   refine wp_region_lit ?_
   refine wl_y rfl HF rfl rfl (yl_fieldAddr (j := 0) rfl (HF.ev rfl) (by kernel_rfl)) ?_; clear HF a; intro a HF
   refine wl_y rfl HF rfl rfl (yl_load (v := .int .i64 o.fKind) rfl (HF.ev rfl) (((HS.out.box 0 rfl).cell 0).trans rfl) (by kernel_rfl)) ?_; clear HF a; intro a HF
   refine wl_y rfl HF rfl rfl (yl_neqI rfl (HF.ev rfl) (HF.ev rfl)) ?_; clear HF a; intro a HF
   refine wl_mv HF rfl rfl rfl rfl rfl ?_; clear HF a; intro a HF
   refine HF.cases 52 rfl (fun cc10 HF1 => ?_) (fun cc10 HF1 => ?_)
   ·clear HF; have HF := HF1; clear HF1
    have dcc10 := bne_iff_ne.1 cc10
    refine wl_yg HF rfl rfl rfl rfl rfl (yl_fieldAddr (j := 4) rfl (HF.ev rfl) (by kernel_rfl)) ?_; clear HF a; intro a HF
    refine wl_yg HF rfl rfl rfl rfl rfl (yl_load (v := .string o.fText) rfl (HF.ev rfl) (((HS.out.box 0 rfl).cell 4).trans rfl) (by kernel_rfl)) ?_; clear HF a; intro a HF
    refine wl_yg HF rfl rfl rfl rfl rfl (yl_neqS rfl (HF.ev rfl) (HF.ev rfl)) ?_; clear HF a; intro a HF
    refine wl_y rfl HF rfl rfl (yl_pick_t rfl (HF.ev rfl) (HF.ev rfl)) ?_; clear HF a; intro a HF
    refine wl_mv HF rfl rfl rfl rfl rfl ?_; clear HF a; intro a HF
    refine HF.cases 57 rfl (fun cc11 HF1 => ?_) (fun cc11 HF1 => ?_)
    ·clear HF; have HF := HF1; clear HF1
     refine wl_skip HF rfl rfl rfl rfl rfl rfl ?_; clear HF a; intro a HF
     refine wl_skip HF rfl rfl rfl rfl rfl rfl ?_; clear HF a; intro a HF
     refine wl_skip HF rfl rfl rfl rfl rfl rfl ?_; clear HF a; intro a HF
     refine wl_skip HF rfl rfl rfl rfl rfl rfl ?_; clear HF a; intro a HF
     refine wl_y rfl HF rfl rfl (yl_pick_t rfl (HF.ev rfl) (HF.ev rfl)) ?_; clear HF a; intro a HF
     refine wpList_nil ?_
     exact on_mk ⟨HF.less _ ⟨rfl, rfl, rfl, rfl, rfl, (congrArg (fun z => some (Value.bool z)) (show (true : Bool) = (bif (o.fKind != 3) then (bif (!(o.fText.toList == (⟨#[]⟩ : ByteArray).toList)) then true else (decide ((24 : Int) < (o.fText.size : Int)))) else (decide ((24 : Int) < (o.fText.size : Int)))) from (by (try rw [cc10]); (try rw [cc11]); first | done | rfl))), trivial⟩, HS.out⟩
    ·clear HF; have HF := HF1; clear HF1
     refine wl_yg HF rfl rfl rfl rfl rfl (yl_fieldAddr (j := 4) rfl (HF.ev rfl) (by kernel_rfl)) ?_; clear HF a; intro a HF
     refine wl_yg HF rfl rfl rfl rfl rfl (yl_load (v := .string o.fText) rfl (HF.ev rfl) (((HS.out.box 0 rfl).cell 4).trans rfl) (by kernel_rfl)) ?_; clear HF a; intro a HF
     refine wl_yg HF rfl rfl rfl rfl rfl (yl_lenS rfl (HF.ev rfl) (by kernel_rfl)) ?_; clear HF a; intro a HF
     refine wl_yg HF rfl rfl rfl rfl rfl (yl_gtrI rfl (HF.ev rfl) (HF.ev rfl)) ?_; clear HF a; intro a HF
     refine wl_y rfl HF rfl rfl (yl_pick_f rfl (HF.ev rfl) (HF.ev rfl)) ?_; clear HF a; intro a HF
     refine wpList_nil ?_
     exact on_mk ⟨HF.less _ ⟨rfl, rfl, rfl, rfl, rfl, (congrArg (fun z => some (Value.bool z)) (show ((decide ((24 : Int) < (o.fText.size : Int))) : Bool) = (bif (o.fKind != 3) then (bif (!(o.fText.toList == (⟨#[]⟩ : ByteArray).toList)) then true else (decide ((24 : Int) < (o.fText.size : Int)))) else (decide ((24 : Int) < (o.fText.size : Int)))) from (by (try rw [cc10]); (try rw [cc11]); first | done | rfl))), trivial⟩, HS.out⟩
   ·clear HF; have HF := HF1; clear HF1
    have dcc10 := bne_eq_false_iff_eq.1 cc10
    refine wl_skip HF rfl rfl rfl rfl rfl rfl ?_; clear HF a; intro a HF
    refine wl_skip HF rfl rfl rfl rfl rfl rfl ?_; clear HF a; intro a HF
    refine wl_skip HF rfl rfl rfl rfl rfl rfl ?_; clear HF a; intro a HF
    refine wl_y rfl HF rfl rfl (yl_pick_f rfl (HF.ev rfl) (HF.ev rfl)) ?_; clear HF a; intro a HF
    refine wl_mv HF rfl rfl rfl rfl rfl ?_; clear HF a; intro a HF
    refine wl_yg HF rfl rfl rfl rfl rfl (yl_fieldAddr (j := 4) rfl (HF.ev rfl) (by kernel_rfl)) ?_; clear HF a; intro a HF
    refine wl_yg HF rfl rfl rfl rfl rfl (yl_load (v := .string o.fText) rfl (HF.ev rfl) (((HS.out.box 0 rfl).cell 4).trans rfl) (by kernel_rfl)) ?_; clear HF a; intro a HF
    refine wl_yg HF rfl rfl rfl rfl rfl (yl_lenS rfl (HF.ev rfl) (by kernel_rfl)) ?_; clear HF a; intro a HF
    refine wl_yg HF rfl rfl rfl rfl rfl (yl_gtrI rfl (HF.ev rfl) (HF.ev rfl)) ?_; clear HF a; intro a HF
    refine wl_y rfl HF rfl rfl (yl_pick_f rfl (HF.ev rfl) (HF.ev rfl)) ?_; clear HF a; intro a HF
    refine wpList_nil ?_
    exact on_mk ⟨HF.less _ ⟨rfl, rfl, rfl, rfl, rfl, (congrArg (fun z => some (Value.bool z)) (show ((decide ((24 : Int) < (o.fText.size : Int))) : Bool) = (bif (o.fKind != 3) then (bif (!(o.fText.toList == (⟨#[]⟩ : ByteArray).toList)) then true else (decide ((24 : Int) < (o.fText.size : Int)))) else (decide ((24 : Int) < (o.fText.size : Int)))) from (by (try rw [cc10]); first | done | rfl))), trivial⟩, HS.out⟩
  clear HF HS a; rintro a w8 ⟨HF, HS⟩; replace HS := Bx.mk HS
  refine ex_then ?_
  refine HF.cases 62 rfl (fun cc12 HF1 => ?_) (fun cc12 HF1 => ?_)
  ·clear HF; have HF := HF1; clear HF1
   refine wc_true HF rfl ?_
   refine wp_sr ?_
   refine wl_as HF rfl rfl rfl rfl rfl ?_; clear HF a; intro a HF
   refine wl_ne ?_
   refine wp_ret ?_
   refine ex_then_ret ?_
   refine bp_ret1 HF Tryz.results88 (HF.res rfl) ?_
   have k1 : (inB o.fKind 1 7 && pathB o.fPath && o.toOk) = true := by have := cc9; rw [spTo_tree] at this; simpa using this
   have k4 : o.textOk = false := by have := cc12; rw [spText_tree] at this; simpa using this
   exact ⟨by unfold OpD.ok; rw [k4, Bool.and_false], HS.out.bel⟩
  ·clear HF; have HF := HF1; clear HF1
   refine wc_false HF rfl ?_
   refine wp_skip ?_
   refine ex_then ?_
   refine wp_seq ?_
   refine wp_join (R := fun a w => Fr 74 a [(0, .agg #[.int .i64 o.fKind, .string o.fPath, .string o.fTo, .int .i64 o.fAt, .string o.fText]), (1, .pointer (some ⟨b1, 0, none⟩)), (2, .bool (bif (o.fAt == 0) then true else (bif (bif (o.fKind == 3) then true else (o.fKind == 4)) then (inB o.fAt 0 192) else false))), (48, .bool false), (62, .bool false)] ∧ St w0 ([boxA b1 5 53 (.agg #[.int .i64 o.fKind, .string o.fPath, .string o.fTo, .int .i64 o.fAt, .string o.fText])]) w) ?_ ?_
   ·skip
    refine wp_region_lit ?_
    refine wl_y rfl HF rfl rfl (yl_fieldAddr (j := 3) rfl (HF.ev rfl) (by kernel_rfl)) ?_; clear HF a; intro a HF
    refine wl_y rfl HF rfl rfl (yl_load (v := .int .i64 o.fAt) rfl (HF.ev rfl) (((HS.out.box 0 rfl).cell 3).trans rfl) (by kernel_rfl)) ?_; clear HF a; intro a HF
    refine wl_y rfl HF rfl rfl (yl_eqlI rfl (HF.ev rfl) (HF.ev rfl)) ?_; clear HF a; intro a HF
    refine wl_mv HF rfl rfl rfl rfl rfl ?_; clear HF a; intro a HF
    refine HF.cases 66 rfl (fun cc13 HF1 => ?_) (fun cc13 HF1 => ?_)
    ·clear HF; have HF := HF1; clear HF1
     have dcc13 := eq_of_beq cc13
     refine wl_skip HF rfl rfl rfl rfl rfl rfl ?_; clear HF a; intro a HF
     refine wl_skip HF rfl rfl rfl rfl rfl rfl ?_; clear HF a; intro a HF
     refine wl_skipU HF rfl rfl rfl rfl rfl ?_; clear HF a; intro a HF
     refine wl_skipU HF rfl rfl rfl rfl rfl ?_; clear HF a; intro a HF
     refine wl_skipU HF rfl rfl rfl rfl rfl ?_; clear HF a; intro a HF
     refine wl_skip HF rfl rfl rfl rfl rfl rfl ?_; clear HF a; intro a HF
     refine wl_y rfl HF rfl rfl (yl_pick_t rfl (HF.ev rfl) (HF.ev rfl)) ?_; clear HF a; intro a HF
     refine wl_as HF rfl rfl rfl rfl rfl ?_; clear HF a; intro a HF
     refine wpList_nil ?_
     exact on_mk ⟨HF.less _ ⟨rfl, rfl, (congrArg (fun z => some (Value.bool z)) (show (true : Bool) = (bif (o.fAt == 0) then true else (bif (bif (o.fKind == 3) then true else (o.fKind == 4)) then (inB o.fAt 0 192) else false)) from (by (try rw [cc13]); first | done | rfl))), rfl, rfl, trivial⟩, HS.out⟩
    ·clear HF; have HF := HF1; clear HF1
     have dcc13 := ne_of_beq_false cc13
     refine wl_yg HF rfl rfl rfl rfl rfl (yl_move rfl (HF.ev rfl)) ?_; clear HF a; intro a HF
     refine wl_yg HF rfl rfl rfl rfl rfl (yl_move rfl (HF.ev rfl)) ?_; clear HF a; intro a HF
     refine HF.cases 68 rfl (fun cc14 HF1 => ?_) (fun cc14 HF1 => ?_)
     ·clear HF; have HF := HF1; clear HF1
      refine wl_yg HF rfl rfl rfl rfl rfl (yl_fieldAddr (j := 3) rfl (HF.ev rfl) (by kernel_rfl)) ?_; clear HF a; intro a HF
      refine wl_yg HF rfl rfl rfl rfl rfl (yl_load (v := .int .i64 o.fAt) rfl (HF.ev rfl) (((HS.out.box 0 rfl).cell 3).trans rfl) (by kernel_rfl)) ?_; clear HF a; intro a HF
      refine wl_callBg HF rfl rfl rfl rfl (enter_of Tryz.func61 (by kernel_rfl) rfl) (args := #[.int .i64 o.fAt, .int .i64 0, .int .i64 192]) rfl (v := .bool (inB o.fAt 0 192)) (((l6In_any o.fAt 0 192 _).mono fun _ _ h => ⟨h.1, h.2 ▸ Below.refl _ _⟩)) rfl rfl HS.out ?_; clear HF HS a; intro w9 a HS HF; replace HS := Bx.mk HS
      refine wl_yg HF rfl rfl rfl rfl rfl (yl_pick_t rfl (HF.ev rfl) (HF.ev rfl)) ?_; clear HF a; intro a HF
      refine wl_y rfl HF rfl rfl (yl_pick_f rfl (HF.ev rfl) (HF.ev rfl)) ?_; clear HF a; intro a HF
      refine wl_as HF rfl rfl rfl rfl rfl ?_; clear HF a; intro a HF
      refine wpList_nil ?_
      exact on_mk ⟨HF.less _ ⟨rfl, rfl, (congrArg (fun z => some (Value.bool z)) (show (inB o.fAt 0 192 : Bool) = (bif (o.fAt == 0) then true else (bif (bif (o.fKind == 3) then true else (o.fKind == 4)) then (inB o.fAt 0 192) else false)) from (by (try rw [cc13]); (try rw [cc14]); first | done | rfl))), rfl, rfl, trivial⟩, HS.out⟩
     ·clear HF; have HF := HF1; clear HF1
      refine wl_skip HF rfl rfl rfl rfl rfl rfl ?_; clear HF a; intro a HF
      refine wl_skip HF rfl rfl rfl rfl rfl rfl ?_; clear HF a; intro a HF
      refine wl_skip HF rfl rfl rfl rfl rfl rfl ?_; clear HF a; intro a HF
      refine wl_yg HF rfl rfl rfl rfl rfl (yl_pick_f rfl (HF.ev rfl) (HF.ev rfl)) ?_; clear HF a; intro a HF
      refine wl_y rfl HF rfl rfl (yl_pick_f rfl (HF.ev rfl) (HF.ev rfl)) ?_; clear HF a; intro a HF
      refine wl_as HF rfl rfl rfl rfl rfl ?_; clear HF a; intro a HF
      refine wpList_nil ?_
      exact on_mk ⟨HF.less _ ⟨rfl, rfl, (congrArg (fun z => some (Value.bool z)) (show (false : Bool) = (bif (o.fAt == 0) then true else (bif (bif (o.fKind == 3) then true else (o.fKind == 4)) then (inB o.fAt 0 192) else false)) from (by (try rw [cc13]); (try rw [cc14]); first | done | rfl))), rfl, rfl, trivial⟩, HS.out⟩
   clear HF HS a; rintro a w10 ⟨HF, HS⟩; replace HS := Bx.mk HS
   refine ex_then ?_
   refine wp_ret ?_
   refine bp_ret1 HF Tryz.results88 (HF.res rfl) ?_
   have k1 : (inB o.fKind 1 7 && pathB o.fPath && o.toOk) = true := by have := cc9; rw [spTo_tree] at this; simpa using this
   have k4 : o.textOk = true := by have := cc12; rw [spText_tree] at this; simpa using this
   exact ⟨by rw [OpD.ok_mk2 (by simpa using k1) k4, ← spAt_tree], HS.out.bel⟩

end Go.Proofs.YtoaopmkbfifhaaaGreatDoor
