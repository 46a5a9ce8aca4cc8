/- A part of the proof in YtigjfacaofgjjaaGreatDoorWrZ33. -/
import Derived.Laws.RangeAny
import Derived.Lib.IndexBytes
import Derived.Lib.IndexLaws
import Derived.Lib.Join
import Derived.Lib.Split
import Derived.Lib.SplitLaws
import Derived.Shelf.GgClosure.StringsIndexFunc
import Derived.Test.YtigjfacaofgjjaaGreatDoorWrZ12
namespace Go.Proofs.YtigjfacaofgjjaaGreatDoor
set_option linter.unusedVariables false
set_option linter.unusedSimpArgs false
set_option maxHeartbeats 1000000
set_option maxRecDepth 100000
open Go.RowKit Go.Lib
def splitL (c : UInt8) : List UInt8 → List (List UInt8)
  | [] => [[]]
  | b :: t => if b = c then [] :: splitL c t else match splitL c t with
    | h :: r => (b :: h) :: r
    | [] => [[b]]
theorem ZbM (c : UInt8) (l : List UInt8) : ∃ h r, splitL c l = h :: r := by
  cases l with
  | nil => exact ⟨_, _, rfl⟩
  | cons b t =>
    unfold splitL
    split
    · exact ⟨_, _, rfl⟩
    · split
      · exact ⟨_, _, rfl⟩
      · exact ⟨_, _, rfl⟩
theorem Ug (c : UInt8) (t : List UInt8) : splitL c (c :: t) = [] :: splitL c t := by
  conv => lhs; unfold splitL
  rw [if_pos rfl]
theorem XM {b c : UInt8} (t : List UInt8) (h : b ≠ c) {x : List UInt8} {r : List (List UInt8)} (hs : splitL c t = x :: r) : splitL c (b :: t) = (b :: x) :: r := by
  conv => lhs; unfold splitL
  rw [if_neg h, hs]
theorem Jc (c : UInt8) : ∀ (l : List UInt8), (∀ x ∈ l, x ≠ c) → splitL c l = [l]
  | [], _ => rfl
  | b :: t, h => XM t (h b (List.mem_cons_self ..)) (Jc c t fun x hx => h x (List.mem_cons_of_mem _ hx))
theorem QS (c : UInt8) (b : List UInt8) : ∀ (a : List UInt8), (∀ x ∈ a, x ≠ c) → splitL c (a ++ c :: b) = a :: splitL c b
  | [], _ => Ug c b
  | x :: a, h => XM _ (h x (List.mem_cons_self ..)) (QS c b a fun y hy => h y (List.mem_cons_of_mem _ hy))
theorem Zag (c : UInt8) : ∀ (l : List UInt8), (splitL c l).length = l.count c + 1
  | [] => rfl
  | b :: t => by
    by_cases h : b = c
    · subst h; rw [Ug, List.length_cons, Zag b t, List.count_cons_self]
    · obtain ⟨x, r, hs⟩ := ZbM c t
      have := Zag c t;rw [XM t h hs, List.length_cons, List.count_cons_of_ne h];rw [hs, List.length_cons] at this; exact this
theorem Zcm (c : UInt8) : ∀ (l : List UInt8), Go.Lib.join (splitL c l) [c] = l
  | [] => rfl
  | b :: t => by
    obtain ⟨x, r, hs⟩ := ZbM c t;have ih := Zcm c t;rw [hs, Go.Lib.join_cons] at ih
    by_cases h : b = c
    · subst h
      rw [Ug, hs, Go.Lib.join_cons];simp only [Go.Lib.joinTail, List.map_cons, List.flatten_cons, List.nil_append, List.cons_append] at ih ⊢;rw [ih]
    · rw [XM t h hs, Go.Lib.join_cons, List.cons_append, ih]
theorem ZdB (c : UInt8) : ∀ (l : List UInt8), Go.Lib.splitK [c] 0 (Go.Lib.count l [c]) l = splitL c l
  | [] => by
    rw [show Go.Lib.count [] [c] = 0 from Go.Lib.count_one c []]; rfl
  | b :: t => by
    have ih := ZdB c t
    by_cases h : b = c
    · subst h
      rw [Go.Lib.count_cons_eq, Nat.add_comm, Ug];unfold Go.Lib.splitK;have h0 : Go.Lib.index (b :: t) [b] = 0 := by unfold Go.Lib.index; simp
      rw [h0];simp only [show ((0 : Int) == -1) = false from rfl, Bool.false_eq_true, if_false, Int.toNat_zero, Nat.zero_add, List.take_zero, List.length_cons, List.length_nil, List.drop_succ_cons, List.drop_zero];rw [ih]
    · rw [Go.Lib.count_cons_ne b c t h]
      cases hk : Go.Lib.count t [c] with
      | zero =>
        rw [hk] at ih;have h1 : splitL c t = [t] := by rw [← ih]; rfl
        rw [XM t h h1]; rfl
      | succ k =>
        rw [hk] at ih;unfold Go.Lib.splitK at ih ⊢;have hi : Go.Lib.index (b :: t) [c] = if Go.Lib.index t [c] == -1 then -1 else Go.Lib.index t [c] + 1 := by
          conv => lhs; unfold Go.Lib.index
          rw [if_neg (by simp [List.isPrefixOf]; exact fun e => h e.symm)]
        have hge := Go.Lib.index_ge t [c]
        cases hm : (Go.Lib.index t [c] == -1) with
        | true =>
          have := Go.Lib.count_miss (beq_iff_eq.1 hm)
          omega
        | false =>
          rw [hm] at ih hi;simp only [Bool.false_eq_true, if_false] at ih hi;have hne : Go.Lib.index t [c] ≠ -1 := by simpa using hm
          obtain ⟨i, he⟩ : ∃ i : Nat, Go.Lib.index t [c] = i := ⟨(Go.Lib.index t [c]).toNat, by omega⟩;rw [he] at ih hi;rw [hi];rw [show ((((i : Nat) : Int) + 1) == -1) = false by simp; omega];simp only [Bool.false_eq_true, if_false];rw [show (((i : Nat) : Int) + 1).toNat = i + 1 by omega];rw [Int.toNat_natCast] at ih;rw [XM t h ih.symm];simp [List.take_succ_cons, List.drop_succ_cons]
def Zi (s : ByteArray) (c : UInt8) : List ByteArray := (splitL c s.data.toList).map fun l => ⟨l.toArray⟩
theorem ZaW (xs : List ByteArray) : (xs.map (·.data.toList)).map (fun l => (⟨l.toArray⟩ : ByteArray)) = xs := by
  rw [List.map_map]
  conv => rhs; rw [← List.map_id xs]
  exact List.map_congr_left fun x _ => by simp
theorem V9 (s : ByteArray) (c : UInt8) : Go.Lib.splitB ⟨#[c]⟩ 0 (Go.Lib.countB s ⟨#[c]⟩) s = Zi s c := by
  have h := Go.Lib.splitB_data (⟨#[c]⟩ : ByteArray) 0 (Go.Lib.countB s ⟨#[c]⟩) s;have h2 : Go.Lib.splitK [c] 0 (Go.Lib.countB s ⟨#[c]⟩) s.data.toList = splitL c s.data.toList := ZdB c _;rw [← ZaW (Go.Lib.splitB _ _ _ _), h];show (Go.Lib.splitK [c] 0 (Go.Lib.countB s ⟨#[c]⟩) s.data.toList).map _ = _;rw [h2]; rfl
theorem QT (s : ByteArray) (c : UInt8) : (Zi s c).length = s.data.toList.count c + 1 := by unfold Zi; rw [List.length_map, Zag]
def Z4 (s : ByteArray) (c : UInt8) : Nat → List ByteArray × Nat
  | 0 => ([], 0)
  | k + 1 => if s.get! k = c then ((Z4 s c k).1 ++ [s.extract (Z4 s c k).2 k], k + 1) else Z4 s c k
theorem VI {s : ByteArray} {c : UInt8} {k : Nat} (h : s.get! k = c) : Z4 s c (k + 1) = ((Z4 s c k).1 ++ [s.extract (Z4 s c k).2 k], k + 1) := by
  conv => lhs; unfold Z4
  rw [if_pos h]
theorem UD {s : ByteArray} {c : UInt8} {k : Nat} (h : s.get! k ≠ c) : Z4 s c (k + 1) = Z4 s c k := by
  conv => lhs; unfold Z4
  rw [if_neg h]
theorem ZaX (s : ByteArray) (c : UInt8) : ∀ k, (Z4 s c k).2 ≤ k
  | 0 => Nat.le_refl _
  | k + 1 => by
    by_cases h : s.get! k = c
    · rw [VI h]; exact Nat.le_refl _
    · rw [UD h]; exact Nat.le_succ_of_le (ZaX s c k)
theorem Zah (s : ByteArray) (c : UInt8) : ∀ k, (Z4 s c k).1.length ≤ k
  | 0 => Nat.le_refl _
  | k + 1 => by
    by_cases h : s.get! k = c
    · rw [VI h]; simp; exact Zah s c k
    · rw [UD h]; exact Nat.le_succ_of_le (Zah s c k)
theorem Jd {s : ByteArray} {k : Nat} (h : k < s.size) : s.data.toList[k]? = some (s.get! k) := by
  have hl := Zj s;rw [ZgP, List.getD_eq_getElem?_getD, List.getElem?_eq_getElem (by omega)]; rfl
theorem ZkV {s : ByteArray} {k : Nat} (h : k < s.size) : s.data.toList.drop k = s.get! k :: s.data.toList.drop (k + 1) := by
  have hl := Zj s;rw [List.drop_eq_getElem_cons (by omega)];rw [Option.some.inj ((List.getElem?_eq_getElem (show k < s.data.toList.length by omega)).symm.trans (Jd h))]
theorem ZdC (s : ByteArray) (c : UInt8) : ∀ k, k ≤ s.size →
    splitL c s.data.toList = (Z4 s c k).1.map (·.data.toList) ++ splitL c (s.data.toList.drop (Z4 s c k).2) ∧ ∀ x ∈ (s.data.toList.drop (Z4 s c k).2).take (k - (Z4 s c k).2), x ≠ c
  | 0, _ => ⟨by simp [Z4], by simp⟩
  | k + 1, hk => by
    obtain ⟨h1, h2⟩ := ZdC s c k (by omega);have hle := ZaX s c k;have hl := Zj s;have hget := ZkV (s := s) (k := k) (by omega);have hsp : s.data.toList.drop (Z4 s c k).2 = (s.data.toList.drop (Z4 s c k).2).take (k - (Z4 s c k).2) ++ s.data.toList.drop k := by
      conv => lhs; rw [← List.take_append_drop (k - (Z4 s c k).2) (s.data.toList.drop (Z4 s c k).2)]
      rw [List.drop_drop, show (Z4 s c k).2 + (k - (Z4 s c k).2) = k by omega]
    by_cases h : s.get! k = c
    · rw [VI h]
      refine ⟨?_, by simp⟩;rw [h1, hsp, hget, h, QS c _ _ h2, List.map_append];simp only [List.map_cons, List.map_nil, Z1, List.append_assoc, List.cons_append, List.nil_append]
    · rw [UD h]
      refine ⟨h1, fun x hx => ?_⟩;rw [show k + 1 - (Z4 s c k).2 = (k - (Z4 s c k).2) + 1 by omega, List.take_add_one] at hx;rcases List.mem_append.1 hx with hx | hx
      · exact h2 x hx
      · rw [List.getElem?_drop, show (Z4 s c k).2 + (k - (Z4 s c k).2) = k by omega] at hx
        rw [Jd (by omega)] at hx;obtain rfl : x = s.get! k := by simpa using hx
        exact h
def Zmp (s : ByteArray) (c : UInt8) : List ByteArray := (Z4 s c s.size).1 ++ [s.extract (Z4 s c s.size).2 s.size]
theorem Zcn (s : ByteArray) (c : UInt8) : Zmp s c = Zi s c := by
  obtain ⟨h1, h2⟩ := ZdC s c s.size (Nat.le_refl _);have hle := ZaX s c s.size;have hl := Zj s;have hall : (s.data.toList.drop (Z4 s c s.size).2).take (s.size - (Z4 s c s.size).2) = s.data.toList.drop (Z4 s c s.size).2 := List.take_of_length_le (by rw [List.length_drop]; omega);rw [hall] at h2;rw [Jc c _ h2] at h1;unfold Zi Zmp;rw [h1, List.map_append, ZaW]
  congr 1
  simp only [List.map_cons, List.map_nil]
  congr 1
  apply Yn
  rw [Z1, hall]
def XN (b : UInt8) : Bool := decide (97 ≤ b.toNat) && decide (b.toNat ≤ 122)
def Xt (s : ByteArray) : Bool := inB (s.size : Int) 1 4 && s.data.toList.all XN
def ZdD (r : Nat) : Bool := decide ((r : Int) < 97) || decide (122 < (r : Int))
theorem Zfc (b : UInt8) : ZdD b.toNat = !XN b := by
  unfold ZdD XN
  by_cases h1 : 97 ≤ b.toNat
  · by_cases h2 : b.toNat ≤ 122
    · rw [decide_eq_false (by omega), decide_eq_false (by omega), decide_eq_true h1, decide_eq_true h2]; rfl
    · rw [decide_eq_false (by omega), decide_eq_true (by omega), decide_eq_true h1, decide_eq_false h2]; rfl
  · rw [decide_eq_true (by omega), decide_eq_false h1]; rfl
theorem ZjL {r : Nat} (h : 128 ≤ r) : ZdD r = true := by
  unfold ZdD;rw [decide_eq_true (show 122 < (r : Int) by omega), Bool.or_true]
theorem UE {s : ByteArray} {k : Nat} (h : k < s.size) : (s.data.toList.drop k).all XN = (XN (s.get! k) && (s.data.toList.drop (k + 1)).all XN) := by rw [ZkV h, List.all_cons]
theorem ZbN {s : ByteArray} {k : Nat} (h : ¬ k < s.size) : (s.data.toList.drop k).all XN = true := by
  have hl := Zj s;rw [List.drop_eq_nil_of_le (by omega)]; rfl
theorem ZkW {s : ByteArray} {k : Nat} (h : k < s.size) : s[k]'h = s.get! k := by
  rw [ZgP, List.getD_eq_getElem?_getD, Array.getElem?_toList, Array.getElem?_eq_getElem (by exact h)]; rfl
theorem ZaY (s : ByteArray) : ∀ (f pos : Nat), s.size ≤ pos + f → decide (idxFuncFrom ZdD true s f pos < 0) = (s.data.toList.drop pos).all XN
  | 0, pos, h => by
    rw [ZbN (by omega)]; rfl
  | f + 1, pos, h => by
    unfold idxFuncFrom
    by_cases hp : pos < s.size
    · rw [if_pos hp, UE hp]
      have he := ZkW hp
      by_cases hb : (s.get! pos).toNat < 128
      · have hd := decode_ascii s pos hp (by rw [he]; exact hb)
        rw [hd, he];simp only
        cases hg : XN (s.get! pos) with
        | true =>
          rw [if_neg (by rw [Zfc, hg]; decide), ZaY s f (pos + 1) (by omega), Bool.true_and]
        | false =>
          rw [if_pos (by rw [Zfc, hg]; rfl), decide_eq_false (by omega)]; rfl
      · have hd := decode_high s pos hp (by rw [he]; omega)
        rw [if_pos (ZjL hd.1), decide_eq_false (by omega)];have : XN (s.get! pos) = false := by
          unfold XN;rw [decide_eq_false (show ¬ (s.get! pos).toNat ≤ 122 by omega), Bool.and_false]
        rw [this]; rfl
    · rw [if_neg hp, ZbN hp]; rfl
theorem ZkX (s : ByteArray) : decide (idxFunc ZdD true s < 0) = s.data.toList.all XN := ZaY s s.size 0 (by omega)
def slB : ByteArray := ⟨#[47]⟩
theorem ZgT {s : ByteArray} (h : (s.toList == (⟨#[]⟩ : ByteArray).toList) = false) : 0 < s.size := by
  rcases Nat.eq_zero_or_pos s.size with h0 | h0
  · have : s = ⟨#[]⟩ := by apply Yn; rw [Zj] at h0; exact List.length_eq_zero_iff.1 h0
    rw [this] at h; simp at h
  · exact h0
theorem Ju (t : ByteArray) (c : UInt8) : Qh (Zi t c) ⟨#[c]⟩ = t := by
  apply Yn
  show Go.Lib.join ((Zi t c).map (·.data.toList)) [c] = _;unfold Zi;rw [List.map_map];have : ((fun x : ByteArray => x.data.toList) ∘ fun l : List UInt8 => (⟨l.toArray⟩ : ByteArray)) = id := by funext l; rfl
  rw [this, List.map_id, Zcm]
end Go.Proofs.YtigjfacaofgjjaaGreatDoor
