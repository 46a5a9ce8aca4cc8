/- A part of the proof in YtigjfacaofgjjaaGreatDoorFlZ32. -/
import Derived.Laws.RangeAny
import Derived.Lib.IndexBytes
import Derived.Lib.IndexLaws
import Derived.Lib.Join
import Derived.Lib.Split
import Derived.Lib.SplitLaws
import Derived.Shelf.GgClosure.StringsIndexFunc
import Derived.Test.YtigjfacaofgjjaaGreatDoorFlZ12
namespace Go.Proofs.YtigjfacaofgjjaaGreatDoor
set_option linter.unusedVariables false
set_option linter.unusedSimpArgs false
set_option maxHeartbeats 1000000
set_option maxRecDepth 100000
open Go.RowKit Go.Lib
def splitL (c : UInt8) : List UInt8 → List (List UInt8)
  | [] => [[]]
  | b :: t => if b = c then [] :: splitL c t else match splitL c t with
    | h :: r => (b :: h) :: r
    | [] => [[b]]
theorem QA (c : UInt8) (l : List UInt8) : ∃ h r, splitL c l = h :: r := by
  cases l with
  | nil => exact ⟨_, _, rfl⟩
  | cons b t =>
    unfold splitL
    split
    · exact ⟨_, _, rfl⟩
    · split
      · exact ⟨_, _, rfl⟩
      · exact ⟨_, _, rfl⟩
theorem XM (c : UInt8) (t : List UInt8) : splitL c (c :: t) = [] :: splitL c t := by
  conv => lhs; unfold splitL
  rw [if_pos rfl]
theorem YK {b c : UInt8} (t : List UInt8) (h : b ≠ c) {x : List UInt8} {r : List (List UInt8)} (hs : splitL c t = x :: r) : splitL c (b :: t) = (b :: x) :: r := by
  conv => lhs; unfold splitL
  rw [if_neg h, hs]
theorem QU (c : UInt8) : ∀ (l : List UInt8), (∀ x ∈ l, x ≠ c) → splitL c l = [l]
  | [], _ => rfl
  | b :: t, h => YK t (h b (List.mem_cons_self ..)) (QU c t fun x hx => h x (List.mem_cons_of_mem _ hx))
theorem QB (c : UInt8) (b : List UInt8) : ∀ (a : List UInt8), (∀ x ∈ a, x ≠ c) → splitL c (a ++ c :: b) = a :: splitL c b
  | [], _ => XM c b
  | x :: a, h => YK _ (h x (List.mem_cons_self ..)) (QB c b a fun y hy => h y (List.mem_cons_of_mem _ hy))
theorem V4 (c : UInt8) : ∀ (l : List UInt8), (splitL c l).length = l.count c + 1
  | [] => rfl
  | b :: t => by
    by_cases h : b = c
    · subst h; rw [XM, List.length_cons, V4 b t, List.count_cons_self]
    · obtain ⟨x, r, hs⟩ := QA c t
      have := V4 c t;rw [YK t h hs, List.length_cons, List.count_cons_of_ne h];rw [hs, List.length_cons] at this; exact this
theorem ZdF (c : UInt8) (B : Nat) : ∀ (l : List UInt8), (∀ x ∈ splitL c l, x.length ≤ B) → l.length + 1 ≤ (splitL c l).length * (B + 1)
  | [], _ => by simp [splitL]
  | b :: t, h => by
    by_cases hb : b = c
    · subst hb
      rw [XM] at h ⊢;have := ZdF b B t fun x hx => h x (List.mem_cons_of_mem _ hx)
      rw [List.length_cons, List.length_cons, Nat.succ_mul]; omega
    · obtain ⟨x, r, hs⟩ := QA c t
      rw [YK t hb hs] at h ⊢
      cases B with
      | zero =>
        have := h (b :: x) (List.mem_cons_self ..);simp at this
      | succ B =>
        have h1 := h (b :: x) (List.mem_cons_self ..);rw [List.length_cons] at h1;have key : ∀ (l : List UInt8) (y : List UInt8) (r : List (List UInt8)), splitL c l = y :: r → (∀ z ∈ r, z.length ≤ B + 1) → l.length + 1 ≤ y.length + 1 + r.length * (B + 1 + 1) := by
          intro l
          induction l with
          | nil => intro y r e _; obtain ⟨rfl, rfl⟩ : [] = y ∧ [] = r := by simpa [splitL] using e
                   simp
          | cons a l ih =>
            intro y r e hz
            by_cases ha : a = c
            · subst ha
              rw [XM] at e
              injection e with e1 e2
              subst e1;obtain ⟨y', r', e'⟩ := QA a l;rw [e'] at e2;subst e2;have := ih y' r' e' fun z hz' => hz z (List.mem_cons_of_mem _ hz')
              have := hz y' (List.mem_cons_self ..);rw [List.length_cons, List.length_cons, Nat.succ_mul, List.length_nil]; omega
            · obtain ⟨y', r', e'⟩ := QA c l
              rw [YK l ha e'] at e
              injection e with e1 e2
              subst e1; subst e2;have := ih y' r' e' hz;rw [List.length_cons, List.length_cons]; omega
        have := key t x r hs fun z hz => h z (List.mem_cons_of_mem _ hz)
        rw [List.length_cons, List.length_cons, Nat.succ_mul]; omega
theorem Zcn (c : UInt8) : ∀ (l : List UInt8), Go.Lib.join (splitL c l) [c] = l
  | [] => rfl
  | b :: t => by
    obtain ⟨x, r, hs⟩ := QA c t;have ih := Zcn c t;rw [hs, Go.Lib.join_cons] at ih
    by_cases h : b = c
    · subst h
      rw [XM, hs, Go.Lib.join_cons];simp only [Go.Lib.joinTail, List.map_cons, List.flatten_cons, List.nil_append, List.cons_append] at ih ⊢;rw [ih]
    · rw [YK t h hs, Go.Lib.join_cons, List.cons_append, ih]
theorem ZdG (c : UInt8) : ∀ (l : List UInt8), Go.Lib.splitK [c] 0 (Go.Lib.count l [c]) l = splitL c l
  | [] => by
    rw [show Go.Lib.count [] [c] = 0 from Go.Lib.count_one c []]; rfl
  | b :: t => by
    have ih := ZdG c t
    by_cases h : b = c
    · subst h
      rw [Go.Lib.count_cons_eq, Nat.add_comm, XM];unfold Go.Lib.splitK;have h0 : Go.Lib.index (b :: t) [b] = 0 := by unfold Go.Lib.index; simp
      rw [h0];simp only [show ((0 : Int) == -1) = false from rfl, Bool.false_eq_true, if_false, Int.toNat_zero, Nat.zero_add, List.take_zero, List.length_cons, List.length_nil, List.drop_succ_cons, List.drop_zero];rw [ih]
    · rw [Go.Lib.count_cons_ne b c t h]
      cases hk : Go.Lib.count t [c] with
      | zero =>
        rw [hk] at ih;have h1 : splitL c t = [t] := by rw [← ih]; rfl
        rw [YK t h h1]; rfl
      | succ k =>
        rw [hk] at ih;unfold Go.Lib.splitK at ih ⊢;have hi : Go.Lib.index (b :: t) [c] = if Go.Lib.index t [c] == -1 then -1 else Go.Lib.index t [c] + 1 := by
          conv => lhs; unfold Go.Lib.index
          rw [if_neg (by simp [List.isPrefixOf]; exact fun e => h e.symm)]
        have hge := Go.Lib.index_ge t [c]
        cases hm : (Go.Lib.index t [c] == -1) with
        | true =>
          have := Go.Lib.count_miss (beq_iff_eq.1 hm)
          omega
        | false =>
          rw [hm] at ih hi;simp only [Bool.false_eq_true, if_false] at ih hi;have hne : Go.Lib.index t [c] ≠ -1 := by simpa using hm
          obtain ⟨i, he⟩ : ∃ i : Nat, Go.Lib.index t [c] = i := ⟨(Go.Lib.index t [c]).toNat, by omega⟩;rw [he] at ih hi;rw [hi];rw [show ((((i : Nat) : Int) + 1) == -1) = false by simp; omega];simp only [Bool.false_eq_true, if_false];rw [show (((i : Nat) : Int) + 1).toNat = i + 1 by omega];rw [Int.toNat_natCast] at ih;rw [YK t h ih.symm];simp [List.take_succ_cons, List.drop_succ_cons]
def Ze (s : ByteArray) (c : UInt8) : List ByteArray := (splitL c s.data.toList).map fun l => ⟨l.toArray⟩
theorem ZaL (xs : List ByteArray) : (xs.map (·.data.toList)).map (fun l => (⟨l.toArray⟩ : ByteArray)) = xs := by
  rw [List.map_map]
  conv => rhs; rw [← List.map_id xs]
  exact List.map_congr_left fun x _ => by simp
theorem VW (s : ByteArray) (c : UInt8) : Go.Lib.splitB ⟨#[c]⟩ 0 (Go.Lib.countB s ⟨#[c]⟩) s = Ze s c := by
  have h := Go.Lib.splitB_data (⟨#[c]⟩ : ByteArray) 0 (Go.Lib.countB s ⟨#[c]⟩) s;have h2 : Go.Lib.splitK [c] 0 (Go.Lib.countB s ⟨#[c]⟩) s.data.toList = splitL c s.data.toList := ZdG c _;rw [← ZaL (Go.Lib.splitB _ _ _ _), h];show (Go.Lib.splitK [c] 0 (Go.Lib.countB s ⟨#[c]⟩) s.data.toList).map _ = _;rw [h2]; rfl
theorem Xi (s : ByteArray) (c : UInt8) : (Ze s c).length = s.data.toList.count c + 1 := by unfold Ze; rw [List.length_map, V4]
def ZT (s : ByteArray) (c : UInt8) : Nat → List ByteArray × Nat
  | 0 => ([], 0)
  | k + 1 => if s.get! k = c then ((ZT s c k).1 ++ [s.extract (ZT s c k).2 k], k + 1) else ZT s c k
theorem VA {s : ByteArray} {c : UInt8} {k : Nat} (h : s.get! k = c) : ZT s c (k + 1) = ((ZT s c k).1 ++ [s.extract (ZT s c k).2 k], k + 1) := by
  conv => lhs; unfold ZT
  rw [if_pos h]
theorem Uk {s : ByteArray} {c : UInt8} {k : Nat} (h : s.get! k ≠ c) : ZT s c (k + 1) = ZT s c k := by
  conv => lhs; unfold ZT
  rw [if_neg h]
theorem ZaM (s : ByteArray) (c : UInt8) : ∀ k, (ZT s c k).2 ≤ k
  | 0 => Nat.le_refl _
  | k + 1 => by
    by_cases h : s.get! k = c
    · rw [VA h]; exact Nat.le_refl _
    · rw [Uk h]; exact Nat.le_succ_of_le (ZaM s c k)
theorem V5 (s : ByteArray) (c : UInt8) : ∀ k, (ZT s c k).1.length ≤ k
  | 0 => Nat.le_refl _
  | k + 1 => by
    by_cases h : s.get! k = c
    · rw [VA h]; simp; exact V5 s c k
    · rw [Uk h]; exact Nat.le_succ_of_le (V5 s c k)
theorem Qt {s : ByteArray} {k : Nat} (h : k < s.size) : s.data.toList[k]? = some (s.get! k) := by
  have hl := Zf s;rw [Zhn, List.getD_eq_getElem?_getD, List.getElem?_eq_getElem (by omega)]; rfl
theorem ZlG {s : ByteArray} {k : Nat} (h : k < s.size) : s.data.toList.drop k = s.get! k :: s.data.toList.drop (k + 1) := by
  have hl := Zf s;rw [List.drop_eq_getElem_cons (by omega)];rw [Option.some.inj ((List.getElem?_eq_getElem (show k < s.data.toList.length by omega)).symm.trans (Qt h))]
theorem ZdH (s : ByteArray) (c : UInt8) : ∀ k, k ≤ s.size →
    splitL c s.data.toList = (ZT s c k).1.map (·.data.toList) ++ splitL c (s.data.toList.drop (ZT s c k).2) ∧ ∀ x ∈ (s.data.toList.drop (ZT s c k).2).take (k - (ZT s c k).2), x ≠ c
  | 0, _ => ⟨by simp [ZT], by simp⟩
  | k + 1, hk => by
    obtain ⟨h1, h2⟩ := ZdH s c k (by omega);have hle := ZaM s c k;have hl := Zf s;have hget := ZlG (s := s) (k := k) (by omega);have hsp : s.data.toList.drop (ZT s c k).2 = (s.data.toList.drop (ZT s c k).2).take (k - (ZT s c k).2) ++ s.data.toList.drop k := by
      conv => lhs; rw [← List.take_append_drop (k - (ZT s c k).2) (s.data.toList.drop (ZT s c k).2)]
      rw [List.drop_drop, show (ZT s c k).2 + (k - (ZT s c k).2) = k by omega]
    by_cases h : s.get! k = c
    · rw [VA h]
      refine ⟨?_, by simp⟩;rw [h1, hsp, hget, h, QB c _ _ h2, List.map_append];simp only [List.map_cons, List.map_nil, ZV, List.append_assoc, List.cons_append, List.nil_append]
    · rw [Uk h]
      refine ⟨h1, fun x hx => ?_⟩;rw [show k + 1 - (ZT s c k).2 = (k - (ZT s c k).2) + 1 by omega, List.take_add_one] at hx;rcases List.mem_append.1 hx with hx | hx
      · exact h2 x hx
      · rw [List.getElem?_drop, show (ZT s c k).2 + (k - (ZT s c k).2) = k by omega] at hx
        rw [Qt (by omega)] at hx;obtain rfl : x = s.get! k := by simpa using hx
        exact h
def Zna (s : ByteArray) (c : UInt8) : List ByteArray := (ZT s c s.size).1 ++ [s.extract (ZT s c s.size).2 s.size]
theorem Zco (s : ByteArray) (c : UInt8) : Zna s c = Ze s c := by
  obtain ⟨h1, h2⟩ := ZdH s c s.size (Nat.le_refl _);have hle := ZaM s c s.size;have hl := Zf s;have hall : (s.data.toList.drop (ZT s c s.size).2).take (s.size - (ZT s c s.size).2) = s.data.toList.drop (ZT s c s.size).2 := List.take_of_length_le (by rw [List.length_drop]; omega);rw [hall] at h2;rw [QU c _ h2] at h1;unfold Ze Zna;rw [h1, List.map_append, ZaL]
  congr 1
  simp only [List.map_cons, List.map_nil]
  congr 1
  apply Ys
  rw [ZV, hall]
def Xy (b : UInt8) : Bool := decide (97 ≤ b.toNat) && decide (b.toNat ≤ 122)
def Ym (s : ByteArray) : Bool := inB (s.size : Int) 1 4 && s.data.toList.all Xy
def ZdI (r : Nat) : Bool := decide ((r : Int) < 97) || decide (122 < (r : Int))
theorem Zfz (b : UInt8) : ZdI b.toNat = !Xy b := by
  unfold ZdI Xy
  by_cases h1 : 97 ≤ b.toNat
  · by_cases h2 : b.toNat ≤ 122
    · rw [decide_eq_false (by omega), decide_eq_false (by omega), decide_eq_true h1, decide_eq_true h2]; rfl
    · rw [decide_eq_false (by omega), decide_eq_true (by omega), decide_eq_true h1, decide_eq_false h2]; rfl
  · rw [decide_eq_true (by omega), decide_eq_false h1]; rfl
theorem Zkr {r : Nat} (h : 128 ≤ r) : ZdI r = true := by
  unfold ZdI;rw [decide_eq_true (show 122 < (r : Int) by omega), Bool.or_true]
theorem Ul {s : ByteArray} {k : Nat} (h : k < s.size) : (s.data.toList.drop k).all Xy = (Xy (s.get! k) && (s.data.toList.drop (k + 1)).all Xy) := by rw [ZlG h, List.all_cons]
theorem ZbQ {s : ByteArray} {k : Nat} (h : ¬ k < s.size) : (s.data.toList.drop k).all Xy = true := by
  have hl := Zf s;rw [List.drop_eq_nil_of_le (by omega)]; rfl
theorem ZlH {s : ByteArray} {k : Nat} (h : k < s.size) : s[k]'h = s.get! k := by
  rw [Zhn, List.getD_eq_getElem?_getD, Array.getElem?_toList, Array.getElem?_eq_getElem (by exact h)]; rfl
theorem ZaN (s : ByteArray) : ∀ (f pos : Nat), s.size ≤ pos + f → decide (idxFuncFrom ZdI true s f pos < 0) = (s.data.toList.drop pos).all Xy
  | 0, pos, h => by
    rw [ZbQ (by omega)]; rfl
  | f + 1, pos, h => by
    unfold idxFuncFrom
    by_cases hp : pos < s.size
    · rw [if_pos hp, Ul hp]
      have he := ZlH hp
      by_cases hb : (s.get! pos).toNat < 128
      · have hd := decode_ascii s pos hp (by rw [he]; exact hb)
        rw [hd, he];simp only
        cases hg : Xy (s.get! pos) with
        | true =>
          rw [if_neg (by rw [Zfz, hg]; decide), ZaN s f (pos + 1) (by omega), Bool.true_and]
        | false =>
          rw [if_pos (by rw [Zfz, hg]; rfl), decide_eq_false (by omega)]; rfl
      · have hd := decode_high s pos hp (by rw [he]; omega)
        rw [if_pos (Zkr hd.1), decide_eq_false (by omega)];have : Xy (s.get! pos) = false := by
          unfold Xy;rw [decide_eq_false (show ¬ (s.get! pos).toNat ≤ 122 by omega), Bool.and_false]
        rw [this]; rfl
    · rw [if_neg hp, ZbQ hp]; rfl
theorem ZlI (s : ByteArray) : decide (idxFunc ZdI true s < 0) = s.data.toList.all Xy := ZaN s s.size 0 (by omega)
def ZaO (t : ByteArray) : Bool := decide ((Ze t 47).length ≤ 4) && (Ze t 47).all Ym
def slB : ByteArray := ⟨#[47]⟩
def X9 (s : ByteArray) : Bool := bif (s.toList == (⟨#[47]⟩ : ByteArray).toList) then true else (s.data.toList.head? == some 47 && ZaO (s.extract 1 s.size))
theorem Zhq {s : ByteArray} (h : (s.toList == (⟨#[47]⟩ : ByteArray).toList) = true) : X9 s = true := by unfold X9; rw [h]; rfl
theorem UQ {s : ByteArray} (h : (s.toList == (⟨#[47]⟩ : ByteArray).toList) = false) (h2 : (s.data.toList.head? == some 47) = false) : X9 s = false := by unfold X9; rw [h, h2]; rfl
theorem QC {s : ByteArray} (h : (s.toList == (⟨#[47]⟩ : ByteArray).toList) = false) (h2 : (s.data.toList.head? == some 47) = true) : X9 s = ZaO (s.extract 1 s.size) := by unfold X9; rw [h, h2]; rfl
theorem ZiY {t : ByteArray} (h : ZaO t = true) : t.size ≤ 19 := by
  unfold ZaO at h;rw [Bool.and_eq_true, List.all_eq_true, decide_eq_true_eq] at h;have h1 := ZdF 47 4 t.data.toList fun x hx => by
    have := h.2 ⟨x.toArray⟩ (List.mem_map.2 ⟨x, hx, rfl⟩);unfold Ym at this;rw [Bool.and_eq_true] at this;have := Zu this.1;rw [Zf] at this;simp at this
    omega
  have h2 : (splitL 47 t.data.toList).length ≤ 4 := by have := h.1; unfold Ze at this; rwa [List.length_map] at this
  rw [Zf];have : (splitL 47 t.data.toList).length * (4 + 1) ≤ 4 * 5 := Nat.mul_le_mul h2 (Nat.le_refl _)
  omega
theorem VB {s : ByteArray} : (s.extract 1 s.size).size = s.size - 1 := by
  have h := Zf s;rw [Zf, ZV, List.length_take, List.length_drop, ← h]; omega
theorem ZiZ {s : ByteArray} (h : 20 < (s.size : Int)) : ZaO (s.extract 1 s.size) = false := by
  cases hr : ZaO (s.extract 1 s.size) with
  | false => rfl
  | true => have := ZiY hr; rw [VB] at this; omega
def okN (xs : List ByteArray) : Bool := decide (xs.length ≤ 4) && xs.all Ym
theorem VC (t : ByteArray) : ZaO t = okN (Ze t 47) := rfl
theorem Zhr {s : ByteArray} (h : s.data.toList.head? = some 47) : Ze s 47 = ByteArray.empty :: Ze (s.extract 1 s.size) 47 := by
  have hl : s.data.toList = 47 :: s.data.toList.drop 1 := by
    cases hs : s.data.toList with
    | nil => rw [hs] at h; cases h
    | cons b t => rw [hs] at h; obtain rfl : b = 47 := by simpa using h
                  simp
  have hz := Zf s;have hx : (s.extract 1 s.size).data.toList = s.data.toList.drop 1 := by
    rw [ZV, List.take_of_length_le (by rw [List.length_drop]; omega)]
  unfold Ze;rw [hx]
  conv => lhs; rw [hl, XM]
  rfl
theorem Zhs {s : ByteArray} (h : 0 < s.size) : (s.data.toList.head? == some 47) = ((((s.get! 0).toNat : Nat) : Int) == 47) := by
  have hz := Zf s;have hg := Qt h;rw [List.head?_eq_getElem?, hg]
  by_cases hb : s.get! 0 = 47
  · rw [hb]; rfl
  · rw [beq_eq_false_iff_ne.2 (fun e => hb (Option.some.inj e))]
    symm
    rw [beq_eq_false_iff_ne];intro e;exact hb (UInt8.toNat_inj.1 (by show (s.get! 0).toNat = 47; omega))
theorem ZfA {s : ByteArray} (h : (s.data.toList.head? == some 47) = true) : slB ++ s.extract 1 s.size = s := by
  have h := eq_of_beq h
  apply Ys
  rw [ZH, ZV, List.take_of_length_le (by rw [List.length_drop, ← Zf]; omega)]
  cases hs : s.data.toList with
  | nil => rw [hs] at h; cases h
  | cons b t => rw [hs] at h; obtain rfl : b = 47 := by simpa using h
                rfl
theorem ZdJ {s : ByteArray} (h : (s.toList == (⟨#[]⟩ : ByteArray).toList) = false) : 0 < s.size := by
  rcases Nat.eq_zero_or_pos s.size with h0 | h0
  · have : s = ⟨#[]⟩ := by apply Ys; rw [Zf] at h0; exact List.length_eq_zero_iff.1 h0
    rw [this] at h; simp at h
  · exact h0
theorem ZlJ {s : ByteArray} (h : (s.toList == (⟨#[]⟩ : ByteArray).toList) = true) (hb : ∀ {a b : ByteArray}, (a.toList == b.toList) = true → a = b) : (s.data.toList.head? == some 47) = false := by
  rw [hb h]; rfl
theorem Qg (t : ByteArray) (c : UInt8) : Q1 (Ze t c) ⟨#[c]⟩ = t := by
  apply Ys
  show Go.Lib.join ((Ze t c).map (·.data.toList)) [c] = _;unfold Ze;rw [List.map_map];have : ((fun x : ByteArray => x.data.toList) ∘ fun l : List UInt8 => (⟨l.toArray⟩ : ByteArray)) = id := by funext l; rfl
  rw [this, List.map_id, Zcn]
theorem Zht (t : ByteArray) : Q1 (Ze t 47) slB = t := Qg t 47
end Go.Proofs.YtigjfacaofgjjaaGreatDoor
