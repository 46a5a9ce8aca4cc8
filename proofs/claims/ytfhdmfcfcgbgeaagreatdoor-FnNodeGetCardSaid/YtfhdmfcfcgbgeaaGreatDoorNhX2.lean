/- A part of the proof in YtfhdmfcfcgbgeaaGreatDoorNhX7. -/
import Derived.Laws.BytesArg
import Derived.Laws.RangeAny
import Derived.Lib.AppendIntMem
import Derived.Lib.Atoi
import Derived.Lib.IndexBytes
import Derived.Lib.IndexLaws
import Derived.Lib.IndexMore
import Derived.Lib.ItoaNum
import Derived.Lib.Join
import Derived.Lib.SlBytesConst
import Derived.Lib.Split
import Derived.Lib.SplitLaws
import Derived.LoopIn
import Derived.LoopN
import Derived.LoopNIn
import Derived.OwnWalkIn
import Derived.RangeFuncLeaves
import Derived.RangeFuncNested
import Derived.Shelf.Abstract
import Derived.Shelf.GgClosure.StringsIndexFunc
import Derived.Shelf.Small.Wraps
import Derived.Shelf.Strconv.Clone
import Derived.Shelf.Strings.Cut
import Derived.Shelf.Strings.FuncGrows
import Derived.Shelf.Strings.Split
import Derived.Shelf.Strings.SplitShaped
import Derived.Shelf.Vars
import Derived.TacticsInMore
import Derived.Test.YtfhdmfcfcgbgeaaGreatDoorNhX1
namespace Go.Proofs.YtfhdmfcfcgbgeaaGreatDoor
open Go.Proofs.Tryz
set_option linter.unusedVariables false
set_option linter.unusedSimpArgs false
set_option maxHeartbeats 1000000
set_option maxRecDepth 100000
open Go.RowKit
def Zy (n : Nat) : ByteArray := ⟨(Go.Lib.decDigits n).toArray⟩
theorem Yk (n : Nat) : (Zy n).data.toList = Go.Lib.decDigits n := rfl
theorem Zio {n : Nat} (h : n < 10) : Zy n = ⟨#[UInt8.ofNat (48 + n)]⟩ := by
 apply Yx; rw [Yk, Go.Lib.decDigits_one h]
theorem ZdB {n : Nat} (h : ¬ n < 10) : Zy n = Zy (n / 10) ++ ⟨#[UInt8.ofNat (48 + n % 10)]⟩ := by
 apply Yx; rw [ZC, Yk, Yk, Go.Lib.decDigits, dif_neg h]
theorem Zip {n k : Nat} (h : n < 10 ^ (k + 1)) : Go.Lib.nDigits n ≤ k + 1 := by
 induction k generalizing n with
 | zero => rw [Go.Lib.nDigits_small (by simpa using h)]; exact Nat.le_refl _
 | succ k ih =>
  by_cases hs : n < 10
  ·rw [Go.Lib.nDigits_small hs]; omega
  ·have := ih (n := n / 10) (by rw [Nat.pow_succ] at h; omega)
   rw [Go.Lib.nDigits_big hs]; omega
theorem Ze5 {n : Nat} : (Zy n).size = Go.Lib.nDigits n := by rw [Zh, Yk, Go.Lib.decDigits_length]
theorem Zao {n k : Nat} (h : n < 10 ^ (k + 1)) : (Zy n).size ≤ k + 1 := by rw [Ze5]; exact Zip h
theorem ZdC (n : Nat) : 1 ≤ (Zy n).size := by rw [Ze5]; exact Go.Lib.nDigits_pos n
theorem Uk {n : Nat} (h : n ≤ 9223372036854775807) : (Zy n).size ≤ 19 := Zao (k := 18) (by omega)
def ZdD : ByteArray := ⟨#[58]⟩
def ZI (n : Int) : ByteArray := if 0 ≤ n ∧ n ≤ 999999999 then Zy n.toNat else ByteArray.empty
theorem YR {n : Int} (h0 : 0 ≤ n) (h1 : n ≤ 999999999) : ZI n = Zy n.toNat := if_pos ⟨h0, h1⟩
theorem Zg4 {n : Int} (h : ¬ (0 ≤ n ∧ n ≤ 999999999)) : ZI n = ByteArray.empty := if_neg h
theorem Yr (n : Int) : (ZI n).size ≤ 9 := by
 unfold ZI; split
 ·exact Zao (k := 8) (by omega)
 ·exact Nat.zero_le _
def Z3 (l : List ByteArray) : ByteArray := l.foldl (fun a s => a ++ Zy s.size ++ ZdD ++ s) ByteArray.empty
theorem Zj8 (l : List ByteArray) (s : ByteArray) : Z3 (l ++ [s]) = Z3 l ++ Zy s.size ++ ZdD ++ s := by
 unfold Z3; rw [List.foldl_append]; rfl
theorem Ze6 (xs : List ByteArray) {k : Nat} (h : k < xs.length) : xs.take (k + 1) = xs.take k ++ [xs.getD k ByteArray.empty] := by
 rw [List.take_add_one, List.getElem?_eq_getElem h]; simp [List.getD, h]
theorem JC (xs : List ByteArray) {k : Nat} (h : k < xs.length) : Z3 (xs.take (k + 1)) = Z3 (xs.take k) ++ Zy (xs.getD k ByteArray.empty).size ++ ZdD ++ xs.getD k ByteArray.empty := by
 rw [Ze6 xs h, Zj8]
theorem Zl (a b : ByteArray) : (a ++ b).size = a.size + b.size := by rw [Zh, ZC, List.length_append, ← Zh, ← Zh]
theorem Ziq (l : List ByteArray) (a : ByteArray) : a.size ≤ (l.foldl (fun a s => a ++ Zy s.size ++ ZdD ++ s) a).size := by
 induction l generalizing a with
 | nil => exact Nat.le_refl _
 | cons s l ih =>
  refine Nat.le_trans ?_ (ih _);rw [Zl, Zl, Zl]; omega
theorem Ze7 (xs : List ByteArray) (k : Nat) : (Z3 (xs.take k)).size ≤ (Z3 xs).size := by
 conv => rhs; rw [← List.take_append_drop k xs]
 unfold Z3; rw [List.foldl_append]; exact Ziq _ _
theorem YD (xs : List ByteArray) {k : Nat} (h : k < xs.length) : (xs.getD k ByteArray.empty).size < (Z3 xs).size := by
 refine Nat.lt_of_lt_of_le ?_ (Ze7 xs (k + 1));rw [JC xs h, Zl, Zl, Zl];have : ZdD.size = 1 := rfl
 omega
def Ym (l : List ByteArray) : ByteArray × Bool := if l.length ≤ 60 ∧ (Z3 l).size ≤ 2048 then (Z3 l, true) else (ByteArray.empty, false)
theorem YZ {l : List ByteArray} (h : l.length ≤ 60) (hs : (Z3 l).size ≤ 2048) : Ym l = (Z3 l, true) := if_pos ⟨h, hs⟩
theorem JQ {l : List ByteArray} (h : ¬ l.length ≤ 60) : Ym l = (ByteArray.empty, false) := if_neg fun x => h x.1
theorem ZaH {l : List ByteArray} {k : Nat} (hs : ¬ (Z3 (l.take k)).size ≤ 2048) : Ym l = (ByteArray.empty, false) := if_neg fun x => hs (Nat.le_trans (Ze7 l k) x.2)
theorem ZdE {l : List ByteArray} {k : Nat} (hk : k < l.length) (hs : ¬ (l.getD k ByteArray.empty).size ≤ 2048) : Ym l = (ByteArray.empty, false) := if_neg fun x => by have := YD l hk; omega
def szs (xs : List ByteArray) : Prop := ∀ k, (xs.getD k ByteArray.empty).size ≤ 1099511627776
theorem Ul : szs [] := fun k => by simp
theorem Yz {x : ByteArray} {xs : List ByteArray} (h : x.size ≤ 1099511627776) (hs : szs xs) : szs (x :: xs) := fun k => by
 cases k with
 | zero => simpa using h
 | succ k => simpa using hs k
theorem ZbC {xs ys : List ByteArray} (hx : szs xs) (hy : szs ys) : szs (xs ++ ys) := fun k => by
 by_cases h : k < xs.length
 ·have := hx k
  simp only [List.getD_eq_getElem?_getD] at this ⊢;rw [List.getElem?_append_left h]; exact this
 ·have := hy (k - xs.length)
  simp only [List.getD_eq_getElem?_getD] at this ⊢;rw [List.getElem?_append_right (by omega)]; exact this
def UG (w : World) : Prop := Go.Lib.TabIs prog w "internal/strconv.uint64pow10" .u64 Go.Lib.pow10Tab
theorem Zj9 {P : Program} {w w' : World} {n : String} {cs : Array Value} (h : w.var? P n = some cs) (hb : Below w.heap.size w w') : w'.var? P n = some cs := by
 unfold World.var? at h ⊢
 cases hg : P.globalNamed n with
 | none => rw [hg] at h; exact h
 | some g =>
  rw [hg] at h;simp only [Option.bind_some] at h ⊢;have hlt : g < w.heap.size := by
   rcases Nat.lt_or_ge g w.heap.size with h' | h'
   ·exact h'
   ·simp [Array.getElem?_eq_none h'] at h
  rw [hb.block g hlt]; exact h
theorem UG.below {w w' : World} (h : UG w) (hb : Below w.heap.size w w') : UG w' := Zj9 h hb
theorem Zg5 (n : Nat) (hn : n ≤ 9223372036854775807) (w : World) (hT : UG w) : Calls prog 50 #[.int .i64 (n : Int)] w fun e w' => e = .returned (.string (Zy n)) ∧ Below w.heap.size w w' := by
 refine (Any.strconv_Itoa Zni (n : Int) (by omega) (by omega) w hT).mono ?_;rintro e w' ⟨rfl, k, os, rfl⟩;refine ⟨?_, Go.Lib.below_grow _ _ (Nat.le_refl _) _ _⟩;rw [Go.Lib.itoa, if_neg (by omega), Int.toNat_natCast]; rfl
def Zpp (b : Nat) (l : List UInt8) (w : World) (f : List Nat) : Prop :=
 ∃ p v, (p = Value.pointer none ∨ p = .pointer (some ⟨b, 0, none⟩)) ∧ w.heap[b]? = some (.cells #[p, v] 79 (0, 0)) ∧ w.ownsRowF 0 5 1 v l.length (Go.Lib.byteCells l) ∧ f = b :: v.ownBlock.toList ∧ v.ownBlock ≠ some b
def bldA (b : Nat) (l : List UInt8) : Asr := ⟨Zpp b l, by
 rintro w w' f _ hb ⟨p, v, hp, hh, ⟨h1, h2⟩, rfl, hne⟩;refine ⟨p, v, hp, (hb b (List.mem_cons_self ..)).trans hh, ⟨h1, ?_⟩, rfl, hne⟩;rcases h2 with h2 | ⟨g, cap, cur, fz, rfl, h0, hg, rest⟩
 ·exact .inl h2
 ·exact .inr ⟨g, cap, cur, fz, rfl, h0, (hb g (List.mem_cons_of_mem _ (by simp [Value.ownBlock]))).trans hg, rest⟩⟩
theorem St.bldNew {W w : World} {b : Nat} {F : List Asr} (h : St W (boxA b 2 79 (.agg #[.pointer none, .slice none 0 0]) :: F) w) : St W (bldA b [] :: F) w := by
 refine h.imp fun f hf _ _ => ?_;obtain ⟨rfl, cs, hc, _, _, hh⟩ := hf
 injection hc with hc
 rw [← hc] at hh;exact ⟨_, _, .inl rfl, hh, World.ownsRowF_nil w 0 _ 1, rfl, by simp [Value.ownBlock]⟩
theorem St.bldOf {W w : World} {b : Nat} {l : List UInt8} {F : List Asr} (h : St W (bldA b l :: F) w) : Go.Lib.IsBuilderF 79 5 W.heap.size b (Go.Lib.byteCells l) w := by
 obtain ⟨f, ⟨p, v, hp, hh, ⟨h1, h2⟩, rfl, hne⟩, _, hb⟩ := h.first
 have hA : Go.Lib.BuilderAtF 79 5 W.heap.size b p (Go.Lib.byteCells l) w := by
  refine ⟨(hb b (List.mem_cons_self ..)).1, v, hh, ⟨?_, ?_⟩, hne⟩
  ·rw [Nat.mul_one]
  ·rw [Go.Lib.byteCells_length]
   rcases h2 with h2 | ⟨g, cap, cur, fz, rfl, _, rest⟩
   ·exact .inl h2
   ·exact .inr ⟨g, cap, cur, fz, rfl, (hb g (List.mem_cons_of_mem _ (by simp [Value.ownBlock]))).1, rest⟩
 rcases hp with rfl | rfl
 ·exact .inl hA
 ·exact .inr hA
theorem St.bldMk {W w : World} {b : Nat} {l : List UInt8} (hw : Below W.heap.size W w) (h : Go.Lib.IsBuilderF 79 5 W.heap.size b (Go.Lib.byteCells l) w) : St W [bldA b l] w := by
 obtain ⟨p, hp, hB, v, hh, ⟨h1, h2⟩, hne⟩ : ∃ p, (p = Value.pointer none ∨ p = .pointer (some ⟨b, 0, none⟩)) ∧ Go.Lib.BuilderAtF 79 5 W.heap.size b p (Go.Lib.byteCells l) w := by
  rcases h with h | h
  ·exact ⟨_, .inl rfl, h⟩
  ·exact ⟨_, .inr rfl, h⟩
 rw [Go.Lib.byteCells_length] at h1 h2;have hlt : b < w.heap.size := by
  rcases Nat.lt_or_ge b w.heap.size with h' | h'
  ·exact h'
  ·simp [Array.getElem?_eq_none h'] at hh
 refine ⟨hw, b :: v.ownBlock.toList, ⟨b :: v.ownBlock.toList, [], by simp, ⟨p, v, hp, hh, ⟨by rw [Go.Lib.byteCells_length]; exact h1, ?_⟩, rfl, hne⟩, rfl⟩, ?_, ?_⟩
 ·rcases h2 with h2 | ⟨g, cap, cur, fz, hv, _, rest⟩
  ·exact .inl h2
  ·exact .inr ⟨g, cap, cur, fz, hv, Nat.zero_le _, rest⟩
 ·cases hv : v.ownBlock with
  | none => simp
  | some g => rw [hv] at hne; simp; exact fun e => hne (by rw [e])
 ·intro k hk
  rcases List.mem_cons.1 hk with rfl | hk
  ·exact ⟨hB, hlt⟩
  ·rcases h2 with ⟨rfl, _⟩ | ⟨g, cap, cur, fz, rfl, hg0, hg, _⟩
   ·simp [Value.ownBlock] at hk
   ·simp [Value.ownBlock] at hk
    subst hk;exact ⟨hg0, by
     rcases Nat.lt_or_ge k w.heap.size with h' | h'
     ·exact h'
     ·simp [Array.getElem?_eq_none h'] at hg⟩
theorem ZdF (w0 w : World) (b : Nat) (l : List UInt8) (s : ByteArray) (hl : l.length + s.size ≤ 140737488355328) (hS : St w0 [bldA b l] w) : Calls prog 49 #[.pointer (some ⟨b, 0, none⟩), .string s] w fun e w' => e = .returned (.tuple #[.int .i64 s.size, .nilIface]) ∧ St w0 [bldA b (l ++ s.data.toList)] w' := by
 refine (Any.Builder_WriteString_f Zpd Zjq w0.heap.size b _ s w hS.bldOf (by rw [Go.Lib.byteCells_length]; exact hl) hS.bel.size).mono ?_;rintro e w' ⟨rfl, h1, h2⟩;refine ⟨rfl, St.bldMk (hS.bel.trans h2) (.inr ?_)⟩;rw [Go.Lib.byteCells_append, ← Go.Lib.strCells_eq]; exact h1
theorem Zir (w0 w : World) (b : Nat) (l : List UInt8) (c : UInt8) (hl : l.length + 1 ≤ 140737488355328) (hS : St w0 [bldA b l] w) : Calls prog 51 #[.pointer (some ⟨b, 0, none⟩), .int .u8 (c.toNat : Int)] w fun e w' => e = .returned .nilIface ∧ St w0 [bldA b (l ++ [c])] w' := by
 refine (Any.Builder_WriteByte_k Zpf Zox w0.heap.size b _ (c.toNat : Int) w hS.bldOf (by rw [Go.Lib.byteCells_length]; exact hl) hS.bel.size).mono ?_;rintro e w' ⟨rfl, h1, h2, _⟩;refine ⟨rfl, St.bldMk (hS.bel.trans h2) (.inr ?_)⟩;rw [Go.Lib.byteCells_append]; exact h1
theorem Zis (w0 w : World) (b : Nat) (l : List UInt8) (hS : St w0 [bldA b l] w) : Calls prog 52 #[.pointer (some ⟨b, 0, none⟩)] w fun e w' => e = .returned (.int .i64 (l.length : Int)) ∧ Below w.heap.size w w' := by
 refine (Any.Builder_Len_f Zpg w0.heap.size b _ w hS.bldOf).mono ?_;rintro e w' ⟨rfl, rfl⟩;exact ⟨by rw [Go.Lib.byteCells_length], Below.refl _ _⟩
theorem Zit (w0 w : World) (b : Nat) (l : List UInt8) (hS : St w0 [bldA b l] w) : Calls prog 53 #[.pointer (some ⟨b, 0, none⟩)] w fun e w' => e = .returned (.string ⟨l.toArray⟩) ∧ St w0 [bldA b l] w' := by
 refine (Any.Builder_String_any_f Zpe Zjq w0.heap.size b l w hS.bldOf hS.bel.size).mono ?_;rintro e w' ⟨rfl, h1, h2⟩;exact ⟨rfl, St.bldMk (hS.bel.trans h2) h1⟩
theorem Zf4 (sep : List UInt8) (r : List (List UInt8)) (B : Nat) (h : ∀ x ∈ r, x.length ≤ B) : (Go.Lib.joinTail sep r).length ≤ r.length * (sep.length + B) := by
 induction r with
 | nil => simp [Go.Lib.joinTail]
 | cons x r ih =>
  have h1 := ih fun y hy => h y (List.mem_cons_of_mem _ hy)
  have h2 := h x (List.mem_cons_self ..);have e : Go.Lib.joinTail sep (x :: r) = (sep ++ x) ++ Go.Lib.joinTail sep r := by simp [Go.Lib.joinTail]
  rw [e, List.length_append, List.length_append, List.length_cons, Nat.succ_mul]; omega
def QO (xs : List ByteArray) (sep : ByteArray) : ByteArray := ⟨(Go.Lib.join (xs.map (·.data.toList)) sep.data.toList).toArray⟩
theorem ZdG (xs : List ByteArray) (sep : ByteArray) (h : szs xs) : (QO xs sep).size ≤ xs.length * (sep.size + 1099511627776) := by
 rw [Zh];show (Go.Lib.join (xs.map (·.data.toList)) sep.data.toList).length ≤ _
 cases xs with
 | nil => simp [Go.Lib.join_nil]
 | cons x r =>
  rw [List.map_cons, Go.Lib.join_cons, List.length_append];have h0 := h 0;simp only [List.getD_cons_zero] at h0;have h1 := Zf4 sep.data.toList (r.map (·.data.toList)) 1099511627776 fun y hy => by
   obtain ⟨z, hz, rfl⟩ := List.mem_map.1 hy;obtain ⟨i, hi, rfl⟩ := List.getElem_of_mem hz;have := h (i + 1);rw [← Zh]
   simpa [List.getD, hi] using this
  rw [List.length_map] at h1;rw [List.length_cons, Nat.succ_mul, Zh sep, ← Zh x]; omega
theorem ZlF (a0 : Option Addr) (n c : Nat) (xs : List ByteArray) (sep : ByteArray) (w : World) (hR : Rd Zu 1 w a0 n xs) (hc : xs.length ≤ c) (hN : xs.length ≤ 100) (hx : szs xs) (hs : sep.size ≤ 100) :
  Calls prog 77 #[.slice a0 n c, .string sep] w fun e w' => e = .returned (.string (QO xs sep)) ∧ Below w.heap.size w w' := by
 obtain rfl := hR.len;have hz := ZdG xs sep hx;rw [Zh] at hz;have hlen : (Go.Lib.join (xs.map (·.data.toList)) sep.data.toList).length ≤ 140737488355328 := by
  refine Nat.le_trans hz ?_;refine Nat.le_trans (Nat.mul_le_mul hN (Nat.add_le_add_right hs _)) (by decide)
 by_cases h0 : xs = []
 ·subst h0
  refine (Any.strings_Join_none Zjr Zjq a0 c sep w).mono ?_;rintro e w' ⟨rfl, rfl⟩;exact ⟨rfl, Below.refl _ _⟩
 ·have hpos : 0 < xs.length := List.length_pos_iff.2 h0
  obtain ⟨g, o, r⟩ := hR.opn;have ha := r.ao 0 hpos;subst ha;have hbk : g < w.heap.size := (r.at_ 0 (xs[0]'hpos) (List.getElem?_eq_getElem hpos)).1;exact Any.strings_Join Zjr Zjq g o c xs sep w (fun j x hx => by have := r.elem1 (St.start w) hx rfl; simpa using this) hbk (by omega) hc hlen
open Go.Lib
def splitL (c : UInt8) : List UInt8 → List (List UInt8)
 | [] => [[]]
 | b :: t => if b = c then [] :: splitL c t else match splitL c t with
  | h :: r => (b :: h) :: r
  | [] => [[b]]
theorem Zap (c : UInt8) (l : List UInt8) : ∃ h r, splitL c l = h :: r := by
 cases l with
 | nil => exact ⟨_, _, rfl⟩
 | cons b t =>
  unfold splitL
  split
  ·exact ⟨_, _, rfl⟩
  ·split
   ·exact ⟨_, _, rfl⟩
   ·exact ⟨_, _, rfl⟩
theorem Q2 (c : UInt8) (t : List UInt8) : splitL c (c :: t) = [] :: splitL c t := by
 conv => lhs; unfold splitL
 rw [if_pos rfl]
theorem Xz {b c : UInt8} (t : List UInt8) (h : b ≠ c) {x : List UInt8} {r : List (List UInt8)} (hs : splitL c t = x :: r) : splitL c (b :: t) = (b :: x) :: r := by
 conv => lhs; unfold splitL
 rw [if_neg h, hs]
theorem Ji (c : UInt8) : ∀ (l : List UInt8), (∀ x ∈ l, x ≠ c) → splitL c l = [l]
 | [], _ => rfl
 | b :: t, h => Xz t (h b (List.mem_cons_self ..)) (Ji c t fun x hx => h x (List.mem_cons_of_mem _ hx))
theorem Q4 (c : UInt8) (b : List UInt8) : ∀ (a : List UInt8), (∀ x ∈ a, x ≠ c) → splitL c (a ++ c :: b) = a :: splitL c b
 | [], _ => Q2 c b
 | x :: a, h => Xz _ (h x (List.mem_cons_self ..)) (Q4 c b a fun y hy => h y (List.mem_cons_of_mem _ hy))
theorem ZaU (c : UInt8) : ∀ (l : List UInt8), (splitL c l).length = l.count c + 1
 | [] => rfl
 | b :: t => by
  by_cases h : b = c
  ·subst h; rw [Q2, List.length_cons, ZaU b t, List.count_cons_self]
  ·obtain ⟨x, r, hs⟩ := Zap c t
   have := ZaU c t;rw [Xz t h hs, List.length_cons, List.count_cons_of_ne h];rw [hs, List.length_cons] at this; exact this
theorem ZcV (c : UInt8) : ∀ (l : List UInt8), Go.Lib.join (splitL c l) [c] = l
 | [] => rfl
 | b :: t => by
  obtain ⟨x, r, hs⟩ := Zap c t;have ih := ZcV c t;rw [hs, Go.Lib.join_cons] at ih
  by_cases h : b = c
  ·subst h
   rw [Q2, hs, Go.Lib.join_cons];simp only [Go.Lib.joinTail, List.map_cons, List.flatten_cons, List.nil_append, List.cons_append] at ih ⊢;rw [ih]
  ·rw [Xz t h hs, Go.Lib.join_cons, List.cons_append, ih]
theorem ZdH (c : UInt8) : ∀ (l : List UInt8), Go.Lib.splitK [c] 0 (Go.Lib.count l [c]) l = splitL c l
 | [] => by
  rw [show Go.Lib.count [] [c] = 0 from Go.Lib.count_one c []]; rfl
 | b :: t => by
  have ih := ZdH c t
  by_cases h : b = c
  ·subst h
   rw [Go.Lib.count_cons_eq, Nat.add_comm, Q2];unfold Go.Lib.splitK;have h0 : Go.Lib.index (b :: t) [b] = 0 := by unfold Go.Lib.index; simp
   rw [h0];simp only [show ((0 : Int) == -1) = false from rfl, Bool.false_eq_true, if_false, Int.toNat_zero, Nat.zero_add, List.take_zero, List.length_cons, List.length_nil, List.drop_succ_cons, List.drop_zero];rw [ih]
  ·rw [Go.Lib.count_cons_ne b c t h]
   cases hk : Go.Lib.count t [c] with
   | zero =>
    rw [hk] at ih;have h1 : splitL c t = [t] := by rw [← ih]; rfl
    rw [Xz t h h1]; rfl
   | succ k =>
    rw [hk] at ih;unfold Go.Lib.splitK at ih ⊢;have hi : Go.Lib.index (b :: t) [c] = if Go.Lib.index t [c] == -1 then -1 else Go.Lib.index t [c] + 1 := by
     conv => lhs; unfold Go.Lib.index
     rw [if_neg (by simp [List.isPrefixOf]; exact fun e => h e.symm)]
    have hge := Go.Lib.index_ge t [c]
    cases hm : (Go.Lib.index t [c] == -1) with
    | true =>
     have := Go.Lib.count_miss (beq_iff_eq.1 hm)
     omega
    | false =>
     rw [hm] at ih hi;simp only [Bool.false_eq_true, if_false] at ih hi;have hne : Go.Lib.index t [c] ≠ -1 := by simpa using hm
     obtain ⟨i, he⟩ : ∃ i : Nat, Go.Lib.index t [c] = i := ⟨(Go.Lib.index t [c]).toNat, by omega⟩;rw [he] at ih hi;rw [hi];rw [show ((((i : Nat) : Int) + 1) == -1) = false by simp; omega];simp only [Bool.false_eq_true, if_false];rw [show (((i : Nat) : Int) + 1).toNat = i + 1 by omega];rw [Int.toNat_natCast] at ih;rw [Xz t h ih.symm];simp [List.take_succ_cons, List.drop_succ_cons]
def Zd (s : ByteArray) (c : UInt8) : List ByteArray := (splitL c s.data.toList).map fun l => ⟨l.toArray⟩
theorem ZbD (xs : List ByteArray) : (xs.map (·.data.toList)).map (fun l => (⟨l.toArray⟩ : ByteArray)) = xs := by
 rw [List.map_map]
 conv => rhs; rw [← List.map_id xs]
 exact List.map_congr_left fun x _ => by simp
theorem ZaI (s : ByteArray) (c : UInt8) : Go.Lib.splitB ⟨#[c]⟩ 0 (Go.Lib.countB s ⟨#[c]⟩) s = Zd s c := by
 have h := Go.Lib.splitB_data (⟨#[c]⟩ : ByteArray) 0 (Go.Lib.countB s ⟨#[c]⟩) s;have h2 : Go.Lib.splitK [c] 0 (Go.Lib.countB s ⟨#[c]⟩) s.data.toList = splitL c s.data.toList := ZdH c _;rw [← ZbD (Go.Lib.splitB _ _ _ _), h];show (Go.Lib.splitK [c] 0 (Go.Lib.countB s ⟨#[c]⟩) s.data.toList).map _ = _;rw [h2]; rfl
theorem XX (s : ByteArray) (c : UInt8) : (Zd s c).length = s.data.toList.count c + 1 := by unfold Zd; rw [List.length_map, ZaU]
def Z8 (s : ByteArray) (c : UInt8) : Nat → List ByteArray × Nat
 | 0 => ([], 0)
 | k + 1 => if s.get! k = c then ((Z8 s c k).1 ++ [s.extract (Z8 s c k).2 k], k + 1) else Z8 s c k
theorem Zaq {s : ByteArray} {c : UInt8} {k : Nat} (h : s.get! k = c) : Z8 s c (k + 1) = ((Z8 s c k).1 ++ [s.extract (Z8 s c k).2 k], k + 1) := by
 conv => lhs; unfold Z8
 rw [if_pos h]
theorem Ve {s : ByteArray} {c : UInt8} {k : Nat} (h : s.get! k ≠ c) : Z8 s c (k + 1) = Z8 s c k := by
 conv => lhs; unfold Z8
 rw [if_neg h]
theorem ZbE (s : ByteArray) (c : UInt8) : ∀ k, (Z8 s c k).2 ≤ k
 | 0 => Nat.le_refl _
 | k + 1 => by
  by_cases h : s.get! k = c
  ·rw [Zaq h]; exact Nat.le_refl _
  ·rw [Ve h]; exact Nat.le_succ_of_le (ZbE s c k)
theorem ZaV (s : ByteArray) (c : UInt8) : ∀ k, (Z8 s c k).1.length ≤ k
 | 0 => Nat.le_refl _
 | k + 1 => by
  by_cases h : s.get! k = c
  ·rw [Zaq h]; simp; exact ZaV s c k
  ·rw [Ve h]; exact Nat.le_succ_of_le (ZaV s c k)
theorem Q1 {s : ByteArray} {k : Nat} (h : k < s.size) : s.data.toList[k]? = some (s.get! k) := by
 have hl := Zh s;rw [ZlA, List.getD_eq_getElem?_getD, List.getElem?_eq_getElem (by omega)]; rfl
theorem ZlG {s : ByteArray} {k : Nat} (h : k < s.size) : s.data.toList.drop k = s.get! k :: s.data.toList.drop (k + 1) := by
 have hl := Zh s;rw [List.drop_eq_getElem_cons (by omega)];rw [Option.some.inj ((List.getElem?_eq_getElem (show k < s.data.toList.length by omega)).symm.trans (Q1 h))]
theorem ZdI (s : ByteArray) (c : UInt8) : ∀ k, k ≤ s.size →
  splitL c s.data.toList = (Z8 s c k).1.map (·.data.toList) ++ splitL c (s.data.toList.drop (Z8 s c k).2) ∧ ∀ x ∈ (s.data.toList.drop (Z8 s c k).2).take (k - (Z8 s c k).2), x ≠ c
 | 0, _ => ⟨by simp [Z8], by simp⟩
 | k + 1, hk => by
  obtain ⟨h1, h2⟩ := ZdI s c k (by omega);have hle := ZbE s c k;have hl := Zh s;have hget := ZlG (s := s) (k := k) (by omega);have hsp : s.data.toList.drop (Z8 s c k).2 = (s.data.toList.drop (Z8 s c k).2).take (k - (Z8 s c k).2) ++ s.data.toList.drop k := by
   conv => lhs; rw [← List.take_append_drop (k - (Z8 s c k).2) (s.data.toList.drop (Z8 s c k).2)]
   rw [List.drop_drop, show (Z8 s c k).2 + (k - (Z8 s c k).2) = k by omega]
  by_cases h : s.get! k = c
  ·rw [Zaq h]
   refine ⟨?_, by simp⟩;rw [h1, hsp, hget, h, Q4 c _ _ h2, List.map_append];simp only [List.map_cons, List.map_nil, Yd, List.append_assoc, List.cons_append, List.nil_append]
  ·rw [Ve h]
   refine ⟨h1, fun x hx => ?_⟩;rw [show k + 1 - (Z8 s c k).2 = (k - (Z8 s c k).2) + 1 by omega, List.take_add_one] at hx;rcases List.mem_append.1 hx with hx | hx
   ·exact h2 x hx
   ·rw [List.getElem?_drop, show (Z8 s c k).2 + (k - (Z8 s c k).2) = k by omega] at hx
    rw [Q1 (by omega)] at hx;obtain rfl : x = s.get! k := by simpa using hx
    exact h
def Znk (s : ByteArray) (c : UInt8) : List ByteArray := (Z8 s c s.size).1 ++ [s.extract (Z8 s c s.size).2 s.size]
theorem ZcW (s : ByteArray) (c : UInt8) : Znk s c = Zd s c := by
 obtain ⟨h1, h2⟩ := ZdI s c s.size (Nat.le_refl _);have hle := ZbE s c s.size;have hl := Zh s;have hall : (s.data.toList.drop (Z8 s c s.size).2).take (s.size - (Z8 s c s.size).2) = s.data.toList.drop (Z8 s c s.size).2 := List.take_of_length_le (by rw [List.length_drop]; omega);rw [hall] at h2;rw [Ji c _ h2] at h1;unfold Zd Znk;rw [h1, List.map_append, ZbD]
 congr 1
 simp only [List.map_cons, List.map_nil]
 congr 1
 apply Yx
 rw [Yd, hall]
def Jt (b : UInt8) : Bool := decide (97 ≤ b.toNat) && decide (b.toNat ≤ 122)
def YE (s : ByteArray) : Bool := inB (s.size : Int) 1 4 && s.data.toList.all Jt
theorem ZaW {s : ByteArray} {k : Nat} (h : k < s.size) : (s.data.toList.drop k).all Jt = (Jt (s.get! k) && (s.data.toList.drop (k + 1)).all Jt) := by rw [ZlG h, List.all_cons]
theorem Zka {s : ByteArray} {k : Nat} (h : ¬ k < s.size) : (s.data.toList.drop k).all Jt = true := by
 have hl := Zh s;rw [List.drop_eq_nil_of_le (by omega)]; rfl
def ZdJ (t : ByteArray) : Bool := decide ((Zd t 47).length ≤ 4) && (Zd t 47).all YE
def ZL (s : ByteArray) : Bool := bif (s.toList == (⟨#[47]⟩ : ByteArray).toList) then true else (s.data.toList.head? == some 47 && ZdJ (s.extract 1 s.size))
theorem ZlH {s : ByteArray} (h : (s.toList == (⟨#[47]⟩ : ByteArray).toList) = true) : ZL s = true := by unfold ZL; rw [h]; rfl
theorem JR {s : ByteArray} (h : (s.toList == (⟨#[47]⟩ : ByteArray).toList) = false) (h2 : (s.data.toList.head? == some 47) = false) : ZL s = false := by unfold ZL; rw [h, h2]; rfl
theorem JS {s : ByteArray} (h : (s.toList == (⟨#[47]⟩ : ByteArray).toList) = false) (h2 : (s.data.toList.head? == some 47) = true) : ZL s = ZdJ (s.extract 1 s.size) := by unfold ZL; rw [h, h2]; rfl
theorem Ze8 {s : ByteArray} : (s.extract 1 s.size).size = s.size - 1 := by
 have h := Zh s;rw [Zh, Yd, List.length_take, List.length_drop, ← h]; omega
def okN (xs : List ByteArray) : Bool := decide (xs.length ≤ 4) && xs.all YE
theorem Ze9 (t : ByteArray) : ZdJ t = okN (Zd t 47) := rfl
theorem ZcX {s : ByteArray} (h : s.data.toList.head? = some 47) : Zd s 47 = ByteArray.empty :: Zd (s.extract 1 s.size) 47 := by
  have hl : s.data.toList = 47 :: s.data.toList.drop 1 := by
    cases hs : s.data.toList with
    | nil => rw [hs] at h; cases h
    | cons b t => rw [hs] at h; obtain rfl : b = 47 := by simpa using h
                  simp
  have hz := Zh s;have hx : (s.extract 1 s.size).data.toList = s.data.toList.drop 1 := by
    rw [Yd, List.take_of_length_le (by rw [List.length_drop]; omega)]
  unfold Zd;rw [hx]
  conv => lhs; rw [hl, Q2]
  rfl
theorem Zg6 {s : ByteArray} (h : 0 < s.size) : (s.data.toList.head? == some 47) = ((((s.get! 0).toNat : Nat) : Int) == 47) := by
 have hz := Zh s;have hg := Q1 h;rw [List.head?_eq_getElem?, hg]
 by_cases hb : s.get! 0 = 47
 ·rw [hb]; rfl
 ·rw [beq_eq_false_iff_ne.2 (fun e => hb (Option.some.inj e))]
  symm
  rw [beq_eq_false_iff_ne];intro e;exact hb (UInt8.toNat_inj.1 (by show (s.get! 0).toNat = 47; omega))
theorem ZdK {s : ByteArray} (h : (s.toList == (⟨#[]⟩ : ByteArray).toList) = false) : 0 < s.size := by
 rcases Nat.eq_zero_or_pos s.size with h0 | h0
 ·have : s = ⟨#[]⟩ := by apply Yx; rw [Zh] at h0; exact List.length_eq_zero_iff.1 h0
  rw [this] at h; simp at h
 ·exact h0
theorem ZlI {s : ByteArray} (h : (s.toList == (⟨#[]⟩ : ByteArray).toList) = true) (hb : ∀ {a b : ByteArray}, (a.toList == b.toList) = true → a = b) : (s.data.toList.head? == some 47) = false := by
 rw [hb h]; rfl
theorem Jx (t : ByteArray) (c : UInt8) : QO (Zd t c) ⟨#[c]⟩ = t := by
 apply Yx
 show Go.Lib.join ((Zd t c).map (·.data.toList)) [c] = _;unfold Zd;rw [List.map_map];have : ((fun x : ByteArray => x.data.toList) ∘ fun l : List UInt8 => (⟨l.toArray⟩ : ByteArray)) = id := by funext l; rfl
 rw [this, List.map_id, ZcV]
theorem ZbF {d : Nat} (h : d < 10) : digitVal (UInt8.ofNat (48 + d)) = some d := by
 unfold digitVal;have : (UInt8.ofNat (48 + d)).toNat = 48 + d := by rw [UInt8.toNat_ofNat']; omega
 rw [this, if_pos (by omega)]
 congr 1; omega
theorem Q5 {b : UInt8} {d : Nat} (h : digitVal b = some d) : b = UInt8.ofNat (48 + d) ∧ d < 10 := by
 unfold digitVal at h
 split at h
 ·rename_i hb
  obtain rfl := Option.some.inj h;refine ⟨UInt8.toNat_inj.1 ?_, by omega⟩;rw [UInt8.toNat_ofNat']; omega
 ·cases h
theorem ZcY (a b : List UInt8) : ∀ acc, decFrom acc (a ++ b) = (decFrom acc a).bind fun n => decFrom n b := by
 induction a with
 | nil => intro acc; rfl
 | cons x t ih =>
  intro acc;show (match digitVal x with | some d => decFrom (acc * 10 + d) (t ++ b) | none => none) = (match digitVal x with | some d => decFrom (acc * 10 + d) t | none => none).bind _
  cases digitVal x with
  | none => rfl
  | some d => exact ih _
theorem ZbG {a : List UInt8} {acc n d : Nat} {b : UInt8} (h : decFrom acc a = some n) (hd : digitVal b = some d) : decFrom acc (a ++ [b]) = some (n * 10 + d) := by
 rw [ZcY, h];show (match digitVal b with | some d => decFrom (n * 10 + d) [] | none => none) = _;rw [hd]; rfl
theorem JT {a : List UInt8} {acc n : Nat} {b : UInt8} (h : decFrom acc (a ++ [b]) = some n) : ∃ m d, decFrom acc a = some m ∧ digitVal b = some d ∧ n = m * 10 + d := by
 rw [ZcY] at h
 cases h1 : decFrom acc a with
 | none => rw [h1] at h; cases h
 | some m =>
  rw [h1] at h;have h : (match digitVal b with | some d => decFrom (m * 10 + d) [] | none => none) = some n := h
  cases h2 : digitVal b with
  | none => rw [h2] at h; cases h
  | some d => rw [h2] at h; exact ⟨m, d, rfl, rfl, (Option.some.inj h).symm⟩
theorem ZbH (n : Nat) : decDigits n ≠ [] := fun h => by have := nDigits_pos n; rw [← decDigits_length, h] at this; simp at this
theorem QP (n : Nat) : decFrom 0 (decDigits n) = some n := by
 induction n using Nat.strongRecOn with
 | _ n ih =>
  by_cases h : n < 10
  ·rw [decDigits_one h]
   have := ZbG (a := []) (acc := 0) (n := 0) rfl (ZbF h)
   simpa using this
  ·rw [decDigits, dif_neg h]
   rw [ZbG (ih (n / 10) (by omega)) (ZbF (by omega))]
   congr 1; omega
theorem Q6 (n : Nat) : ∀ b ∈ decDigits n, ∃ d, digitVal b = some d := by
 induction n using Nat.strongRecOn with
 | _ n ih =>
  by_cases h : n < 10
  ·rw [decDigits_one h]
   intro b hb;obtain rfl := List.mem_singleton.1 hb;exact ⟨_, ZbF h⟩
  ·rw [decDigits, dif_neg h]
   intro b hb;rcases List.mem_append.1 hb with hb | hb
   ·exact ih (n / 10) (by omega) b hb
   ·obtain rfl := List.mem_singleton.1 hb
    exact ⟨_, ZbF (by omega)⟩
theorem ZcZ (n : Nat) (h : 10 ≤ n) : ∃ d, (decDigits n).head? = some (UInt8.ofNat (48 + d)) ∧ 1 ≤ d ∧ d < 10 := by
 induction n using Nat.strongRecOn with
 | _ n ih =>
  rw [decDigits, dif_neg (by omega)]
  by_cases h2 : n / 10 < 10
  ·rw [decDigits_one h2]
   exact ⟨n / 10, rfl, by omega, h2⟩
  ·obtain ⟨d, h3, h4⟩ := ih (n / 10) (by omega) (by omega)
   refine ⟨d, ?_, h4⟩;rw [List.head?_append, h3]; rfl
theorem ZbI : ∀ (k : Nat) (l : List UInt8) (n : Nat), l.length = k + 1 → decFrom 0 l = some n → (l.length = 1 ∨ l.head? ≠ some 48) → decDigits n = l ∧ (l.head? ≠ some 48 → 1 ≤ n)
 | 0, l, n, hl, hd, _ => by
  match l, hl with
  | [b], _ =>
   obtain ⟨m, d, h1, h2, rfl⟩ := JT (a := []) hd;obtain rfl : 0 = m := Option.some.inj h1;obtain ⟨e, hlt⟩ := Q5 h2;rw [Nat.zero_mul, Nat.zero_add, decDigits_one hlt, ← e];refine ⟨rfl, fun hne => ?_⟩;rcases Nat.eq_zero_or_pos d with rfl | h
   ·exact absurd (by rw [e]; rfl) hne
   ·exact h
 | k + 1, l, n, hl, hd, hc => by
  have hne : l ≠ [] := by intro e; rw [e] at hl; simp at hl
  obtain ⟨a, b, rfl⟩ : ∃ a b, l = a ++ [b] := ⟨l.dropLast, l.getLast hne, (List.dropLast_concat_getLast hne).symm⟩;have hal : a.length = k + 1 := by simpa using hl
  have hane : a ≠ [] := by intro e; rw [e] at hal; simp at hal
  have hh : (a ++ [b]).head? = a.head? := by
   cases a with
   | nil => exact absurd rfl hane
   | cons x t => rfl
  rw [hh] at hc;have hc' : a.head? ≠ some 48 := by
   rcases hc with h | h
   ·rw [List.length_append, hal] at h; simp at h
   ·exact h
  obtain ⟨m, d, h1, h2, rfl⟩ := JT hd;obtain ⟨i1, i2⟩ := ZbI k a m hal h1 (.inr hc');have hm := i2 hc';obtain ⟨e, hlt⟩ := Q5 h2;refine ⟨?_, fun _ => by omega⟩;rw [decDigits, dif_neg (by omega), show (m * 10 + d) / 10 = m by omega, show (m * 10 + d) % 10 = d by omega, i1, e]
theorem ZaX : ∀ (k : Nat) (l : List UInt8) (n : Nat), l.length = k → decFrom 0 l = some n → n < 10 ^ k
 | 0, l, n, hl, hd => by
  obtain rfl := List.length_eq_zero_iff.1 hl;obtain rfl : 0 = n := Option.some.inj hd
  decide
 | k + 1, l, n, hl, hd => by
  have hne : l ≠ [] := by intro e; rw [e] at hl; simp at hl
  obtain ⟨a, b, rfl⟩ : ∃ a b, l = a ++ [b] := ⟨l.dropLast, l.getLast hne, (List.dropLast_concat_getLast hne).symm⟩;obtain ⟨m, d, h1, h2, rfl⟩ := JT hd;have := ZaX k a m (by simpa using hl) h1;have := (Q5 h2).2;rw [Nat.pow_succ]; omega
def Qs (s : ByteArray) : Option Nat := match decNat s.data.toList with
 | some n => if n ≤ 999999999 ∧ Zy n = s then some n else none
 | none => none
theorem VM {n : Nat} (h : n ≤ 999999999) : Qs (Zy n) = some n := by
 unfold Qs;have : decNat (Zy n).data.toList = some n := by
  unfold decNat;rw [Yk, if_neg (by simp; exact ZbH n), QP]
 rw [this];exact if_pos ⟨h, rfl⟩
theorem XM {s : ByteArray} {n : Nat} (h : Qs s = some n) : n ≤ 999999999 ∧ s = Zy n := by
 unfold Qs at h
 cases hd : decNat s.data.toList with
 | none => rw [hd] at h; cases h
 | some m =>
  rw [hd] at h
  by_cases hc : m ≤ 999999999 ∧ Zy m = s
  ·have h : (if m ≤ 999999999 ∧ Zy m = s then some m else none) = some n := h
   rw [if_pos hc] at h;obtain rfl := Option.some.inj h;exact ⟨hc.1, hc.2.symm⟩
  ·have h : (if m ≤ 999999999 ∧ Zy m = s then some m else none) = some n := h
   rw [if_neg hc] at h; cases h
theorem Zg7 (n : Nat) : atoi (Zy n).data.toList = some (n : Int) := by
 rw [Yk]
 cases hl : decDigits n with
 | nil => exact absurd hl (ZbH n)
 | cons b t =>
  obtain ⟨d, hd⟩ := Q6 n b (by rw [hl]; exact List.mem_cons_self ..);obtain ⟨e, hlt⟩ := Q5 hd;have h45 : (b == 45) = false := by
   rw [beq_eq_false_iff_ne]; intro e2;have := congrArg UInt8.toNat (e.symm.trans e2);rw [UInt8.toNat_ofNat'] at this;have h : (45 : UInt8).toNat = 45 := rfl
   omega
  have h43 : (b == 43) = false := by
   rw [beq_eq_false_iff_ne]; intro e2;have := congrArg UInt8.toNat (e.symm.trans e2);rw [UInt8.toNat_ofNat'] at this;have h : (43 : UInt8).toNat = 43 := rfl
   omega
  have hdn : decNat (b :: t) = some n := by
   unfold decNat;rw [if_neg (by simp), ← hl, QP]
  have hm : atoi (b :: t) = (decNat (b :: t)).map fun (m : Nat) => (m : Int) := by unfold atoi; simp [h45, h43]
  rw [hm, hdn]; rfl
theorem ZlJ {s : ByteArray} {n : Int} (h : atoi s.data.toList = some n) (hb : (ZI n) = s) : ∃ m : Nat, n = m ∧ Qs s = some m := by
 by_cases hr : 0 ≤ n ∧ n ≤ 999999999
 ·refine ⟨n.toNat, by omega, ?_⟩
  rw [← hb, YR hr.1 hr.2]; exact VM (by omega)
 ·rw [Zg4 hr] at hb
  rw [← hb] at h; cases h
theorem Zdp {s : ByteArray} (h : ∀ n : Nat, n ≤ 999999999 → s = Zy n → False) : Qs s = none := by
 cases hg : Qs s with
 | none => rfl
 | some n => exact (h n (XM hg).1 (XM hg).2).elim
theorem JU {n : Nat} (h : n ≤ 999999999) : (Zy n).size ≤ 9 := Zao (k := 8) (by omega)
def l1S (s : ByteArray) (n k : Nat) : Prop :=
 (k ≤ 9 ∧ k ≤ s.size ∧ decFrom 0 (s.data.toList.take k) = some n ∧ (k = s.size ∨ k = 9 ∨ ∃ b, s.data.toList[k]? = some b ∧ digitVal b = none) ∧ ¬ (1 < k ∧ s.data.toList.head? = some 48)) ∨
 (n = 0 ∧ k = 1 ∧ s.data.toList.head? = some 48 ∧ ∃ b d, s.data.toList[1]? = some b ∧ digitVal b = some d)
theorem Zjv {s : ByteArray} {n k : Nat} (h : l1S s n k) (h0 : k ≠ 0) (hk : k = s.size) : Qs s = some n := by
 have hz := Zh s;rcases h with ⟨h1, h2, h3, h4, h5⟩ | ⟨rfl, rfl, h3, b, d, h4, h5⟩
 ·rw [List.take_of_length_le (by omega)] at h3
  have hc := (ZbI (s.size - 1) s.data.toList n (by omega) h3 (by
   by_cases h : s.data.toList.length = 1
   ·exact .inl h
   ·exact .inr fun e => h5 ⟨by omega, e⟩)).1
  have hlt := ZaX s.size s.data.toList n (by omega) h3;have : n < 10 ^ 9 := Nat.lt_of_lt_of_le hlt (Nat.pow_le_pow_right (by omega) (by omega));have hs : s = Zy n := Yx (by rw [Yk, hc]);rw [hs]; exact VM (by omega)
 ·rw [List.getElem?_eq_none (by omega)] at h4; cases h4
theorem ZlK {s : ByteArray} {n k : Nat} (h : l1S s n k) (hk : k = 0 ∨ k ≠ s.size) : Qs s = none := by
 have hz := Zh s;refine Zdp fun m hm hs => ?_;have h9 := JU hm;have hp := ZdC m;have hall := Q6 m;rw [← Yk, ← hs] at hall;rw [← hs] at h9 hp;rcases h with ⟨h1, h2, h3, h4, h5⟩ | ⟨rfl, rfl, h3, b, d, h4, h5⟩
 ·rcases h4 with h4 | h4 | ⟨b, h4, h6⟩
  ·omega
  ·omega
  ·obtain ⟨d, hd⟩ := hall b (List.mem_of_getElem? h4)
   rw [h6] at hd; cases hd
 ·have h10 : 10 ≤ m := by
   rcases Nat.lt_or_ge m 10 with hlt | hge
   ·have hl := Yk m
    rw [← hs, decDigits_one hlt] at hl;rw [hl] at h4; cases h4
   ·exact hge
  obtain ⟨d', hd, h7, h8⟩ := ZcZ m h10;rw [← Yk, ← hs, h3] at hd;have := congrArg UInt8.toNat (Option.some.inj hd);rw [UInt8.toNat_ofNat'] at this;have h48 : (48 : UInt8).toNat = 48 := rfl
  omega
open Go.Shelf
def ZlL : Go.Shelf.Ren := ⟨fun | 138 => 147 | 143 => 148 | 146 => 82 | 195 => 176 | 197 => 177 | 217 => 140 | 218 => 178 | 219 => 104 | 221 => 110 | 224 => 142 | 225 => 141 | 260 => 194 | 266 => 172 | 267 => 143 | 268 => 146 | 314 => 173 | n => n, fun | 0 => 0 | 3 => 3 | 4 => 4 | 5 => 5 | 9 => 9 | 21 => 21 | 31 => 38 | 46 => 175 | 51 => 199 | 105 => 209 | 119 => 227 | 138 => 229 | 139 => 230 | 146 => 203 | n => n, fun | 1 => 0 | 3 => 6 | 4 => 7 | n => n⟩
theorem ZdL : Go.Proofs.LaysM.n146 prog ZlL := {
 mixed := by kernel_rfl
 f138 := Tryz.func147.trans (congrArg some (by kernel_rfl))
 f143 := Tryz.func148.trans (congrArg some (by kernel_rfl))
 f146 := Tryz.func82.trans (congrArg some (by kernel_rfl))
 f195 := Tryz.func176.trans (congrArg some (by kernel_rfl))
 f197 := Tryz.func177.trans (congrArg some (by kernel_rfl))
 f217 := Tryz.func140.trans (congrArg some (by kernel_rfl))
 f218 := Tryz.func178.trans (congrArg some (by kernel_rfl))
 f219 := Tryz.func104.trans (congrArg some (by kernel_rfl))
 f221 := Tryz.func110.trans (congrArg some (by kernel_rfl))
 f224 := Tryz.func142.trans (congrArg some (by kernel_rfl))
 f225 := Tryz.func141.trans (congrArg some (by kernel_rfl))
 f260 := Tryz.func194.trans (congrArg some (by kernel_rfl))
 f266 := Tryz.func172.trans (congrArg some (by kernel_rfl))
 f267 := Tryz.func143.trans (congrArg some (by kernel_rfl))
 f268 := Tryz.func146.trans (congrArg some (by kernel_rfl))
 f314 := Tryz.func173.trans (congrArg some (by kernel_rfl))
 t0 := Tryz.underlying0
 a0 := Tryz.isAgg0
 z0 := Tryz.sizeOf0
 v0 := Tryz.zeroValue0
 t3 := Tryz.underlying3
 a3 := Tryz.isAgg3
 z3 := Tryz.sizeOf3
 v3 := Tryz.zeroValue3
 t4 := Tryz.underlying4
 a4 := Tryz.isAgg4
 z4 := Tryz.sizeOf4
 v4 := Tryz.zeroValue4
 t5 := Tryz.underlying5
 a5 := Tryz.isAgg5
 z5 := Tryz.sizeOf5
 v5 := Tryz.zeroValue5
 t9 := Tryz.underlying9
 a9 := Tryz.isAgg9
 z9 := Tryz.sizeOf9
 v9 := Tryz.zeroValue9
 t21 := Tryz.underlying21
 a21 := Tryz.isAgg21
 z21 := Tryz.sizeOf21
 v21 := Tryz.zeroValue21
 t31 := Tryz.underlying38
 a31 := Tryz.isAgg38
 z31 := Tryz.sizeOf38
 v31 := Tryz.zeroValue38
 t46 := Tryz.underlying175
 a46 := Tryz.isAgg175
 z46 := Tryz.sizeOf175
 v46 := Tryz.zeroValue175
 t51 := Tryz.underlying199
 a51 := Tryz.isAgg199
 z51 := Tryz.sizeOf199
 v51 := Tryz.zeroValue199
 t105 := Tryz.underlying209
 a105 := Tryz.isAgg209
 z105 := Tryz.sizeOf209
 v105 := Tryz.zeroValue209
 t119 := Tryz.underlying227
 a119 := Tryz.isAgg227
 z119 := Tryz.sizeOf227
 t138 := Tryz.underlying229
 a138 := Tryz.isAgg229
 z138 := Tryz.sizeOf229
 v138 := Tryz.zeroValue229
 t139 := Tryz.underlying230
 a139 := Tryz.isAgg230
 z139 := Tryz.sizeOf230
 v139 := Tryz.zeroValue230
 t146 := Tryz.underlying203
 a146 := Tryz.isAgg203
 z146 := Tryz.sizeOf203
 v146 := Tryz.zeroValue203
 g1 := by kernel_rfl
 g3 := by kernel_rfl
 g4 := by kernel_rfl
 i0 := by kernel_rfl
 i3 := by kernel_rfl
 i4 := by kernel_rfl
 i5 := by kernel_rfl
 i9 := by kernel_rfl
 i21 := by kernel_rfl
 i31 := by kernel_rfl
 i46 := by kernel_rfl
 i51 := by kernel_rfl
 i105 := by kernel_rfl
 i138 := by kernel_rfl
 i139 := by kernel_rfl
 i146 := by kernel_rfl
 m1 := by kernel_rfl
 s1_3 := fun w h => Go.Proofs.cell_of_shapedOpen_int (zero := #[.int .i64 0]) (t := 3) h (of_decide_eq_true (by kernel_rfl)) (by kernel_rfl) rfl (by kernel_rfl) (by kernel_rfl) Tryz.underlying3
 m3 := by kernel_rfl
 m4 := by kernel_rfl }
theorem ZdM (s : ByteArray) (w0 : World) (hs : s.size ≤ 9223372036854775806) : Calls prog 99 #[.string s] w0 fun e w' => e = .returned (.int .i64 (UF s)) ∧ Below w0.heap.size w0 w' := by
 have E := Bx.mk (St.start w0);refine ent func99 ntmps99 ?_;refine xsr<|xr 1 rfl<|xne<|xsr<|xr 1 rfl<|xne<|xsr<|xr 1 rfl<|xne<|xsq<|xsr<|xr 1 rfl<|xne<|xbl ?_;intro a J;refine Zt (ι := Nat) (fun k a w => (k ≤ s.size) ∧ Fr 28 a [(0, .string s), (3, .int .i64 ((Zcm s k).1)), (4, .int .i64 ((Zcm s k).2)), (5, .int .i64 (k : Int))] ∧ St w0 ([]) w) (fun k => s.size - k) 0 ⟨(Nat.zero_le _), J.ls _, E.o⟩ ?_;clear J E; clear a;rintro k a w1 ⟨hk, J, E⟩;replace E := Bx.mk E;have hb := Zjs s k;have hbyte := Zjt s k;revert a;refine xsq<|xsr<|xr 2 rfl<|xy rfl (fun a J=>ZM rfl (J.ev rfl) (by kernel_rfl))<|xr 1 rfl<|xne<|xcs 9 rfl (fun cc1=>?_) fun cc1=>?_
 have cc1 := of_decide_eq_true cc1;refine xct rfl<|xsk<|xet<|xsq<|xbl<|xsr<|xr 3 rfl<|xy rfl (fun a J=>YQ (i := k) rfl (J.ev rfl) (J.ev rfl) (by kernel_rfl) rfl (by omega))<|xy rfl (fun a J=>UC rfl (J.ev rfl) (Zjt _ _) (by kernel_rfl) (by kernel_rfl))<|xy rfl (vad rfl)<|xy rfl (vad rfl)<|xy rfl (fun a J=>QK rfl (J.ev rfl) (J.ev rfl) (by omega) (QN (by omega) (by omega)))<|xr 1 rfl<|xne<|xrl<|xr 2 rfl<|xy rfl (vad rfl)<|xy rfl (fun a J=>QK rfl (J.ev rfl) (J.ev rfl) (by omega) (QN (by omega) (by omega)))<|xr 1 rfl<|xni<|xeb<|xet<|xrl<|xr 1 rfl<|xy rfl (vad rfl)<|xr 1 rfl<|xne ?_;intro a J;exact ⟨k + 1, ⟨(by omega), J.less _ ⟨rfl, rfl, rfl, rfl, trivial⟩, E.o⟩, (by omega)⟩;have cc1 := of_decide_eq_false cc1;obtain rfl : k = s.size := by omega
 refine xcf rfl<|xex<|xtx<|xtx<|xbh<|xet<|xsr<|xr 1 rfl<|xy rfl (fun a J=>Y8 rfl (J.ev rfl) (J.ev rfl) (Yi (by omega)))<|xr 1 rfl<|xy rfl (vad rfl)<|xr 1 rfl<|xne<|xre<|xb1 results99 rfl ?_;exact ⟨rfl, E.o.bel⟩
theorem Zg8 (s : ByteArray) (w0 : World) (hs : s.size ≤ 9223372036854775806) : Calls prog 98 #[.string s] w0 fun e w' => e = .returned (.bool (inB (s.size : Int) 1 128)) ∧ Below w0.heap.size w0 w' := by
 have E := Bx.mk (St.start w0);refine ent func98 ntmps98 ?_;refine xsr<|xr 1 rfl<|xne<|xsr<|xr 1 rfl<|xy rfl (fun a J=>ZM rfl (J.ev rfl) (by kernel_rfl)) ?_;refine ycB ((Yb (s.size : Int) 1 128 _).mono fun _ _ h => ⟨h.1, h.2 ▸ Below.refl _ _⟩) func25 E ?_;clear E;intro w1 E;refine xr 1 rfl<|xne<|xre<|xb1 results98 rfl ?_;exact ⟨rfl, E.o.bel⟩
theorem Qt (at_ birth level : Int) (s : ByteArray) (w0 : World) (hs : s.size ≤ 9223372036854775806) : Calls prog 72 #[.int .i64 at_, .int .i64 birth, .int .i64 level, .string s] w0 fun e w' => e = .returned (.tuple #[pV (Xa at_ birth level s), .bool (XI at_ birth level s)]) ∧ Below w0.heap.size w0 w' := by
 have E := Bx.mk (St.start w0);refine ent func72 ntmps72 ?_;refine xsr ?_;refine yal z5 E ?_;clear E;intro w1 b1 E;refine xr 1 rfl<|xne<|xsr<|xr 3 rfl<|xy rfl (fun a J=>ZM rfl (J.ev rfl) (by kernel_rfl))<|xr 1 rfl<|xy rfl (vb [.int .i64 at_, .int .i64 birth, .int .i64 (s.size : Int), .int .i64 0, .int .i64 level] rfl) ?_;refine yal z5 E ?_;clear E;intro w2 b2 E;refine yst E 0 ?_;clear E;intro w3 E;replace E:=E.nm;refine xne<|xsq<|xsr<|xr 1 rfl ?_;refine ycB (Zg8 s _ (by omega)) func98 E ?_;clear E;intro w4 E;refine xr 1 rfl<|xne<|xcs 19 rfl (fun cc1=>?_) fun cc1=>?_;intro a J
 -- !(inB (s.size : Int) 1 128)
 revert a;refine xct rfl<|xsr<|xy rfl (vb z5 rfl) ?_;refine yst E 1 ?_;clear E;intro w5 E;replace E:=E.nm;refine xr 1 rfl<|xne<|xre<|xtr ?_;intro a J;refine Zw J results72 (J.resBox rfl (E.o.box 1 rfl) (by kernel_rfl)) (J.res rfl) ?_;have cc1 := (Bool.not_eq_eq_eq_not.1 cc1);have hk : XI at_ birth level s = false := by
   unfold XI YY;rw [cc1]; rfl
 refine ⟨?_, E.o.bel⟩;rw [Zg3 hk, hk]; rfl;intro a J
 -- !(inB (s.size : Int) 1 128)
 revert a;refine xcf rfl<|xsk<|xet<|xsr<|xr 1 rfl ?_;refine ycB (ZdM s _ (by omega)) func99 E ?_;clear E;intro w6 E;refine Xf 3 rfl ?_;refine ysF 0 E ?_;clear E;intro w7 E;replace E:=E.nm;refine xne<|xsq<|xsr<|Xw 0 5 E rfl rfl ?_;refine ycB (ZR ({ aC := at_, al := birth, am := (s.size : Int), aB := UF s, aq := level } : PtrD) _) func24 E ?_;clear E;intro w8 E;refine xr 1 rfl<|xne<|xcs 26 rfl (fun cc2=>?_) fun cc2=>?_;intro a J
 -- !(({ aC := at_, al := birth, am := (s.size : Int), aB := UF s, aq := level } : PtrD).ok)
 revert a;refine xct rfl<|xsr<|xy rfl (vb z5 rfl) ?_;refine yst E 1 ?_;clear E;intro w9 E;replace E:=E.nm;refine xr 1 rfl<|xne<|xre<|xtr ?_;intro a J;refine Zw J results72 (J.resBox rfl (E.o.box 1 rfl) (by kernel_rfl)) (J.res rfl) ?_;have cc1 := (Bool.not_eq_eq_eq_not.1 cc1);have cc2 := (Bool.not_eq_eq_eq_not.1 cc2);have hk : XI at_ birth level s = false := by
   unfold XI YY;rw [cc1, cc2]; rfl
 refine ⟨?_, E.o.bel⟩;rw [Zg3 hk, hk]; rfl;intro a J
 -- !(({ aC := at_, al := birth, am := (s.size : Int), aB := UF s, aq := level } : PtrD).ok)
 revert a;refine xcf rfl<|xsk<|xet<|xsr<|Xw 0 5 E rfl rfl ?_;refine yst E 1 ?_;clear E;intro w10 E;replace E:=E.nm;refine xr 1 rfl<|xne<|xre ?_;intro a J;refine Zw J results72 (J.resBox rfl (E.o.box 1 rfl) (by kernel_rfl)) (J.res rfl) ?_;have cc1 := (Bool.not_eq_eq_eq_not.1 cc1);have cc2 := (Bool.not_eq_eq_eq_not.1 cc2);have hk : XI at_ birth level s = true := by
   unfold XI YY;rw [cc1, cc2]; rfl
 refine ⟨?_, E.o.bel⟩;rw [Ze4 hk, hk]; rfl
def encB (x : UInt8) : List Value := [.int .u8 (x.toNat : Int)]
theorem YJ (x : UInt8) : (encB x).length = 1 := rfl
theorem Um (xs : List UInt8) : ∀ u ∈ xs.flatMap encB, u.oneCell' = true := by
 intro u hu;obtain ⟨x, _, hx⟩ := List.mem_flatMap.1 hu;simp only [encB, List.mem_singleton] at hx;subst hx; rfl
section
variable {P : Program} {ops : Array Oper} {Q : Exit → Act → World → Prop} {rest : List Oper} {o : Oper} {a : Act} {w W : World} {N : Nat} {l : List (Nat × Value)} {s : List Asr} {α : Type} {enc : α → List Value} {size : Nat} {e : TypeId} {t : TypeId} {x y z : Operand}
theorem XY (ho : o.op = .slice t x none (some y) none) {b : ByteArray} (hx : a.eval x = .string b) {kk : IntKind} {m : Int} (hy : a.eval y = .int kk m) (hu : P.underlying t = some .string) {k : Nat} (hm : m = (k : Int)) (hk : k ≤ b.size) : Yl P w o a (.string (b.extract 0 k)) := by
 subst hm;have h2 : ((k : Int) ≤ (b.size : Int)) := by omega
 unfold Yl execOp;simp only [ho, hx, hy, Option.map_some, Option.map_none, Instr.sliceAt, Instr.slice, Sem.run_bind, run_underlying hu w, Result.andThen_ok];simp [Instr.slice, Instr.sliceBounds, Instr.sliceBound, asIntOf, go_sem, run_underlying hu w, h2];intro hlt; omega
theorem Qu (ho : o.op = .slice t x (some y) none none) {b : ByteArray} (hx : a.eval x = .string b) {kk : IntKind} {m : Int} (hy : a.eval y = .int kk m) (hu : P.underlying t = some .string) {k : Nat} (hm : m = (k : Int)) (hk : k ≤ b.size) : Yl P w o a (.string (b.extract k b.size)) := by
 subst hm;have h2 : ((k : Int) ≤ (b.size : Int)) := by omega
 unfold Yl execOp;simp only [ho, hx, hy, Option.map_some, Option.map_none, Instr.sliceAt, Instr.slice, Sem.run_bind, run_underlying hu w, Result.andThen_ok];simp [Instr.slice, Instr.sliceBounds, Instr.sliceBound, asIntOf, go_sem, run_underlying hu w, h2];intro hlt; omega
theorem Q7 (ho : o.op = .convert t e x) {e1 : TypeId} {ao : Option Addr} {n cap : Nat} (hx : a.eval x = .slice ao n cap) (hs : P.underlying t = some (.slice e1)) (he : P.underlying e1 = some (.int .u8)) (hd : P.underlying e = some .string) {xs : List UInt8} (hr : Rd encB 1 w ao n xs) : Yl P w o a (.string ⟨xs.toArray⟩) := by
 obtain rfl : n = xs.length := hr.1.symm;unfold Yl execOp;simp only [ho, hx];have hrun : (convert t e (.slice ao xs.length cap)).run P w = .ok (.string ⟨xs.toArray⟩) w := by
  cases ao with
  | none =>
   obtain rfl := Zle hr;exact run_convert_bytes_nil w t e1 hs he 0 cap e hd
  | some ad =>
   refine run_convert_bytes_back w t e e1 ad cap xs hs he hd fun j hj => ?_;have := hr.news YJ (by decide) (j := j) (u := .int .u8 (xs[j].toNat : Int)) ?_
   ·exact this
   ·have hf : xs.flatMap encB = xs.map fun x => Value.int .u8 (x.toNat : Int) := by
     clear hr hx hj
     induction xs with
     | nil => rfl
     | cons x xs ih => rw [List.flatMap_cons, ih]; rfl
    rw [hf, List.getElem?_map, List.getElem?_eq_getElem hj]; rfl
 simp only [Sem.run_bind, hrun, Result.andThen_ok, Sem.run_pure]
theorem ZlM (hg : o.guard = none) (hF : Fr N a l) (ho : o.op = .makeSlice t x y) {d : Nat} (hd : o.dst = some d) (hN : Nat.blt d N = true) {bytes : Nat} (hT : UD P t e 1 bytes) {kl kc : IntKind} {m m' : Int} {n : Nat} (hx : a.eval x = .int kl m) (hy : a.eval y = .int kc m') (hm : m = (n : Int)) (hm' : m' = (n : Int))
  (hb : bytes * n ≤ 281474976710656) (hn : n ≤ maxLen) (z0 : α) {u : Value} (hz : (P.info? e).bind (·.zero) = some u) (he : enc z0 = [u]) (hu : u.cells = #[u]) (hS : St W s w)
  (h : ∀ b a' w', Fr N a' ((d, .slice (some ⟨b, 0, none⟩) n n) :: l) → St W (Zg enc 1 e (.slice (some ⟨b, 0, none⟩) n n) (List.replicate n z0) :: s) w' → wpList P ops Q rest a' w') : wpList P ops Q (o :: rest) a w := by
 obtain ⟨i0, zz, hi0, hz0, k1, k2, k3⟩ := hT.info;refine wpList_make_full w hg x y t ho w.heap.size e i0 zz 1 hT.ht hi0 hz0 k1 kl kc m m' n hx hy hm hm' (by rw [k2]; exact hb) hn (Nat.le_refl _) fun w' ho' hgr => ?_;rw [hd];refine h _ _ _ (hF.put (Nat.le_of_ble_eq_true hN) _) ?_;obtain rfl : zz = u := by rw [hi0] at hz; simpa [hz0] using hz
 have hc : (madeCells zz.cells (n * 1)).toList = (List.replicate n z0).flatMap enc := by
  rw [hu, Nat.mul_one]
  apply List.ext_getElem
  ·simp [madeCells, he, List.length_flatMap]
  ·intro i h1 h2
   have hr : ∀ k : Nat, (List.replicate k z0).flatMap enc = List.replicate k zz := fun k => by
    induction k with
    | zero => rfl
    | succ k ih => rw [List.replicate_succ, List.flatMap_cons, ih, he]; rfl
   simp [madeCells, hr, Nat.mod_one]
 rw [hc] at ho';refine hS.add (ns := [_]) (St.ofRow (B1 := w'.heap.size) (RowO.mk (by rw [List.length_replicate]; exact ho') (fun g hg => (ho'.lt g hg).2)) ⟨hgr.os, hgr.tape, hgr.output, hgr.size, fun k hk => hgr.block k hk (by simp)⟩)
end
section
variable {P : Program} {ops : Array Oper} {Q : Exit → Act → World → Prop} {rest : List Oper} {o : Oper} {a : Act} {w W : World} {N : Nat} {l : List (Nat × Value)} {s : List Asr} {t e : TypeId} {x y : Operand} {α : Type} {enc : α → List Value} {size : Nat}
theorem Zfa (z : List Value) (size n : Nat) (hz : z.length = size) (hs : 0 < size) : (madeCells z.toArray (n * size)).toList = (List.replicate n z).flatten := by
 apply List.ext_getElem
 ·simp [madeCells, hz]
 ·intro i h1 h2
  have hi : i < n * size := by simpa [madeCells] using h1
  have key : ∀ (n i : Nat) (h : i < (List.replicate n z).flatten.length), (List.replicate n z).flatten[i] = z[i % size]'(by rw [hz]; exact Nat.mod_lt _ hs) := by
   intro n
   induction n with
   | zero => intro i h; simp at h
   | succ n ih =>
    intro i h;simp only [List.replicate_succ, List.flatten_cons]
    by_cases hlt : i < size
    ·rw [List.getElem_append_left (by rw [hz]; exact hlt)]
     congr 1
     exact (Nat.mod_eq_of_lt hlt).symm
    ·rw [List.getElem_append_right (by rw [hz]; omega)]
     have e : (i - z.length) % size = i % size := by
      rw [hz]
      conv => rhs; rw [show i = (i - size) + size by omega, Nat.add_mod_right]
     rw [ih]
     congr 1
  rw [key];have hm : i % size < z.length := by rw [hz]; exact Nat.mod_lt _ hs
  simp [madeCells, hz, List.getElem?_eq_getElem hm]
theorem ZlN (hg : o.guard = none) (hF : Fr N a l) (ho : o.op = .makeSlice t x y) {d : Nat} (hd : o.dst = some d) (hN : Nat.blt d N = true) {bytes : Nat} (hT : UD P t e size bytes) {kl kc : IntKind} {m m' : Int} {n : Nat} (hx : a.eval x = .int kl m) (hy : a.eval y = .int kc m') (hm : m = (n : Int)) (hm' : m' = (n : Int))
  (hb : bytes * n ≤ 281474976710656) (hn : n ≤ maxLen) (z0 : α) {u : Value} (hz : (P.info? e).bind (·.zero) = some u) (hu : u.cells = (enc z0).toArray) (hl : (enc z0).length = size) (hS : St W s w)
  (h : ∀ b a' w', Fr N a' ((d, .slice (some ⟨b, 0, none⟩) n n) :: l) → St W (Zg enc size e (.slice (some ⟨b, 0, none⟩) n n) (List.replicate n z0) :: s) w' → wpList P ops Q rest a' w') : wpList P ops Q (o :: rest) a w := by
 obtain ⟨i0, zz, hi0, hz0, k1, k2, k3⟩ := hT.info;refine wpList_make_full w hg x y t ho w.heap.size e i0 zz size hT.ht hi0 hz0 k1 kl kc m m' n hx hy hm hm' (by rw [k2]; exact hb) hn (Nat.le_refl _) fun w' ho' hgr => ?_;rw [hd];refine h _ _ _ (hF.put (Nat.le_of_ble_eq_true hN) _) ?_;obtain rfl : zz = u := by rw [hi0] at hz; simpa [hz0] using hz
 have hc : (madeCells zz.cells (n * size)).toList = (List.replicate n z0).flatMap enc := by
  rw [hu, Zfa _ _ _ hl hT.pos, List.flatMap, List.map_replicate]
 rw [hc] at ho';refine hS.add (ns := [_]) (St.ofRow (B1 := w'.heap.size) (RowO.mk (by rw [List.length_replicate]; exact ho') (fun g hg => (ho'.lt g hg).2)) ⟨hgr.os, hgr.tape, hgr.output, hgr.size, fun k hk => hgr.block k hk (by simp)⟩)
end
def OnN (R : Act → World → Prop) : Exit → Act → World → Prop
 | .normal, a, w => R a w
 | _, _, _ => False
theorem ZD {R : Act → World → Prop} {a : Act} {w : World} (h : R a w) : OnN R .normal a w := h
theorem ZX {P : Program} {c : Code} {R : Act → World → Prop} {Q : Exit → Act → World → Prop} {a : Act} {w : World} (h : c.wp P (OnN R) a w) (k : ∀ a w, R a w → Q .normal a w) : c.wp P Q a w :=
 wp_mono h fun e a w hq => by
  cases e with
  | normal => exact k a w hq
  | _ => exact hq.elim
section
variable {P : Program} {ops : Array Oper} {Q : Exit → Act → World → Prop} {rest : List Oper} {o : Oper} {a : Act} {w W : World} {N : Nat} {l : List (Nat × Value)} {s : List Asr} {t t' e : TypeId} {x y z : Operand} {α : Type} {enc : α → List Value} {size : Nat}
theorem Zar (ho : o.op = .convert t t' x) {n : Int} {b : UInt8} (hx : a.eval x = .int .i64 n) (hn : 0 ≤ n ∧ n ≤ 255) (hb : b = UInt8.ofNat n.toNat) (hu : P.underlying t = some (.int .i64)) (hu' : P.underlying t' = some (.int .u8)) : Yl P w o a (.int .u8 (b.toNat : Int)) := by
 have hv : (b.toNat : Int) = n := by
  subst hb;rw [UInt8.toNat_ofNat']
  omega
 unfold Yl execOp;simp only [ho, hx];rw [hv];simp [convert, go_sem, run_underlying hu w, run_underlying hu' w, Conv.intToInt];simp [IntKind.wrap, IntKind.bits, IntKind.signed]
 omega
theorem ZlO (m n : Nat) (hm : m < 2 ^ 62) (hn : n < 2 ^ 62) : (Op.intBits .xor .i64 (m : Int) (n : Int)).run P w = .ok (.int .i64 ((m ^^^ n : Nat) : Int)) w := by
 have hx : m ^^^ n < 2 ^ 62 := Nat.xor_lt_two_pow hm hn;have hq : (BitVec.ofInt IntKind.i64.bits (m : Int) ^^^ BitVec.ofInt IntKind.i64.bits (n : Int)).toNat = m ^^^ n := by
  show (BitVec.ofInt 64 (m : Int) ^^^ BitVec.ofInt 64 (n : Int)).toNat = _;rw [BitVec.ofInt_natCast, BitVec.ofInt_natCast, BitVec.toNat_xor, BitVec.toNat_ofNat, BitVec.toNat_ofNat, Nat.mod_eq_of_lt (by omega), Nat.mod_eq_of_lt (by omega)]
 unfold Op.intBits;simp only [hq, Sem.run_pure];rw [Yi (by omega)]
theorem Znl (ho : o.op = .binOp .xor t x y t') {m n : Nat} (hx : a.eval x = .int .i64 (m : Int)) (hy : a.eval y = .int .i64 (n : Int)) (hm : m < 2 ^ 62) (hn : n < 2 ^ 62) : Yl P w o a (.int .i64 ((m ^^^ n : Nat) : Int)) := by
 have hrun := ZlO (P := P) (w := w) m n hm hn;unfold Yl execOp;simp only [ho, hx, hy];simp only [eqGuard, binOp, Sem.run_bind, Sem.run_pure, Result.andThen_ok]
 first | (simp only [hrun, Result.andThen_ok]) | (rw [hrun]; rfl) | (simp [go_sem] at hrun ⊢; exact hrun)
def Zpi (enc : α → List Value) (size g : Nat) (xs : List α) : Asr := ⟨fun w f => f = [g] ∧ ∃ cur e fr, w.heap[g]? = some (.cells cur e fr) ∧ cur.toList.take (xs.length * size) = xs.flatMap enc, fun w w' f _ hb ⟨e1, cur, e, fr, h1, h2⟩ => ⟨e1, cur, e, fr, (hb g (by rw [e1]; simp)).trans h1, h2⟩⟩
theorem St.rom1 {enc : α → List Value} (he : ∀ x, (enc x).length = 1) (h : St W s w) (i : Nat) {g : Nat} {xs : List α} (hi : s[i]? = some (Zpi enc 1 g xs)) {j : Nat} {x : α} (hx : xs[j]? = some x) {v : Value} (hv : enc x = [v]) : w.cell? ⟨g, 0 + j * 1, none⟩ = some v := by
 obtain ⟨f, ⟨_, cur, e, fr, h1, h2⟩, _⟩ := h.get i hi;have hj := (List.getElem?_eq_some_iff.1 hx).1;have h3 : (xs.flatMap enc)[j]? = some v := by
  have := VB enc 1 he (xs.take j);have hd : xs = xs.take j ++ x :: xs.drop (j + 1) := by
   obtain ⟨hl, rfl⟩ := List.getElem?_eq_some_iff.1 hx;rw [← List.drop_eq_getElem_cons hl, List.take_append_drop]
  rw [hd, List.flatMap_append, List.flatMap_cons, hv, List.getElem?_append_right (by rw [this, List.length_take]; omega), this, List.length_take];rw [show j - min j xs.length * 1 = 0 by omega]; rfl
 rw [← h2, List.getElem?_take] at h3
 split at h3
 ·have h4 : cur[j]? = some v := by rw [← Array.getElem?_toList]; exact h3
  show w.cell? ⟨g, 0 + j * 1, none⟩ = some v;rw [show 0 + j * 1 = j by omega];unfold World.cell?;rw [h1]
  simpa using h4
 ·cases h3
theorem ZeK {g n c : Nat} {cur : Array Value} {e1 : TypeId} (h : w.heap[g]? = some (.cells cur e1 (0, 0))) (ht : P.underlying t = some (.slice e)) (he : P.underlying e = some (.int .u8)) :
  ∃ w', (convert t t (.slice (some ⟨g, 0, none⟩) n c)).run P w = .ok (.slice (some ⟨g, 0, none⟩) n c) w' ∧ (∃ fr, w'.heap[g]? = some (.cells cur e1 fr)) ∧ Y5 g (g + 1) w w' := by
 obtain ⟨hlt, hg⟩ := Array.getElem?_eq_some_iff.1 h;have hsh : w.shape? g = some (e1, cur.size) := by unfold World.shape?; rw [h]
 refine ⟨w.freeze ⟨g, cur.size, none⟩ 1, ?_, ?_, ?_⟩
 ·simp [convert, run_underlying ht, run_underlying he, markStringish, hsh]
 ·unfold World.freeze
  rw [if_neg (by decide)];refine ⟨(cur.size, cur.size + 1), ?_⟩;show (w.heap.modify g _)[g]? = _;rw [Array.getElem?_eq_getElem (by rw [Array.size_modify]; exact hlt), Array.getElem_modify_self, hg]; rfl
 ·unfold World.freeze
  rw [if_neg (by decide)];refine ⟨rfl, rfl, rfl, by simp, fun k hk ho => ?_⟩;show (w.heap.modify g _)[k]? = _;rw [Array.getElem?_modify, if_neg (by omega)]
theorem Zkb {enc : α → List Value} (hg : o.guard = none) (hF : Fr N a l) (ho : o.op = .convert t t x) {d : Nat} (hd : o.dst = some d) (hN : Nat.blt d N = true) {g n cap : Nat} {e1 : TypeId} (hx : a.eval x = .slice (some ⟨g, 0, none⟩) n cap) (ht : P.underlying t = some (.slice e)) (he : P.underlying e = some (.int .u8)) (hS : St W s w) (i : Nat) {xs : List α} (hi : s[i]? = some (Zg enc 1 e1 (.slice (some ⟨g, 0, none⟩) n cap) xs)) (hpos : 0 < xs.length)
  (h : ∀ w' a', Fr N a' ((d, .slice (some ⟨g, 0, none⟩) n cap) :: l) → St W (s.set i (Zpi enc 1 g xs)) w' → wpList P ops Q rest a' w') : wpList P ops Q (o :: rest) a w := by
 obtain ⟨hn, hc | ⟨h0, g', cur, e2, hgb, h1, h2, h3, h4, hB⟩⟩ := hS.rowBlk i hi
 ·exact absurd hpos (by rw [hc.2]; simp)
 simp only [Option.some.injEq, Addr.mk.injEq, and_true] at e2;subst e2;obtain ⟨w', hr, ⟨fr, hf⟩, hO⟩ := ZeK (P := P) (t := t) (n := n) (c := cap) hgb ht he;refine wpList_plain hg fun K hK => ?_;have hrun : (execOp a.eval o).run P w = .ok (.value (.slice (some ⟨g, 0, none⟩) n cap)) w' := by
  unfold execOp;simp only [ho, hx, Sem.run_bind, hr, Result.andThen_ok, Sem.run_pure]
 unfold Oper.wp;rw [hrun];refine hK _ _ (hd ▸ h w' _ (hF.put (Nat.le_of_ble_eq_true hN) _) ?_);have hlt := hgb;refine hS.mutAt i hi hO.os hO.tape hO.output hO.size fun f ⟨e3, _⟩ _ hf2 => ⟨[g], ⟨rfl, cur, e1, fr, hf, by rw [← hn]; exact h4⟩, by simp, fun b hb => ?_, fun k hk hnk => hO.block k hk ?_⟩
 ·obtain rfl : b = g := by simpa using hb
  have hbl : Value.rowBlock (.slice (some ⟨b, 0, none⟩) n cap) = some b := by simp [Value.rowBlock, h0]
  have hm : b ∈ f := by rw [e3, hbl]; simp
  exact ⟨.inl hm, Nat.lt_of_lt_of_le (hf2 b hm).2 hO.size⟩
 ·have hbl : Value.rowBlock (.slice (some ⟨g, 0, none⟩) n cap) = some g := by simp [Value.rowBlock, h0]
  rw [e3, hbl] at hnk;simp at hnk
  omega
end
def rdA (rb : Nat) (ab : Option Addr) (n cb B : Nat) : Asr := exA fun p : Nat => sepA [boxA rb 2 69 (.agg #[.slice ab n cb, .int .i64 (p : Int)]), pureA (p ≤ B)]
theorem St.rdOpen {W w : World} {F : List Asr} {rb : Nat} {ab : Option Addr} {n cb B : Nat} (h : St W (rdA rb ab n cb B :: F) w) : ∃ p : Nat, p ≤ B ∧ St W (boxA rb 2 69 (.agg #[.slice ab n cb, .int .i64 (p : Int)]) :: F) w := by
 obtain ⟨p, h1⟩ := h.ex;have h2 : St W (boxA rb 2 69 (.agg #[.slice ab n cb, .int .i64 (p : Int)]) :: pureA (p ≤ B) :: F) w := (St.join (r := [_, _]) (s := F)).2 h1;obtain ⟨hp, h3⟩ := St.pure.1 (h2.perm (List.Perm.swap ..));exact ⟨p, hp, h3⟩
theorem St.rdMk {W w : World} {F : List Asr} {rb : Nat} {ab : Option Addr} {n cb B p : Nat} (hp : p ≤ B) (h : St W (boxA rb 2 69 (.agg #[.slice ab n cb, .int .i64 (p : Int)]) :: F) w) : St W (rdA rb ab n cb B :: F) w := by
 refine St.exI p ((St.join (r := [_, _]) (s := F)).1 ?_);exact (St.pure.2 ⟨hp, h⟩).perm (List.Perm.swap ..)
theorem St.rdLe {W w : World} {F : List Asr} {rb : Nat} {ab : Option Addr} {n cb B B' : Nat} (h : St W (rdA rb ab n cb B :: F) w) (hB : B ≤ B') : St W (rdA rb ab n cb B' :: F) w := by
 obtain ⟨p, hp, h1⟩ := h.rdOpen;exact St.rdMk (Nat.le_trans hp hB) h1
def Bx.rdL {W w : World} {F : List Asr} {rb : Nat} {ab : Option Addr} {n cb B : Nat} (h : Bx (St W (rdA rb ab n cb B :: F) w)) (B' : Nat) (hB : B ≤ B' := by omega) : Bx (St W (rdA rb ab n cb B' :: F) w) := ⟨h.out.rdLe hB⟩
theorem Zg9 : UD prog 22 5 1 1 := by
 obtain ⟨i0, hi, hz0, hz1, hz2⟩ := info_parts (P := prog) (e := 5) (z := .int .u8 0) (size := 1) (bytes := 1) (by kernel_rfl);exact ⟨Tryz.underlying22, ⟨i0, _, hi, hz0, hz1, hz2, rfl⟩, by decide⟩
section
variable {P : Program} {ops : Array Oper} {Q : Exit → Act → World → Prop} {rest : List Oper} {o : Oper} {a : Act} {w W : World} {N : Nat} {l : List (Nat × Value)} {s : List Asr} {t e : TypeId} {x y : Operand}
theorem Zco {c : Code} (n : Nat) (h : c.wp P (Exit.then (Code.rounds P c Q n) Q) a w) : (Code.loop c).wp P Q a w := wp_loop_rounds (n + 1) h
theorem Xp {c : Code} (n : Nat) (h : c.wp P (Exit.then (Code.rounds P c Q n) Q) a w) : Code.rounds P c Q (n + 1) a w := h
end
def ZeL (p : Nat → Bool) : Nat → Bool
 | 0 => true
 | k + 1 => ZeL p k && p k
theorem Ziu {p : Nat → Bool} {k n : Nat} (h : p k = false) (hk : k < n) : ZeL p n = false := by
 induction n with
 | zero => omega
 | succ n ih =>
  unfold ZeL
  by_cases h1 : k < n
  ·rw [ih h1]; rfl
  ·obtain rfl : k = n := by omega
   rw [h]; exact Bool.and_false _
theorem Zjw {p : Nat → Bool} {n : Nat} (h : ZeL p n = true) {k : Nat} (hk : k < n) : p k = true := by
 cases hp : p k with
 | true => rfl
 | false => rw [Ziu hp hk] at h; cases h
theorem Zjx {p : Nat → Bool} {n : Nat} (h : ∀ k, k < n → p k = true) : ZeL p n = true := by
 induction n with
 | zero => rfl
 | succ n ih =>
  unfold ZeL;rw [ih (fun k hk => h k (by omega)), h n (by omega)]; rfl
theorem Y3 : UD prog 38 9 1 16 := by
 obtain ⟨i0, hi, hz0, hz1, hz2⟩ := info_parts Tryz.infoStringS;exact ⟨Tryz.underlying38, ⟨i0, _, hi, hz0, hz1, hz2, rfl⟩, by decide⟩
structure HD where
  a0 : Option Addr
  c0 : Nat
  a1 : Option Addr
  c1 : Nat
  d : Zop
instance : Inhabited Zop := ⟨⟨[], [], false⟩⟩
instance : Inhabited HD := ⟨⟨none, 0, none, 0, default⟩⟩
theorem St.swap {W w : World} {a b : Asr} {F : List Asr} (h : St W (a :: b :: F) w) : St W (b :: a :: F) w := h.perm (List.Perm.swap ..)
section
variable {P : Program} {ops : Array Oper} {Q : Exit → Act → World → Prop} {o : Oper} {a : Act} {w W : World} {s : List Asr} {K : Act → World → Prop} {α : Type} {size : Nat} {enc : α → List Value} {e : TypeId} {i0 : Nat}
theorem Zkc (hi0 : ops[i0]? = some o) (hg : o.guard = none) {t : TypeId} {x y : Operand} (ho : o.op = .store t x y) (hd : o.dst = none) {p : Addr} {u v : Value} (hx : a.eval x = .pointer (some p)) (hy : a.eval y = v) (hs : YH P t = true) (hc : w.cell? p = some u) (hf : w.frozen? p = false) (hv : v.oneCell' = true)
  (h : K a (w.setCell p v)) : wpOp P ops Q i0 K a w := by
 refine Vv hi0 hg ?_;have hr : (execOp a.eval o).run P w = .ok .skip (w.setCell p v) := by
  unfold execOp;simp only [ho, hx, hy];simp [Sem.run_bind, ZaR hs hc hf hv]
 unfold Oper.wp;rw [hr];show K (a.put o.dst undef) _;rw [hd];exact h
theorem Zfb {enc : α → List Value} (he : ∀ x, (enc x).length = 1) (hi0 : ops[i0]? = some o) (hg : o.guard = none) {t : TypeId} {x y : Operand} (ho : o.op = .store t x y) (hd : o.dst = none) {g n cap j : Nat} {v : Value} (hx : a.eval x = .pointer (some ⟨g, 0 + j * 1, none⟩)) (hy : a.eval y = v) (hs : YH P t = true) (hS : St W s w) (i : Nat) {xs : List α}
  (hi : s[i]? = some (Zg enc 1 e (.slice (some ⟨g, 0, none⟩) n cap) xs)) (hj : j < xs.length) {z : α} (hz : enc z = [v]) (hv : v.oneCell' = true)
  (h : ∀ w', St W (s.set i (Zg enc 1 e (.slice (some ⟨g, 0, none⟩) n cap) (xs.set j z))) w' → K a w') : wpOp P ops Q i0 K a w := by
 obtain ⟨g', e1, rfl, hb, hw, hlt⟩ := hS.rowOpen i hi (by omega);simp only [Option.some.injEq, Addr.mk.injEq, and_true] at e1;subst e1;have e0 : 0 + j * 1 = j := by omega
 have hc := hS.elem he i hi (List.getElem?_eq_getElem hj);rw [e0] at hx hc;have hc0 : w.cell? ⟨g, j, none⟩ = some ((enc xs[j])[0]'(by rw [he]; omega)) := by
  have := hc 0 _ (List.getElem?_eq_getElem (by rw [he]; omega))
  simpa using this
 have hp := hS.putRow he i hi hj z;rw [hz, show j * 1 = j by omega] at hp;exact Zkc hi0 hg ho hd hx hy hs hc0 (hw.frozenAt j) hv (h _ hp)
end
section
variable {P : Program} {o : Oper} {a : Act} {w : World} {e : TypeId}
theorem ZdN {t : TypeId} {x y : Operand} (ho : o.op = .slice t x (some y) none none) {g off n cap : Nat} (hx : a.eval x = .slice (some ⟨g, off, none⟩) n cap) {kk : IntKind} {m : Int} (hy : a.eval y = .int kk m) {size : Nat} (hu : Yv P t = some (e, size)) {k : Nat} (hm : m = (k : Int)) (hk : k ≤ n) (hc : k < cap) : Yl P w o a (.slice (some ⟨g, off + k * size, none⟩) (n - k) (cap - k)) := by
 unfold Yv at hu
 split at hu
 ·rename_i e' hu'
  split at hu
  ·rename_i inf hq
   simp only [Option.some.injEq, Prod.mk.injEq] at hu;obtain ⟨_, rfl⟩ := hu;subst hm;have h2 : ((k : Int) ≤ (n : Int)) := by omega
   have h3 : ¬ cap = k := by omega
   unfold Yl execOp;simp only [ho, hx, hy, Option.map_some, Option.map_none, Instr.sliceAt, Instr.slice, Sem.run_bind, run_underlying hu' w, Result.andThen_ok];simp [Instr.slice, Instr.sliceBounds, Instr.sliceBound, asIntOf, go_sem, run_underlying hu' w, sizeOf, typeInfo, hq, h2, h3, Addr.add];rw [if_pos hk]
   by_cases hz : k * inf.size = 0
   ·rw [if_pos hz, hz, Nat.add_zero]
   ·rw [if_neg hz]
  ·cases hu
 ·cases hu
end
section
variable {P : Program} {ops : Array Oper} {Q : Exit → Act → World → Prop} {a : Act} {w W : World} {s : List Asr} {fuel m N : Nat} {listed : Array Bool} {oi : Oper} {l : List (Nat × Value)} {K : Act → World → Prop}
end
def holdsA (P : World → Prop) : Asr := ⟨fun w f => ∀ w', w.heap.size ≤ w'.heap.size → (∀ b, b ∈ f → w'.heap[b]? = w.heap[b]?) → P w', fun w w' f hs hb h w2 hs2 hb2 => h w2 (Nat.le_trans hs hs2) fun b hm => (hb2 b hm).trans (hb b hm)⟩
theorem St.hold {W w : World} {A : Asr} {F : List Asr} {P : World → Prop} (h : St W (A :: F) w) (hP : ∀ w f, A.P w f → P w) : St W (holdsA P :: F) w := by
 obtain ⟨f, ⟨f1, f2, rfl, h1, h2⟩, hn, hb⟩ := h.sep;exact ⟨h.bel, f1 ++ f2, ⟨f1, f2, rfl, fun w' hs hb => hP w' f1 (A.loc _ _ _ hs hb h1), h2⟩, hn, hb⟩
theorem St.holds {W w : World} {s : List Asr} {P : World → Prop} (h : St W s w) (i : Nat) (hi : s[i]? = some (holdsA P)) : P w := by
 obtain ⟨f, h1, _⟩ := h.get i hi;exact h1 w (Nat.le_refl _) fun _ _ => rfl
theorem Rd.drop {α : Type} {enc : α → List Value} {size : Nat} {w : World} {g o n : Nat} {xs : List α} (h : Rd enc size w (some ⟨g, o, none⟩) n xs) {k : Nat} (hk : k ≤ xs.length) : Rd enc size w (some ⟨g, o + k * size, none⟩) (n - k) (xs.drop k) := by
 refine ⟨by rw [List.length_drop, h.len], fun i hi => ?_⟩;rw [List.length_drop] at hi;obtain ⟨b, off, x, hx, e, hlt, hr⟩ := h.at_ (k + i) (by omega);simp only [Option.some.injEq, Addr.mk.injEq, and_true] at e;obtain ⟨rfl, rfl⟩ := e;exact ⟨g, o + k * size, x, by rw [List.getElem?_drop]; exact hx, rfl, hlt, by rw [Nat.add_assoc, ← Nat.add_mul]; exact hr⟩
theorem Zf5 {xs : List ByteArray} {m : Nat} (h : ∀ x, x ∈ xs → x.size ≤ m) (k : Nat) : (xs.getD k ByteArray.empty).size ≤ m := by
 by_cases hk : k < xs.length
 ·rw [show xs.getD k ByteArray.empty = xs[k] by simp [List.getD, hk]]
  exact h _ (List.getElem_mem hk)
 ·rw [show xs.getD k ByteArray.empty = ByteArray.empty by simp [List.getD, List.getElem?_eq_none (Nat.le_of_not_lt hk)]]
  exact Nat.zero_le _
theorem XZ (n : Int) (w0 : World) (hT : UG w0) : Calls prog 54 #[.int .i64 n] w0 fun e w' => e = .returned (.string (ZI n)) ∧ Below w0.heap.size w0 w' := by
 have HT := Bx.mk hT; clear hT;have E := Bx.mk (St.start w0);refine ent func54 ntmps54 ?_;refine xsr<|xr 1 rfl<|xne<|xsq<|xsr<|xr 1 rfl ?_;refine ycB ((Qq n 0 999999999 _).mono fun _ _ h => ⟨h.1, h.2 ▸ Below.refl _ _⟩) func18 E ?_;clear E;intro w1 E;refine xr 1 rfl<|xne<|xcs 5 rfl (fun cc1=>?_) fun cc1=>?_;refine xct rfl<|xsr<|xr 1 rfl<|xne<|xre<|xtr<|xb1 results54 rfl ?_;exact ⟨by rw [Zg4 (by have := cc1; simp [inB] at this; omega)]; rfl, E.o.bel⟩;refine xcf rfl<|xsk<|xet<|xsq ?_;have hin : inB n 0 999999999 = true := by simpa using cc1
 obtain ⟨hn0, hn1⟩ : 0 ≤ n ∧ n ≤ 999999999 := by unfold inB at hin; simpa using hin
 obtain ⟨m, rfl⟩ : ∃ m : Nat, n = (m : Int) := ⟨n.toNat, by omega⟩;refine xrl<|xr 1 rfl ?_;refine ycB (Zg5 m (by omega) _ (HT.o.below E.o.bel)) func50 E ?_;clear E;intro w2 E;refine xr 1 rfl<|xne<|xre<|xb1 results54 rfl ?_;exact ⟨by rw [YR hn0 hn1, Int.toNat_natCast], E.o.bel⟩
theorem YK (x : UInt8) : (⟨#[x]⟩ : ByteArray).size = 1 := rfl
theorem Zfc {n : Nat} (h : decide ((2048 : Int) < (n : Int)) = false) : n ≤ 2048 := by have := of_decide_eq_false h; omega
theorem Zfd {n : Nat} (h : decide ((2048 : Int) < (n : Int)) = true) : ¬ n ≤ 2048 := by have := of_decide_eq_true h; omega
theorem X0 (a0 : Option Addr) (n c0 : Nat) (xs : List ByteArray) (w0 : World) (hT : UG w0) (hl : xs.length ≤ 1048576) (hx : szs xs) (hR : Rd Zu 1 w0 a0 n xs) : Calls prog 27 #[.slice a0 n c0] w0 fun e w' => e = .returned (.tuple #[.string (Ym xs).1, .bool (Ym xs).2]) ∧ Below w0.heap.size w0 w' := by
 obtain rfl := hR.len;obtain ⟨g0, o0, r0⟩ := hR.opn; have R0 := Bx.mk r0; clear r0 hR;have HT := Bx.mk hT; clear hT;have E := Bx.mk (St.start w0);refine QM func27 rfl ntmps27 [(0, .slice a0 xs.length c0)] ⟨rfl, trivial⟩ rfl ?_;refine xsr<|xr 2 rfl<|xne<|xsq<|xsr<|xr 1 rfl<|xy rfl (vn 9 1 rfl)<|xr 1 rfl<|xne<|xcd 9 rfl (fun _ dcc1=>?_) fun _ dcc1=>?_;refine xct rfl<|xsr<|xr 2 rfl<|xne<|xre<|xtr<|xb2 results27 rfl rfl ?_;exact ⟨by rw [JQ (by omega)]; rfl, E.o.bel⟩;refine xcf rfl<|xsk<|xet<|xsr ?_;refine yal [.pointer none, .slice none 0 0] E ?_;clear E;intro w1 b1 E;refine xne<|xsq<|xsr<|xr 1 rfl<|xy rfl (vn 9 1 rfl)<|xr 1 rfl<|xne<|xbl ?_;replace E := Bx.mk E.o.bldNew;intro a J;refine Zt (ι := Nat) (fun k a w => (k ≤ xs.length ∧ (Z3 (xs.take k)).size ≤ 2048) ∧ Fr 27 a [(4, .pointer (some ⟨b1, 0, none⟩)), (10, .slice a0 xs.length c0), (11, .int .i64 (xs.length : Int)), (12, .int .i64 (k : Int))] ∧ St w0 ([bldA b1 (Z3 (xs.take k)).data.toList]) w) (fun k => xs.length - k) 0 ⟨⟨Nat.zero_le _, by simp [Z3]⟩, J.less _ ⟨rfl, rfl, rfl, rfl, trivial⟩, E.o⟩ ?_;clear J E; clear a;rintro k a w2 ⟨⟨hk, hr⟩, J, E⟩;replace E := Bx.mk E;have hxk := hx k; have hdec := Uk (n := (xs.getD k ByteArray.empty).size) (by omega);revert a;refine xsr<|xr 1 rfl<|xne<|xsq<|xcd 13 rfl (fun _ dcc2=>?_) fun _ dcc2=>?_
 refine xct rfl<|xsk<|xet<|xsq<|xbl<|xsr<|xy rfl (vxr 9 k 1 rfl (R0.out.ao k (by omega)))<|xy rfl (fun a J=>ylo (v := .string (xs.getD k ByteArray.empty)) rfl (J.ev rfl) (R0.out.elem1 E.o (Zi (xs := xs) (j := k) (d := ByteArray.empty) (by omega)) rfl))<|xr 1 rfl<|xne<|xsr<|xr 1 rfl<|xy rfl (fun a J=>ZM rfl (J.ev rfl) (by kernel_rfl)) ?_;refine ycB (Zg5 ((xs.getD k ByteArray.empty).size) (by omega) _ (HT.o.below E.o.bel)) func50 E ?_;clear E;intro w3 E;replace E:=E.pks [0];refine yc (ZdF w0 _ b1 ((Z3 (xs.take k)).data.toList) (Zy ((xs.getD k ByteArray.empty).size)) (by simp only [List.length_append, List.length_cons, List.length_nil, ← Zh]; omega) E.o) func49 ?_;rintro _ w4 ⟨rfl, hs1⟩;refine ⟨_, rfl, ?_⟩; replace E := Bx.mk hs1;clear hs1;refine xne<|xsr ?_;replace E:=E.pks [0];refine yc (Zir w0 _ b1 ((Z3 (xs.take k)).data.toList ++ (Zy ((xs.getD k ByteArray.empty).size)).data.toList) (58 : UInt8) (by simp only [List.length_append, List.length_cons, List.length_nil, ← Zh]; omega) E.o) func51 ?_;rintro _ w5 ⟨rfl, hs1⟩;refine ⟨_, rfl, ?_⟩; replace E := Bx.mk hs1;clear hs1;refine xne<|xsr<|xr 1 rfl ?_;replace E:=E.pks [0];refine yc (ZdF w0 _ b1 (((Z3 (xs.take k)).data.toList ++ (Zy ((xs.getD k ByteArray.empty).size)).data.toList) ++ [(58 : UInt8)]) (xs.getD k ByteArray.empty) (by simp only [List.length_append, List.length_cons, List.length_nil, ← Zh]; omega) E.o) func49 ?_;rintro _ w6 ⟨rfl, hs1⟩;refine ⟨_, rfl, ?_⟩; replace E := Bx.mk hs1;clear hs1;refine xne<|xsr ?_;refine ycB (Zis w0 _ b1 ((((Z3 (xs.take k)).data.toList ++ (Zy ((xs.getD k ByteArray.empty).size)).data.toList) ++ [(58 : UInt8)]) ++ (xs.getD k ByteArray.empty).data.toList) E.o) func52 E ?_;clear E;intro w7 E;refine xr 1 rfl<|xne<|xcd 24 rfl (fun cc3 dcc3=>?_) fun cc3 dcc3=>?_;refine xct rfl<|xsr<|xr 2 rfl<|xne<|xre<|xbr<|xtr<|xtr<|xbr<|xtr<|xb2 results27 rfl rfl ?_;have hgt : ¬ (Z3 (xs.take (k + 1))).size ≤ 2048 := by rw [JC xs (by omega), Zh, ZC, ZC, ZC]; exact Zfd cc3
 exact ⟨by rw [ZaH hgt]; rfl, E.o.bel⟩;refine xcf rfl<|xsk<|xeb<|xet<|xrl<|xy rfl (vad rfl)<|xr 1 rfl<|xne ?_;replace E : Bx (St w0 [bldA b1 (Z3 (xs.take (k + 1))).data.toList] _) := ⟨by rw [JC xs (by omega), ZC, ZC, ZC]; exact E.o⟩;have hle : (Z3 (xs.take (k + 1))).size ≤ 2048 := by rw [JC xs (by omega), Zh, ZC, ZC, ZC]; exact Zfc cc3
 intro a J;exact ⟨k + 1, ⟨⟨by omega, hle⟩, J.less _ ⟨rfl, rfl, rfl, rfl, trivial⟩, E.o⟩, (by omega)⟩;refine xcf rfl<|xex<|xtx<|xtx<|xbh<|xet<|xsr ?_;replace E:=E.pks [0];refine yc (Zit w0 _ b1 ((Z3 (xs.take k)).data.toList) E.o) func53 ?_;rintro _ w8 ⟨rfl, hs1⟩;refine ⟨_, rfl, ?_⟩; replace E := Bx.mk hs1;clear hs1;refine xr 2 rfl<|xne<|xre<|xb2 results27 rfl rfl ?_;obtain rfl : k = xs.length := by omega
 rw [List.take_length] at hr;exact ⟨by rw [YZ (by omega) hr]; simp [List.take_length], E.o.bel⟩
theorem Zfe (n : Nat) (hn : n ≤ 9223372036854775807) (w0 : World) : Calls prog 31 #[.int .i64 (n : Int)] w0 fun e w' => e = .returned (.string (Zy n)) ∧ Below w0.heap.size w0 w' := by
 induction n using Nat.strongRecOn generalizing w0
 rename_i n ih
 have hd := Uk (n := n / 10) (by omega);have E := Bx.mk (St.start w0);refine ent func31 ntmps31 ?_;refine xsr<|xr 1 rfl<|xne<|xsq<|xsr<|xr 2 rfl<|xne<|xcd 4 rfl (fun _ dcc1=>?_) fun _ dcc1=>?_
 omega
 refine xcf rfl<|xsk<|xet<|xsq<|xsr<|xr 2 rfl<|xne<|xcd 6 rfl (fun _ dcc2=>?_) fun _ dcc2=>?_
 omega
 refine xcf rfl<|xsk<|xet<|xsq<|xsr<|xr 2 rfl<|xne<|xcd 12 rfl (fun _ dcc3=>?_) fun _ dcc3=>?_;refine xct rfl<|xsr<|xr 1 rfl<|xy rfl (vad rfl)<|xy rfl (fun a J=>Zar (b := UInt8.ofNat ((48 : Int) + (n : Int)).toNat) rfl (J.ev rfl) (by omega) rfl (by kernel_rfl) (by kernel_rfl)) ?_;refine ybs encB 5 1 [(UInt8.ofNat ((48 : Int) + (n : Int)).toNat)] E ?_;clear E;intro b1 w1 E;refine xy rfl (fun a J=>Q7 (e1 := 5) rfl (J.ev rfl) (by kernel_rfl) (by kernel_rfl) (by kernel_rfl) (xs := [(UInt8.ofNat ((48 : Int) + (n : Int)).toNat)]) (St.rdN E.o YJ 0 rfl))<|xr 1 rfl<|xne<|xre<|xtr<|xb1 results31 rfl ?_;exact ⟨by rw [Zio (by omega), show UInt8.ofNat (48 + (n : Int)).toNat = UInt8.ofNat (48 + n) from congrArg UInt8.ofNat (by omega)], E.o.bel⟩;refine xcf rfl<|xsk<|xet<|xsq ?_;refine hld [] E ?_;clear E;intro w2 E M;refine Hp 0 E rfl<|xhy 1 E.o rfl rfl (fun E a J=>Jc rfl (J.ev rfl) (J.ev rfl) (by omega) (Je (by omega) (by omega) (by omega)))<|Hp 3 E rfl<|xhy 4 E.o rfl rfl (fun E a J=>QK rfl (J.ev rfl) (J.ev rfl) (by omega) (QN (by omega) (by omega)))<|xhy 5 E.o rfl rfl (fun E=>vad rfl)<|xhy 6 E.o rfl rfl (fun E a J=>Zar (b := UInt8.ofNat ((48 : Int) + ((n : Int) % 10)).toNat) rfl (J.ev rfl) (by omega) rfl (by kernel_rfl) (by kernel_rfl)) ?_;refine UE 2 7 ?_ ?_;refine yoB (ih (n / 10) (by omega) (by omega) _) func31 ?_;intro w3 hb; replace E := Bx.mk (E.o.later hb); replace M := Bx.mk (M.o.later hb);clear hb; refine onb E.o ?_;refine Zk 7 ?_;intro a J;refine ZK (enc := encB) (e := 5) (size := 1) rfl rfl J rfl rfl rfl (ps := [(0, .int .u8 ((UInt8.ofNat ((48 : Int) + ((n : Int) % 10)).toNat).toNat : Int))]) rfl (cells := [.int .u8 ((UInt8.ofNat ((48 : Int) + ((n : Int) % 10)).toNat).toNat : Int)]) (by kernel_rfl) [(UInt8.ofNat ((48 : Int) + ((n : Int) % 10)).toNat)] rfl rfl (by unfold maxLen; omega) rfl M.o E.o ?_; clear J E M a; intro b2 a w5 J M E; replace E := Bx.mk E; replace M := Bx.mk M; refine ⟨E.o, ?_⟩;revert a;refine Zk 8 ?_;refine yoy E (fun a J=>Q7 (e1 := 5) rfl (J.ev rfl) (by kernel_rfl) (by kernel_rfl) (by kernel_rfl) (xs := [(UInt8.ofNat ((48 : Int) + ((n : Int) % 10)).toNat)]) (St.rdN M.o YJ 0 rfl)) ?_;refine xhy 9 E.o rfl rfl (fun E a J=>ZB rfl (J.ev rfl) (J.ev rfl) (by (try simp only [YK, Zl]); omega))<|Hp 10 E rfl ?_;refine hdn ?_;replace E := M; clear M;refine xet<|xre<|xb1 results31 rfl ?_;exact ⟨by rw [ZdB (n := n) (by omega), show UInt8.ofNat (48 + (n : Int) % (10 : Int)).toNat = UInt8.ofNat (48 + n % 10) from congrArg UInt8.ofNat (by omega)], E.o.bel⟩;intro a J;refine ZK (enc := encB) (e := 5) (size := 1) rfl rfl J rfl rfl rfl (ps := [(0, .int .u8 ((UInt8.ofNat ((48 : Int) + ((n : Int) % 10)).toNat).toNat : Int))]) rfl (cells := [.int .u8 ((UInt8.ofNat ((48 : Int) + ((n : Int) % 10)).toNat).toNat : Int)]) (by kernel_rfl) [(UInt8.ofNat ((48 : Int) + ((n : Int) % 10)).toNat)] rfl rfl (by unfold maxLen; omega) rfl M.o E.o ?_; clear J E M a; intro b3 a w8 J M E; replace E := Bx.mk E; replace M := Bx.mk M; refine ⟨E.o, ?_⟩;revert a;refine UE 2 8 ?_ ?_;refine yoB (ih (n / 10) (by omega) (by omega) _) func31 ?_;intro w9 hb; replace E := Bx.mk (E.o.later hb); replace M := Bx.mk (M.o.later hb);clear hb; refine onb E.o ?_;refine Zk 8 ?_;refine yoy E (fun a J=>Q7 (e1 := 5) rfl (J.ev rfl) (by kernel_rfl) (by kernel_rfl) (by kernel_rfl) (xs := [(UInt8.ofNat ((48 : Int) + ((n : Int) % 10)).toNat)]) (St.rdN M.o YJ 0 rfl)) ?_;refine xhy 9 E.o rfl rfl (fun E a J=>ZB rfl (J.ev rfl) (J.ev rfl) (by (try simp only [YK, Zl]); omega))<|Hp 10 E rfl ?_;refine hdn ?_;replace E := M; clear M;refine xet<|xre<|xb1 results31 rfl ?_;exact ⟨by rw [ZdB (n := n) (by omega), show UInt8.ofNat (48 + (n : Int) % (10 : Int)).toNat = UInt8.ofNat (48 + n % 10) from congrArg UInt8.ofNat (by omega)], E.o.bel⟩;refine yoy E (fun a J=>Q7 (e1 := 5) rfl (J.ev rfl) (by kernel_rfl) (by kernel_rfl) (by kernel_rfl) (xs := [(UInt8.ofNat ((48 : Int) + ((n : Int) % 10)).toNat)]) (St.rdN M.o YJ 0 rfl)) ?_;refine Zk 2 ?_;refine yoB (ih (n / 10) (by omega) (by omega) _) func31 ?_;intro w12 hb; replace E := Bx.mk (E.o.later hb); replace M := Bx.mk (M.o.later hb);clear hb; refine onb E.o ?_;refine xhy 9 E.o rfl rfl (fun E a J=>ZB rfl (J.ev rfl) (J.ev rfl) (by (try simp only [YK, Zl]); omega))<|Hp 10 E rfl ?_;refine hdn ?_;replace E := M; clear M;refine xet<|xre<|xb1 results31 rfl ?_;exact ⟨by rw [ZdB (n := n) (by omega), show UInt8.ofNat (48 + (n : Int) % (10 : Int)).toNat = UInt8.ofNat (48 + n % 10) from congrArg UInt8.ofNat (by omega)], E.o.bel⟩
theorem ZaY : (⟨#[58]⟩ : ByteArray).size = 1 := rfl
theorem JV (a0 : Option Addr) (n c0 : Nat) (xs : List ByteArray) (w0 : World) (hl : xs.length ≤ 1048576) (hx : szs xs) (hR : Rd Zu 1 w0 a0 n xs) : Calls prog 30 #[.slice a0 n c0] w0 fun e w' => e = .returned (.tuple #[.string (Ym xs).1, .bool (Ym xs).2]) ∧ Below w0.heap.size w0 w' := by
 obtain rfl := hR.len;obtain ⟨g0, o0, r0⟩ := hR.opn; have R0 := Bx.mk r0; clear r0 hR;have E := Bx.mk (St.start w0);refine QM func30 rfl ntmps30 [(0, .slice a0 xs.length c0)] ⟨rfl, trivial⟩ rfl ?_;refine xsr<|xr 2 rfl<|xne<|xsr<|xr 1 rfl<|xne<|xsq<|xsr<|xr 1 rfl<|xne<|xbl ?_;intro a J;refine Zt (ι := Nat) (fun k a w => (k ≤ xs.length ∧ (Z3 (xs.take k)).size ≤ 2048 ∧ (¬ xs.length ≤ 60 → k = 0)) ∧ Fr 44 a [(0, .slice a0 xs.length c0), (4, .string (Z3 (xs.take k))), (5, .int .i64 (k : Int))] ∧ St w0 ([]) w) (fun k => xs.length - k) 0 ⟨⟨Nat.zero_le _, by simp [Z3], fun _ => rfl⟩, J.less _ ⟨rfl, rfl, rfl, trivial⟩, E.o⟩ ?_;clear J E; clear a;rintro k a w1 ⟨⟨hk, hr, h0k⟩, J, E⟩;replace E := Bx.mk E;have hxk := hx k; have hdec := Uk (n := (xs.getD k ByteArray.empty).size) (by omega);revert a;refine xsq<|xsr<|xr 2 rfl<|xy rfl (vn 9 1 rfl)<|xr 2 rfl<|xcd 10 rfl (fun _ dcc1=>?_) fun _ dcc1=>?_
 refine xr 1 rfl<|xy rfl (vn 9 1 rfl)<|xr 2 rfl<|xne<|xcd 14 rfl (fun _ dcc2=>?_) fun _ dcc2=>?_;refine xct rfl<|xsk<|xet<|xsq<|xbl<|xsq<|xsr<|xr 2 rfl<|xy rfl (vxr 9 k 1 rfl (R0.out.ao k (by omega)))<|xy rfl (fun a J=>ylo (v := .string (xs.getD k ByteArray.empty)) rfl (J.ev rfl) (R0.out.elem1 E.o (Zi (xs := xs) (j := k) (d := ByteArray.empty) (by omega)) rfl))<|xy rfl (fun a J=>ZM rfl (J.ev rfl) (by kernel_rfl))<|xr 1 rfl<|xne<|xcd 22 rfl (fun _ dcc3=>?_) fun _ dcc3=>?_;refine xct rfl<|xsr<|xr 2 rfl<|xne<|xre<|xtr<|xbr<|xtr<|xtr<|xbr<|xtr<|xb2 results30 rfl rfl ?_;exact ⟨by rw [ZdE (k := k) (by omega) (by omega)]; rfl, E.o.bel⟩;refine xcf rfl<|xsk<|xet<|xsq ?_;intro a J;refine Yf (by kernel_rfl) (by kernel_rfl) E.o ?_;revert a;refine xqr 3 rfl<|xq rfl (fun E=>vxr 9 k 1 rfl (R0.out.ao k (by omega)))<|xq rfl (fun E a J=>ylo (v := .string (xs.getD k ByteArray.empty)) rfl (J.ev rfl) (R0.out.elem1 E (Zi (xs := xs) (j := k) (d := ByteArray.empty) (by omega)) rfl))<|xq rfl (fun E a J=>ZM rfl (J.ev rfl) (by kernel_rfl)) ?_;refine yq (fun _ E => Zfe ((xs.getD k ByteArray.empty).size) (by omega) _) func31 ?_;refine xq rfl (fun E a J=>ZB rfl (J.ev rfl) (J.ev rfl) (by (try simp only [ZaY, Zl]); omega))<|xq rfl (fun E a J=>ZB rfl (J.ev rfl) (J.ev rfl) (by (try simp only [ZaY, Zl]); omega))<|xqr 2 rfl<|xq rfl (fun E=>vxr 9 k 1 rfl (R0.out.ao k (by omega)))<|xq rfl (fun E a J=>ylo (v := .string (xs.getD k ByteArray.empty)) rfl (J.ev rfl) (R0.out.elem1 E (Zi (xs := xs) (j := k) (d := ByteArray.empty) (by omega)) rfl))<|xq rfl (fun E a J=>ZB rfl (J.ev rfl) (J.ev rfl) (by (try simp only [ZaY, Zl]); omega))<|xqr 1 rfl ?_;intro a J;refine wpQuiet_nil ?_; intro w2 E; replace E := Bx.mk E;revert a;refine xet<|xsr<|xr 1 rfl<|xy rfl (fun a J=>ZM rfl (J.ev rfl) (by kernel_rfl))<|xr 1 rfl<|xne<|xcd 39 rfl (fun cc4 dcc4=>?_) fun cc4 dcc4=>?_
 refine xct rfl<|xsr<|xr 2 rfl<|xne<|xre<|xbr<|xtr<|xtr<|xbr<|xtr<|xb2 results30 rfl rfl ?_;have hgt : ¬ (Z3 (xs.take (k + 1))).size ≤ 2048 := by rw [JC xs (by omega)]; exact Zfd cc4
 exact ⟨by rw [ZaH hgt]; rfl, E.o.bel⟩;refine xcf rfl<|xsk<|xeb<|xet<|xrl<|xr 1 rfl<|xy rfl (vad rfl)<|xr 1 rfl<|xne ?_;have hst := JC xs (k := k) (by omega);have hle : (Z3 (xs.take (k + 1))).size ≤ 2048 := by rw [hst]; exact Zfc cc4
 intro a J;exact ⟨k + 1, ⟨⟨by omega, hle, fun h => absurd h (by omega)⟩, J.less _ ⟨rfl, (congrArg (fun z => some (Value.string z)) hst.symm), rfl, trivial⟩, E.o⟩, (by omega)⟩;refine xcf rfl<|xex<|xtx<|xtx<|xbh<|xet<|xsr<|xr 2 rfl<|xy rfl (vn 9 1 rfl)<|xr 3 rfl<|xne<|xre<|xb2 results30 rfl rfl ?_
 by_cases h60 : xs.length ≤ 60
 obtain rfl : k = xs.length := by omega
 rw [List.take_length] at hr;exact ⟨by rw [YZ h60 hr, List.take_length, show ((decide ((xs.length : Int) ≤ 60))) = true from decide_eq_true (by omega)], E.o.bel⟩;obtain rfl : k = 0 := h0k (by omega);exact ⟨by rw [JQ h60, show ((decide ((xs.length : Int) ≤ 60))) = false from decide_eq_false (by omega)]; rfl, E.o.bel⟩;refine xr 4 rfl<|xne<|xcf rfl<|xex<|xtx<|xtx<|xbh<|xet<|xsr<|xr 2 rfl<|xy rfl (vn 9 1 rfl)<|xr 3 rfl<|xne<|xre<|xb2 results30 rfl rfl ?_
 by_cases h60 : xs.length ≤ 60
 obtain rfl : k = xs.length := by omega
 rw [List.take_length] at hr;exact ⟨by rw [YZ h60 hr, List.take_length, show ((decide ((xs.length : Int) ≤ 60))) = true from decide_eq_true (by omega)], E.o.bel⟩;obtain rfl : k = 0 := h0k (by omega);exact ⟨by rw [JQ h60, show ((decide ((xs.length : Int) ≤ 60))) = false from decide_eq_false (by omega)]; rfl, E.o.bel⟩
def Qj (s : ByteArray) : Nat → ByteArray
 | 0 => ByteArray.empty
 | n + 1 => s ++ Qj s n
theorem Ziv (s : ByteArray) (n : Nat) : (Qj s n).size = n * s.size := by
 induction n with
 | zero => simp [Qj]
 | succ n ih => unfold Qj; rw [ByteArray.size_append, ih, Nat.succ_mul]; omega
theorem Zff (s : ByteArray) (n : Nat) : Qj (s ++ s) n = Qj s (2 * n) := by
 induction n with
 | zero => rfl
 | succ n ih =>
  rw [show 2 * (n + 1) = 2 * n + 1 + 1 by omega];unfold Qj;rw [ih]
  conv => rhs; rw [show Qj s (2 * n + 1) = s ++ Qj s (2 * n) from rfl]
  apply Yx
  simp [ZC]
theorem ZlP (o s : ByteArray) (n : Nat) (h : n % 2 = 1) : o ++ Qj s n = (o ++ s) ++ Qj (s ++ s) (n / 2) := by
 rw [Zff];obtain ⟨m, rfl⟩ : ∃ m, n = 2 * m + 1 := ⟨n / 2, by omega⟩;rw [show (2 * m + 1) / 2 = m by omega]
 conv => lhs; rw [show Qj s (2 * m + 1) = s ++ Qj s (2 * m) from rfl]
 apply Yx
 simp [ZC]
theorem Zkd (o s : ByteArray) (n : Nat) (h : ¬ n % 2 = 1) : o ++ Qj s n = o ++ Qj (s ++ s) (n / 2) := by
 rw [Zff, show 2 * (n / 2) = n by omega]
theorem Ziw (s : ByteArray) (n : Nat) (w0 : World) (hn : n ≤ 1000000) (hs : n * s.size ≤ 1000000000) (hs2 : s.size ≤ 1000000000) : Calls prog 92 #[.string s, .int .i64 (n : Int)] w0 fun e w' => e = .returned (.string (Qj s n)) ∧ Below w0.heap.size w0 w' := by
 have E := Bx.mk (St.start w0);refine ent func92 ntmps92 ?_;refine xsr<|xr 1 rfl<|xne<|xsr<|xr 1 rfl<|xne<|xsq<|xbl ?_;intro a J;refine Zt (ι := Nat) (fun m a w => ∃ (t o : ByteArray), (m ≤ n ∧ o ++ Qj t m = Qj s n ∧ o.size + m * t.size = n * s.size ∧ t.size ≤ 2 * (n * s.size) + s.size) ∧ Fr 20 a [(0, .string t), (1, .int .i64 (m : Int)), (5, .string o)] ∧ St w0 ([]) w) (fun m => m) n ⟨s, ByteArray.empty, ⟨Nat.le_refl _, rfl, by simp, by omega⟩, J.less _ ⟨rfl, rfl, rfl, trivial⟩, E.o⟩ ?_;clear J E; clear a;rintro m a w1 ⟨t, o, ⟨hm, hq, hz, ht⟩, J, E⟩;replace E := Bx.mk E;revert a;refine xsq<|xsr<|xr 2 rfl<|xne<|xcd 7 rfl (fun _ dcc1=>?_) fun _ dcc1=>?_
 refine xct rfl<|xsk<|xet<|xbl<|xsq<|xsq ?_;have hm1 : 1 * t.size ≤ m * t.size := Nat.mul_le_mul_right _ (by omega);refine xrl<|xr 1 rfl<|xy rfl (fun a J=>QK rfl (J.ev rfl) (J.ev rfl) (by omega) (QN (by omega) (by omega)))<|xr 1 rfl<|xne<|xce 10 rfl (fun _ dcc2=>?_) fun _ dcc2=>?_;refine xct rfl<|xrl<|xr 2 rfl<|xy rfl (fun a J=>ZB rfl (J.ev rfl) (J.ev rfl) (by omega))<|xr 1 rfl<|xne<|xsr<|xr 2 rfl<|xy rfl (fun a J=>ZB rfl (J.ev rfl) (J.ev rfl) (by omega))<|xr 1 rfl<|xne<|xrl<|xr 1 rfl<|xy rfl (fun a J=>Jc rfl (J.ev rfl) (J.ev rfl) (by omega) (Je (by omega) (by omega) (by omega)))<|xr 1 rfl<|xni<|xeb<|xet ?_;have hmm : m / 2 + m / 2 + m % 2 = m := by omega
 have ho : m % 2 = 1 := by omega
 rw [ZlP o t m ho] at hq;have hts : (t ++ t).size = t.size + t.size := ByteArray.size_append;have hos : (o ++ t).size = o.size + t.size := ByteArray.size_append;have hmt : (m / 2) * (t.size + t.size) + (m % 2) * t.size = m * t.size := by rw [Nat.mul_add, ← Nat.add_mul, ← Nat.add_mul, hmm]
 have hm1 : 1 * t.size ≤ m * t.size := Nat.mul_le_mul_right _ (by omega);rw [ho, Nat.one_mul] at hmt;intro a J;exact ⟨m / 2, ⟨_, _, ⟨by omega, hq, by rw [hts, hos]; omega, by rw [hts]; omega⟩, J.less _ ⟨rfl, (by show _ = some (Value.int .i64 ((m / 2 : Nat) : Int)); rw [show ((m / 2 : Nat) : Int) = (m : Int) / 2 by omega]; rfl), rfl, trivial⟩, E.o⟩, (by omega)⟩;refine xcf rfl<|xsk<|xet<|xsr<|xr 2 rfl<|xy rfl (fun a J=>ZB rfl (J.ev rfl) (J.ev rfl) (by omega))<|xr 1 rfl<|xne<|xrl<|xr 1 rfl<|xy rfl (fun a J=>Jc rfl (J.ev rfl) (J.ev rfl) (by omega) (Je (by omega) (by omega) (by omega)))<|xr 1 rfl<|xni<|xeb<|xet ?_;have hmm : m / 2 + m / 2 + m % 2 = m := by omega
 have ho : ¬ m % 2 = 1 := by omega
 rw [Zkd o t m ho] at hq;have hts : (t ++ t).size = t.size + t.size := ByteArray.size_append;have hmt : (m / 2) * (t.size + t.size) + (m % 2) * t.size = m * t.size := by rw [Nat.mul_add, ← Nat.add_mul, ← Nat.add_mul, hmm]
 have hm1 : 1 * t.size ≤ m * t.size := Nat.mul_le_mul_right _ (by omega);rw [show m % 2 = 0 by omega, Nat.zero_mul] at hmt;intro a J;exact ⟨m / 2, ⟨_, _, ⟨by omega, hq, by rw [hts]; omega, by rw [hts]; omega⟩, J.less _ ⟨rfl, (by show _ = some (Value.int .i64 ((m / 2 : Nat) : Int)); rw [show ((m / 2 : Nat) : Int) = (m : Int) / 2 by omega]; rfl), rfl, trivial⟩, E.o⟩, (by omega)⟩;refine xcf rfl<|xex<|xtx<|xtx<|xbh<|xet<|xsr<|xr 2 rfl<|xne<|xre<|xb1 results92 rfl ?_;obtain rfl : m = 0 := by omega
 have ho : o = Qj s n := by rw [← hq]; apply Yx; simp [ZC, Qj]
 exact ⟨by rw [ho], E.o.bel⟩
theorem Vf {n lo hi : Int} (h1 : lo ≤ n) (h2 : n ≤ hi) : inB n lo hi = true := by
 unfold inB; simp [h1, h2]
theorem ZdO : UD prog 39 3 1 8 := by
 obtain ⟨i0, hi, hz0, hz1, hz2⟩ := info_parts (P := prog) (e := 3) (z := .int .i64 0) (size := 1) (bytes := 8) (by kernel_rfl);exact ⟨Tryz.underlying39, ⟨i0, _, hi, hz0, hz1, hz2, rfl⟩, by decide⟩
theorem YW (n : Int) (h0 : 0 ≤ n) (h1 : n ≤ 9223372036854775807) (w0 : World) : Calls prog 31 #[.int .i64 n] w0 fun e w' => e = .returned (.string (Zy n.toNat)) ∧ Below w0.heap.size w0 w' := by
 obtain ⟨m, rfl⟩ : ∃ m : Nat, n = (m : Int) := ⟨n.toNat, by omega⟩;rw [Int.toNat_natCast]; exact Zfe m (by omega) w0
def Zcp : ByteArray := ⟨#[46]⟩
def Z4 (p : PtrD) : ByteArray := bif p.ok then (bif p.hole then ⟨#[45]⟩ else ZI p.aC ++ Zcp ++ ZI p.al ++ Zcp ++ ZI p.am ++ Zcp ++ ZI p.aB ++ Zcp ++ ZI p.aq) else ByteArray.empty
theorem ZbJ {p : PtrD} (h : p.ok = false) : Z4 p = ByteArray.empty := by unfold Z4; rw [h]; rfl
theorem X8 {p : PtrD} (h : p.ok = true) (h2 : p.hole = true) : Z4 p = ⟨#[45]⟩ := by unfold Z4; rw [h, h2]; rfl
theorem UH {p : PtrD} (h : p.ok = true) (h2 : p.hole = false) : Z4 p = ZI p.aC ++ Zcp ++ ZI p.al ++ Zcp ++ ZI p.am ++ Zcp ++ ZI p.aB ++ Zcp ++ ZI p.aq := by unfold Z4; rw [h, h2]; rfl
theorem ZlQ : Zcp.size = 1 := rfl
theorem ZbK (p : PtrD) : (Z4 p).size ≤ 49 := by
 have h1 := Yr p.aC; have h2 := Yr p.al; have h3 := Yr p.am; have h4 := Yr p.aB; have h5 := Yr p.aq
 cases h : p.ok with
 | false => rw [ZbJ h]; exact Nat.zero_le _
 | true =>
  cases hh : p.hole with
  | true => rw [X8 h hh]; decide
  | false => rw [UH h hh]; simp only [Zl, ZlQ]; omega
theorem PtrD.ok_all {p : PtrD} (h : p.ok = true) (h2 : p.hole = false) : 8 ≤ p.aC ∧ p.aC ≤ 63 ∧ 1 ≤ p.al ∧ p.al ≤ 900 ∧ 1 ≤ p.am ∧ p.am ≤ 128 ∧ 0 ≤ p.aB ∧ p.aB ≤ 99460728 ∧ 0 ≤ p.aq ∧ p.aq ≤ 2 := by
 unfold PtrD.ok at h;rw [h2, Bool.false_or] at h;simp only [Bool.and_eq_true] at h;have h1 := Zs h.1.1.1.1;have h3 := Zs h.1.1.1.2;have h4 := Zs h.1.1.2;have h5 := Zs h.1.2;have h6 := Zs h.2
 omega
def Znm (x : Option Addr) : List Value := [.pointer x]
theorem Xq (x : Option Addr) : (Znm x).length = 1 := rfl
theorem Zoy (a b c d e s : ByteArray) : QO [a, b, c, d, e] s = a ++ s ++ b ++ s ++ c ++ s ++ d ++ s ++ e := by
 apply Yx
 show Go.Lib.join _ _ = _;simp only [List.map_cons, List.map_nil, Go.Lib.join_cons, Go.Lib.joinTail, ZC, List.flatten_cons, List.flatten_nil, List.append_nil, List.append_assoc]
theorem Zfg (b : Nat) (w0 : World) : Calls prog 76 #[.pointer (some ⟨b, 0, none⟩)] w0 fun e w' => ∃ ao cp, e = .returned (.slice ao 5 cp) ∧ St w0 [Zg Znm 1 59 (.slice ao 5 cp) [(some ⟨b, 0 + 0, none⟩), (some ⟨b, 0 + 1, none⟩), (some ⟨b, 0 + 2, none⟩), (some ⟨b, 0 + 3, none⟩), (some ⟨b, 0 + 4, none⟩)]] w' := by
 have E := Bx.mk (St.start w0);refine ent func76 ntmps76 ?_;refine xsr<|xr 1 rfl<|xne<|xsq ?_;intro a J;refine Vd 15 (by kernel_rfl) (by kernel_rfl) E.o ?_;simp only [List.take_succ_cons, List.take_zero, List.drop_succ_cons, List.drop_zero];intro w1 E;replace E := Bx.mk E;refine ZU rfl J rfl rfl (Y6 rfl (J.ev rfl)) ?_; clear J a; intro a J;refine ZU rfl J rfl rfl (Qz rfl (J.ev rfl)) ?_; clear J a; intro a J;refine ZU rfl J rfl rfl (yfa 0 rfl (J.ev rfl)) ?_; clear J a; intro a J;refine ZU rfl J rfl rfl (Y6 rfl (J.ev rfl)) ?_; clear J a; intro a J;refine ZU rfl J rfl rfl (Qz rfl (J.ev rfl)) ?_; clear J a; intro a J;refine ZU rfl J rfl rfl (yfa 1 rfl (J.ev rfl)) ?_; clear J a; intro a J;refine ZU rfl J rfl rfl (Y6 rfl (J.ev rfl)) ?_; clear J a; intro a J;refine ZU rfl J rfl rfl (Qz rfl (J.ev rfl)) ?_; clear J a; intro a J;refine ZU rfl J rfl rfl (yfa 2 rfl (J.ev rfl)) ?_; clear J a; intro a J;refine ZU rfl J rfl rfl (Y6 rfl (J.ev rfl)) ?_; clear J a; intro a J;refine ZU rfl J rfl rfl (Qz rfl (J.ev rfl)) ?_; clear J a; intro a J;refine ZU rfl J rfl rfl (yfa 3 rfl (J.ev rfl)) ?_; clear J a; intro a J;refine ZU rfl J rfl rfl (Y6 rfl (J.ev rfl)) ?_; clear J a; intro a J;refine ZU rfl J rfl rfl (Qz rfl (J.ev rfl)) ?_; clear J a; intro a J;refine ZU rfl J rfl rfl (yfa 4 rfl (J.ev rfl)) ?_; clear J a; intro a J;refine wpStill_nil ?_;revert a;refine ybs Znm 59 1 [(some ⟨b, 0 + 0, none⟩), (some ⟨b, 0 + 1, none⟩), (some ⟨b, 0 + 2, none⟩), (some ⟨b, 0 + 3, none⟩), (some ⟨b, 0 + 4, none⟩)] E ?_;clear E;intro b1 w2 E;refine xr 1 rfl<|xne<|xre<|xb1 results76 rfl ?_;exact ⟨_, _, rfl, E.o⟩
theorem VN (p : PtrD) (w0 : World) (hT : UG w0) : Calls prog 55 #[pV p] w0 fun e w' => e = .returned (.string (Z4 p)) ∧ Below w0.heap.size w0 w' := by
 have HT := Bx.mk hT; clear hT;have E := Bx.mk (St.start w0);refine ent func55 ntmps55 ?_;refine xsr ?_;refine ybx E ?_;clear E;intro w1 b1 E;refine xr 1 rfl<|xne<|xsq<|xbl<|xsr<|Xw 0 5 E rfl rfl ?_;refine ycB (Uz p _) func20 E ?_;clear E;intro w2 E;refine xr 2 rfl<|xne<|xcs 6 rfl (fun cc1=>?_) fun cc1=>?_;refine xct rfl<|xsr<|xr 1 rfl<|xne<|xre<|xbr<|xtr<|xb1 results55 rfl ?_;exact ⟨by rw [ZbJ (by simpa using cc1)]; rfl, E.o.bel⟩;refine xcf rfl<|xsr<|Xw 0 5 E rfl rfl ?_;refine ycB (Jv p _) func21 E ?_;clear E;intro w3 E;refine xr 1 rfl<|xne<|xcs 10 rfl (fun cc2=>?_) fun cc2=>?_;refine xct rfl<|xsr<|xr 1 rfl<|xne<|xre<|xbr<|xtr<|xb1 results55 rfl ?_;exact ⟨by rw [X8 (by simpa using cc1) cc2], E.o.bel⟩;refine xcf rfl<|xsk<|xeb<|xet<|xsr<|xr 1 rfl<|xne<|xsq<|xsr ?_;refine yc (Zfg b1 _) func76 ?_;rintro _ w4 ⟨ao2, cp2, rfl, hs⟩;refine ⟨_, rfl, ?_⟩;replace E := E.ad hs;clear hs;refine xy rfl (vn 59 1 rfl)<|xr 1 rfl<|xne<|xbl ?_;intro a J;refine Zco 6 ?_;refine wp_seq ?_;obtain ⟨g3, rfl, _, _, _, _⟩ := E.o.rowOpen 0 rfl (Nat.succ_pos _);revert a;refine xrl<|xr 1 rfl<|xne<|xsq ?_;intro a J;replace J := J.know (k := 16) (c := true) rfl (by decide);revert a;refine xct rfl<|xsk<|xet<|xsq<|xbl<|xsr<|xy rfl (vx 59 0 1 rfl)<|xy rfl (ve Xq E.o 0 0 rfl rfl rfl rfl)<|xr 1 rfl<|xne<|xrl<|xr 3 rfl<|Xl 1 E rfl rfl ?_;refine ycB (XZ p.aC _ (HT.o.below E.o.bel)) func54 E ?_;clear E;intro w5 E;refine ybs Zu 9 1 [ZI p.aC] E ?_;clear E;intro b4 w6 E;replace E := Bx.mk (E.o.nilRow Zu 1 9 none);refine yap Y3 Zf E 0 (St.rdN E.o Zf 1 rfl) (Zv _) ?_;clear E;intro ao6 cp7 w7 E;refine xr 1 rfl<|xni<|xeb<|xet<|xrl<|xy rfl (fun a J=>Yc (r := 1) rfl (J.ev rfl) (J.ev rfl) (by decide))<|xr 1 rfl<|xne ?_;intro a J;refine Xp 5 ?_;revert a;refine xsr<|xr 1 rfl<|xne<|xsq ?_;intro a J;replace J := J.know (k := 16) (c := true) rfl (by decide);revert a;refine xct rfl<|xsk<|xet<|xsq<|xbl<|xsr<|xy rfl (vx 59 1 1 rfl)<|xy rfl (ve Xq E.o 2 1 rfl rfl rfl rfl)<|xr 1 rfl<|xne<|xrl<|xr 3 rfl<|Xl 3 E rfl rfl ?_;refine ycB (XZ p.al _ (HT.o.below E.o.bel)) func54 E ?_;clear E;intro w8 E;refine ybs Zu 9 1 [ZI p.al] E ?_;clear E;intro b8 w9 E;refine yap Y3 Zf E 1 (St.rdN E.o Zf 0 rfl) (Zv _) ?_;clear E;intro ao9 cp10 w10 E;refine xr 1 rfl<|xni<|xeb<|xet<|xrl<|xy rfl (fun a J=>Yc (r := 2) rfl (J.ev rfl) (J.ev rfl) (by decide))<|xr 1 rfl<|xne ?_;intro a J;refine Xp 4 ?_;revert a;refine xsr<|xr 1 rfl<|xne<|xsq ?_;intro a J;replace J := J.know (k := 16) (c := true) rfl (by decide);revert a;refine xct rfl<|xsk<|xet<|xsq<|xbl<|xsr<|xy rfl (vx 59 2 1 rfl)<|xy rfl (ve Xq E.o 3 2 rfl rfl rfl rfl)<|xr 1 rfl<|xne<|xrl<|xr 3 rfl<|Xl 4 E rfl rfl ?_;refine ycB (XZ p.am _ (HT.o.below E.o.bel)) func54 E ?_;clear E;intro w11 E;refine ybs Zu 9 1 [ZI p.am] E ?_;clear E;intro b11 w12 E;refine yap Y3 Zf E 2 (St.rdN E.o Zf 0 rfl) (Zv _) ?_;clear E;intro ao12 cp13 w13 E;refine xr 1 rfl<|xni<|xeb<|xet<|xrl<|xy rfl (fun a J=>Yc (r := 3) rfl (J.ev rfl) (J.ev rfl) (by decide))<|xr 1 rfl<|xne ?_;intro a J;refine Xp 3 ?_;revert a;refine xsr<|xr 1 rfl<|xne<|xsq ?_;intro a J;replace J := J.know (k := 16) (c := true) rfl (by decide);revert a;refine xct rfl<|xsk<|xet<|xsq<|xbl<|xsr<|xy rfl (vx 59 3 1 rfl)<|xy rfl (ve Xq E.o 4 3 rfl rfl rfl rfl)<|xr 1 rfl<|xne<|xrl<|xr 3 rfl<|Xl 5 E rfl rfl ?_;refine ycB (XZ p.aB _ (HT.o.below E.o.bel)) func54 E ?_;clear E;intro w14 E;refine ybs Zu 9 1 [ZI p.aB] E ?_;clear E;intro b14 w15 E;refine yap Y3 Zf E 3 (St.rdN E.o Zf 0 rfl) (Zv _) ?_;clear E;intro ao15 cp16 w16 E;refine xr 1 rfl<|xni<|xeb<|xet<|xrl<|xy rfl (fun a J=>Yc (r := 4) rfl (J.ev rfl) (J.ev rfl) (by decide))<|xr 1 rfl<|xne ?_;intro a J;refine Xp 2 ?_;revert a;refine xsr<|xr 1 rfl<|xne<|xsq ?_;intro a J;replace J := J.know (k := 16) (c := true) rfl (by decide);revert a;refine xct rfl<|xsk<|xet<|xsq<|xbl<|xsr<|xy rfl (vx 59 4 1 rfl)<|xy rfl (ve Xq E.o 5 4 rfl rfl rfl rfl)<|xr 1 rfl<|xne<|xrl<|xr 3 rfl<|Xl 6 E rfl rfl ?_;refine ycB (XZ p.aq _ (HT.o.below E.o.bel)) func54 E ?_;clear E;intro w17 E;refine ybs Zu 9 1 [ZI p.aq] E ?_;clear E;intro b17 w18 E;refine yap Y3 Zf E 4 (St.rdN E.o Zf 0 rfl) (Zv _) ?_;clear E;intro ao18 cp19 w19 E;refine xr 1 rfl<|xni<|xeb<|xet<|xrl<|xy rfl (fun a J=>Yc (r := 5) rfl (J.ev rfl) (J.ev rfl) (by decide))<|xr 1 rfl<|xne ?_;intro a J;refine Xp 1 ?_;revert a;refine xsr<|xr 1 rfl<|xne<|xsq ?_;intro a J;replace J := J.know (k := 16) (c := false) rfl (by decide);revert a;refine xcf rfl<|xex<|xtx<|xtx<|xbh<|xet<|xsr<|xr 1 rfl ?_;refine ycB (ZlF _ _ _ (((((([]) ++ ([ZI p.aC])) ++ ([ZI p.al])) ++ ([ZI p.am])) ++ ([ZI p.aB])) ++ ([ZI p.aq])) (⟨#[46]⟩ : ByteArray) _ (St.rdN E.o Zf 4 rfl) (St.capLe E.o 4 rfl) (by simp) (ZbC (ZbC (ZbC (ZbC (ZbC Ul (Yz (Nat.le_trans (Yr _) (by decide)) Ul)) (Yz (Nat.le_trans (Yr _) (by decide)) Ul)) (Yz (Nat.le_trans (Yr _) (by decide)) Ul)) (Yz (Nat.le_trans (Yr _) (by decide)) Ul)) (Yz (Nat.le_trans (Yr _) (by decide)) Ul)) (by decide)) func77 E ?_;clear E;intro w20 E;refine xr 1 rfl<|xne<|xre<|xb1 results55 rfl ?_;exact ⟨by rw [UH (by simpa using cc1) cc2]; simp only [List.nil_append, List.cons_append, List.singleton_append]; rw [Zoy]; rfl, E.o.bel⟩
theorem Jj (p : PtrD) (w0 : World) : Calls prog 32 #[pV p] w0 fun e w' => e = .returned (.string (Z4 p)) ∧ Below w0.heap.size w0 w' := by
 have E := Bx.mk (St.start w0);refine ent func32 ntmps32 ?_;refine xsr ?_;refine ybx E ?_;clear E;intro w1 b1 E;refine xr 1 rfl<|xne<|xsq<|xsr<|Xw 0 5 E rfl rfl ?_;refine ycB (ZR p _) func24 E ?_;clear E;intro w2 E;refine xr 1 rfl<|xne<|xcs 5 rfl (fun cc1=>?_) fun cc1=>?_;refine xct rfl<|xsr<|xr 1 rfl<|xne<|xre<|xtr<|xb1 results32 rfl ?_;exact ⟨by rw [ZbJ (by simpa using cc1)]; rfl, E.o.bel⟩;refine xcf rfl<|xsk<|xet<|xsq<|xsr<|Xw 0 5 E rfl rfl ?_;refine ycB (ZA p _) func26 E ?_;clear E;intro w3 E;refine xne<|xcs 7 rfl (fun cc2=>?_) fun cc2=>?_;refine xct rfl<|xsr<|xr 1 rfl<|xne<|xre<|xtr<|xb1 results32 rfl ?_;exact ⟨by rw [X8 (by simpa using cc1) cc2], E.o.bel⟩;refine xcf rfl<|xsk<|xet<|xsq ?_;have hpb := PtrD.ok_all (p := p) (by simpa using cc1) cc2;have zfAt : (Zy p.aC.toNat).size ≤ 19 := Uk (by omega);have zfBirth : (Zy p.al.toNat).size ≤ 19 := Uk (by omega);have zfSize : (Zy p.am.toNat).size ≤ 19 := Uk (by omega);have zfSum : (Zy p.aB.toNat).size ≤ 19 := Uk (by omega);have zfLevel : (Zy p.aq.toNat).size ≤ 19 := Uk (by omega);intro a J;refine Yf (by kernel_rfl) (by kernel_rfl) E.o ?_;revert a;refine Qf 0 rfl<|Ql 0 rfl rfl ?_;refine yq (fun _ E => YW p.aC (by omega) (by omega) _) func31 ?_;refine xq rfl (fun E a J=>ZB rfl (J.ev rfl) (J.ev rfl) (by (try simp only [YK, Zl]); omega))<|Qf 1 rfl<|Ql 0 rfl rfl ?_;refine yq (fun _ E => YW p.al (by omega) (by omega) _) func31 ?_;refine xq rfl (fun E a J=>ZB rfl (J.ev rfl) (J.ev rfl) (by (try simp only [YK, Zl]); omega))<|xq rfl (fun E a J=>ZB rfl (J.ev rfl) (J.ev rfl) (by (try simp only [YK, Zl]); omega))<|Qf 2 rfl<|Ql 0 rfl rfl ?_;refine yq (fun _ E => YW p.am (by omega) (by omega) _) func31 ?_;refine xq rfl (fun E a J=>ZB rfl (J.ev rfl) (J.ev rfl) (by (try simp only [YK, Zl]); omega))<|xq rfl (fun E a J=>ZB rfl (J.ev rfl) (J.ev rfl) (by (try simp only [YK, Zl]); omega))<|Qf 3 rfl<|Ql 0 rfl rfl ?_;refine yq (fun _ E => YW p.aB (by omega) (by omega) _) func31 ?_;refine xq rfl (fun E a J=>ZB rfl (J.ev rfl) (J.ev rfl) (by (try simp only [YK, Zl]); omega))<|xq rfl (fun E a J=>ZB rfl (J.ev rfl) (J.ev rfl) (by (try simp only [YK, Zl]); omega))<|Qf 4 rfl<|Ql 0 rfl rfl ?_;refine yq (fun _ E => YW p.aq (by omega) (by omega) _) func31 ?_;refine xq rfl (fun E a J=>ZB rfl (J.ev rfl) (J.ev rfl) (by (try simp only [YK, Zl]); omega))<|xqr 1 rfl ?_;intro a J;refine wpQuiet_nil ?_; intro w4 E; replace E := Bx.mk E;revert a;refine xet<|xre<|xb1 results32 rfl ?_;exact ⟨by rw [UH (by simpa using cc1) cc2, YR (n := p.aC) (by omega) (by omega), YR (n := p.al) (by omega) (by omega), YR (n := p.am) (by omega) (by omega), YR (n := p.aB) (by omega) (by omega), YR (n := p.aq) (by omega) (by omega)]; rfl, E.o.bel⟩
section
variable {P : Program} {o : Oper} {a : Act} {w : World} {t t' : TypeId} {x y : Operand}
theorem Znn (ho : o.op = .binOp .eql t x y t') {b c : Bool} (hx : a.eval x = .bool b) (hy : a.eval y = .bool c) (hu : P.underlying t = some .bool) : Yl P w o a (.bool (b == c)) := by
 have h : (Op.equal t (.bool b) (.bool c)).run P w = .ok (b == c) w := by
  unfold Op.equal Op.maxDepth;rw [Op.equalIn];simp only [Sem.run_bind, run_underlying hu w, Result.andThen_ok, Sem.run_pure]
 unfold Yl execOp;simp only [ho, hx, hy];simp [eqGuard, binOp, h]
theorem Zha (ho : o.op = .binOp .eql t x y t') {b : Bool} (hx : a.eval x = .bool b) (hy : a.eval y = .bool b) (hu : P.underlying t = some .bool) : Yl P w o a (.bool true) := by
 have := Znn (P := P) (w := w) ho hx hy hu
 simpa using this
end
theorem ZN {a b : ByteArray} (h : (a.toList == b.toList) = true) : a = b := by
 have h := eq_of_beq h;rw [ByteArray.toList_eq, ByteArray.toList_eq] at h;exact ByteArray.ext (Array.toList_inj.1 h)
section
variable {P : Program} {w : World} {o : Oper} {a : Act} {t : TypeId} {x y z : Operand}
theorem ZaZ (ho : o.op = .slice t x (some y) (some z) none) {b : ByteArray} (hx : a.eval x = .string b) {k1 k2 : IntKind} {m n : Int} (hy : a.eval y = .int k1 m) (hz : a.eval z = .int k2 n) (hu : P.underlying t = some .string) {i j : Nat} (hm : m = (i : Int)) (hn : n = (j : Int)) (hij : i ≤ j) (hj : j ≤ b.size) : Yl P w o a (.string (b.extract i j)) := by
 subst hm; subst hn;have h1 : ((i : Int) ≤ (j : Int)) := by omega
 have h2 : ((j : Int) ≤ (b.size : Int)) := by omega
 unfold Yl execOp;simp only [ho, hx, hy, hz, Option.map_some, Option.map_none, Instr.sliceAt, Instr.slice, Sem.run_bind, run_underlying hu w, Result.andThen_ok];simp [Instr.slice, Instr.sliceBounds, Instr.sliceBound, asIntOf, go_sem, run_underlying hu w, h1, h2];rw [if_pos hj, if_pos hij]
end
theorem Zoz {a b : UInt8} (h : ((a.toNat : Int) == (b.toNat : Int)) = true) : a = b := by
 have := eq_of_beq h;exact UInt8.toNat_inj.1 (by omega)
theorem ZoA {a b : UInt8} (h : ((a.toNat : Int) == (b.toNat : Int)) = false) : a ≠ b := fun e => by rw [e] at h; simp at h
def ZbL (w : World) : Prop := ∃ m, w.cell? ⟨0, 0, none⟩ = some (.int .i64 m)
theorem ZbL.below {w w' : World} (h : ZbL w) (hb : Below w.heap.size w w') : ZbL w' := by
 obtain ⟨m, hm⟩ := h;have hlt : 0 < w.heap.size := World.block_lt_of_cell? w _ hm;exact ⟨m, (hb.cell (p := ⟨0, 0, none⟩) hlt).trans hm⟩
theorem VO (s : ByteArray) (w0 : World) (hs : s.size ≤ 9223372036854775806) : Calls prog 130 #[.string s] w0 fun e w' => e = .returned (.bool (YE s)) ∧ Below w0.heap.size w0 w' := by
 have E := Bx.mk (St.start w0);refine ent func130 ntmps130 ?_;refine xsr<|xr 1 rfl<|xne<|xsq<|xsr<|xr 1 rfl<|xne<|xbl ?_;intro a J;refine Zt (ι := Nat) (fun k a w => (k ≤ s.size ∧ s.data.toList.all Jt = (s.data.toList.drop k).all Jt) ∧ Fr 23 a [(0, .string s), (3, .int .i64 (k : Int))] ∧ St w0 ([]) w) (fun k => s.size - k) 0 ⟨⟨Nat.zero_le _, rfl⟩, J.ls _, E.o⟩ ?_;clear J E; clear a;rintro k a w1 ⟨⟨hk, hg⟩, J, E⟩;replace E := Bx.mk E;revert a;refine xsq<|xsr<|xr 2 rfl<|xy rfl (fun a J=>ZM rfl (J.ev rfl) (by kernel_rfl))<|xr 1 rfl<|xne<|xcd 7 rfl (fun _ dcc1=>?_) fun _ dcc1=>?_
 refine xct rfl<|xsk<|xet<|xsq<|xbl<|xsr<|xr 2 rfl<|xy rfl (fun a J=>YQ (i := k) rfl (J.ev rfl) (J.ev rfl) (by kernel_rfl) (by omega) (by omega))<|xr 2 rfl<|xcd 14 rfl (fun cc2 dcc2=>?_) fun cc2 dcc2=>?_;refine xr 5 rfl<|xne<|xct rfl<|xsr<|xr 1 rfl<|xne<|xre<|xbr<|xtr<|xtr<|xbr<|xtr<|xb1 results130 rfl ?_;have hgk : Jt (s.get! k) = false := by unfold Jt; rw [decide_eq_false (by have := of_decide_eq_true cc2; omega)]; rfl
 exact ⟨by unfold YE; rw [hg, ZaW (by omega), hgk, Bool.false_and, Bool.and_false], E.o.bel⟩;refine xr 2 rfl<|xy rfl (fun a J=>YQ (i := k) rfl (J.ev rfl) (J.ev rfl) (by kernel_rfl) (by omega) (by omega))<|xr 2 rfl<|xne<|xcd 19 rfl (fun cc3 dcc3=>?_) fun cc3 dcc3=>?_;refine xct rfl<|xsr<|xr 1 rfl<|xne<|xre<|xbr<|xtr<|xtr<|xbr<|xtr<|xb1 results130 rfl ?_;have hgk : Jt (s.get! k) = false := by unfold Jt; rw [decide_eq_false (show ¬ (s.get! k).toNat ≤ 122 by have := of_decide_eq_true cc3; omega), Bool.and_false]
 exact ⟨by unfold YE; rw [hg, ZaW (by omega), hgk, Bool.false_and, Bool.and_false], E.o.bel⟩;refine xcf rfl<|xsk<|xeb<|xet<|xrl<|xr 1 rfl<|xy rfl (vad rfl)<|xr 1 rfl<|xne ?_;have hgk : Jt (s.get! k) = true := by have := of_decide_eq_false cc2; have := of_decide_eq_false cc3; unfold Jt; rw [decide_eq_true (by omega), decide_eq_true (by omega)]; rfl
 have hnx : s.data.toList.all Jt = (s.data.toList.drop (k + 1)).all Jt := by rw [hg, ZaW (by omega), hgk, Bool.true_and]
 intro a J;exact ⟨k + 1, ⟨⟨by omega, hnx⟩, J.less _ ⟨rfl, rfl, trivial⟩, E.o⟩, (by omega)⟩;refine xcf rfl<|xex<|xtx<|xtx<|xbh<|xet<|xsr<|xr 1 rfl<|xy rfl (fun a J=>ZM rfl (J.ev rfl) (by kernel_rfl)) ?_;refine ycB ((Yb (s.size : Int) 1 4 _).mono fun _ _ h => ⟨h.1, h.2 ▸ Below.refl _ _⟩) func25 E ?_;clear E;intro w2 E;refine xr 1 rfl<|xne<|xre<|xb1 results130 rfl ?_;exact ⟨by unfold YE; rw [hg, Zka (by omega), Bool.and_true], E.o.bel⟩
theorem JD (s : ByteArray) (c : UInt8) (w0 : World) (hs : s.size ≤ 1099511627776) : Calls prog 62 #[.string s, .int .u8 (c.toNat : Int)] w0 fun e w' => ∃ ao cp, e = .returned (.slice ao (Zd s c).length cp) ∧ St w0 [Zg Zu 1 9 (.slice ao (Zd s c).length cp) (Zd s c)] w' := by
 have E := Bx.mk (St.start w0);refine ent func62 ntmps62 ?_;refine xsr<|xr 1 rfl<|xne<|xsr ?_;refine yem 9 1 E ?_;clear E;intro w1 b1 E;refine xr 1 rfl<|xne<|xsr<|xr 1 rfl<|xne<|xsq<|xsr<|xr 1 rfl<|xne<|xbl ?_;replace E := Bx.mk (E.o.nilRow Zu 1 9 (some ⟨b1, 0, none⟩));intro a J;refine Zt (ι := Nat) (fun k a w => ∃ (ao : Option Addr) (cp : Nat) (xs : List ByteArray), (k ≤ s.size ∧ xs = (Z8 s c k).1) ∧ Fr 35 a [(0, .string s), (1, .int .u8 (c.toNat : Int)), (5, .slice ao xs.length cp), (6, .int .i64 ((Z8 s c k).2 : Int)), (7, .int .i64 (k : Int))] ∧ St w0 ([Zg Zu 1 9 (.slice ao xs.length cp) xs]) w) (fun k => s.size - k) 0 ⟨_, _, [], ⟨Nat.zero_le _, rfl⟩, J.ls _, E.o⟩ ?_;clear J E; clear a;rintro k a w2 ⟨ao, cp, xs, ⟨hk, hq⟩, J, E⟩;replace E := Bx.mk E;have hfl := ZbE s c k; have hml := ZaV s c k; have hxl : xs.length = (Z8 s c k).1.length := by rw [hq]
 revert a;refine xsq<|xsr<|xr 2 rfl<|xy rfl (fun a J=>ZM rfl (J.ev rfl) (by kernel_rfl))<|xr 1 rfl<|xne<|xcd 12 rfl (fun _ dcc1=>?_) fun _ dcc1=>?_
 refine xct rfl<|xsk<|xet<|xsq<|xbl<|xsr<|xr 2 rfl<|xy rfl (fun a J=>YQ (i := k) rfl (J.ev rfl) (J.ev rfl) (by kernel_rfl) (by omega) (by omega))<|xr 2 rfl<|xne<|xce 19 rfl (fun cc2 dcc2=>?_) fun cc2 dcc2=>?_;refine xct rfl<|xsr<|xr 4 rfl<|xy rfl (fun a J=>ZaZ (i := (Z8 s c k).2) (j := k) rfl (J.ev rfl) (J.ev rfl) (J.ev rfl) (by kernel_rfl) (by omega) (by omega) (by omega) (by omega)) ?_;refine ybs Zu 9 1 [s.extract ((Z8 s c k).2) k] E ?_;clear E;intro b2 w3 E;refine yap Y3 Zf E 1 (St.rdN E.o Zf 0 rfl) (Zv _) ?_;clear E;intro ao3 cp4 w4 E;refine xr 1 rfl<|xne<|xrl<|xr 1 rfl<|xy rfl (vad rfl)<|xr 1 rfl<|xni<|xeb<|xet<|xrl<|xr 1 rfl<|xy rfl (vad rfl)<|xr 1 rfl<|xne ?_;have hst := Zaq (s := s) (c := c) (k := k) (Zoz cc2);have hz : xs.length + [s.extract (Z8 s c k).2 k].length = (xs ++ [s.extract (Z8 s c k).2 k]).length := (List.length_append ..).symm;intro a J;rw [hz] at E J;have hnext : xs ++ [s.extract (Z8 s c k).2 k] = (Z8 s c (k + 1)).1 := by rw [hst, hq]
 replace E:=E.pks [1];exact ⟨k + 1, ⟨_, _, xs ++ [s.extract (Z8 s c k).2 k], ⟨by omega, hnext⟩, J.less _ ⟨rfl, rfl, rfl, (by rw [hst]; rfl), rfl, trivial⟩, (E.o.erase 1)⟩, (by omega)⟩;refine xcf rfl<|xsk<|xeb<|xet<|xrl<|xr 1 rfl<|xy rfl (vad rfl)<|xr 1 rfl<|xne ?_;have hst := Ve (s := s) (c := c) (k := k) (ZoA cc2);have hnext : xs = (Z8 s c (k + 1)).1 := by rw [hst, hq]
 intro a J;exact ⟨k + 1, ⟨_, _, xs, ⟨by omega, hnext⟩, J.less _ ⟨rfl, rfl, rfl, (by rw [hst]; rfl), rfl, trivial⟩, E.o⟩, (by omega)⟩;refine xcf rfl<|xex<|xtx<|xtx<|xbh<|xet<|xsr<|xr 3 rfl<|xy rfl (fun a J=>Qu (k := (Z8 s c k).2) rfl (J.ev rfl) (J.ev rfl) (by kernel_rfl) (by omega) (by omega)) ?_;refine ybs Zu 9 1 [s.extract ((Z8 s c k).2) s.size] E ?_;clear E;intro b5 w5 E;refine yap Y3 Zf E 1 (St.rdN E.o Zf 0 rfl) (Zv _) ?_;clear E;intro ao6 cp7 w6 E;refine xr 1 rfl<|xne<|xre<|xb1 results62 rfl ?_;replace E:=E.pks [1];obtain rfl : k = s.size := by omega
 have hcb : xs ++ [s.extract (Z8 s c s.size).2 s.size] = Znk s c := by rw [hq]; rfl
 have hz : xs.length + [s.extract (Z8 s c s.size).2 s.size].length = (Znk s c).length := by rw [← hcb, List.length_append]
 refine ⟨ao6, cp7, ?_, ?_⟩;rw [hz, ZcW];have HT2 := (E.o.erase 1); rw [hz, hcb, ZcW] at HT2; exact HT2
theorem ZoB {w : World} (h : w.ShapedOpen prog) : ZbL w := ZdL.s1_3 w h
theorem Zke (s : ByteArray) (c : UInt8) (w : World) (hs : s.size < 4294967281) (hM : ZbL w) : Calls prog 82 #[.string s, .string ⟨#[c]⟩] w fun e w' => ∃ ao cp, e = .returned (.slice ao (Zd s c).length cp) ∧ St w [Zg Zu 1 9 (.slice ao (Zd s c).length cp) (Zd s c)] w' := by
 obtain ⟨m, hm⟩ := hM;refine (Any.strings_Split { ZdL with } ZdL.i9 s ⟨#[c]⟩ m w hs hm (Nat.le_refl 1)).mono ?_;rintro e w' ⟨rfl, rfl⟩;have hl : Go.Lib.countB s ⟨#[c]⟩ + 1 = (Zd s c).length := by rw [← ZaI, Go.Lib.splitB_all ⟨#[c]⟩ (Nat.le_refl 1) 0 _ s rfl]
 rw [hl, ZaI];refine ⟨_, _, rfl, ?_⟩;have hm2 : (Zd s c).length ≤ maxLen := by
  have h1 := XX s c;have h2 := List.count_le_length (a := c) (l := s.data.toList);have h3 := Zh s;unfold maxLen; omega
 refine (St.start w).rowNew (enc := Zu) (size := 1) (ys := Zd s c) ((Below.refl _ _).alloc (Nat.le_refl _) _) (XD w _ _ rfl) (Nat.le_refl _) (by simp) (Nat.le_refl _) hm2 ?_;rw [Nat.mul_one, List.take_of_length_le (by simp), List.map_eq_flatMap]; rfl
theorem Zhb (xs : List ByteArray) : ZeL (fun k => !!YE (xs.getD k ByteArray.empty)) xs.length = xs.all YE := by
 cases h : xs.all YE with
 | true =>
  rw [List.all_eq_true] at h;exact Zjx fun k hk => by
   rw [Bool.not_not];have := h (xs.getD k ByteArray.empty) (by rw [List.getD_eq_getElem?_getD, List.getElem?_eq_getElem hk]; exact List.getElem_mem hk);exact this
 | false =>
  cases h2 : ZeL (fun k => !!YE (xs.getD k ByteArray.empty)) xs.length with
  | false => rfl
  | true =>
   exfalso
   have : xs.all YE = true := List.all_eq_true.2 fun x hx => by
    obtain ⟨k, hk, rfl⟩ := List.getElem_of_mem hx;have := Zjw h2 hk;rw [Bool.not_not, List.getD_eq_getElem?_getD, List.getElem?_eq_getElem hk] at this;exact this
   rw [h] at this; cases this
theorem Zix (s : ByteArray) (c : UInt8) (h : s.size ≤ 1099511627776) : szs (Zd s c) := fun k => by
  have key : ∀ (l : List UInt8) (x : List UInt8), x ∈ splitL c l → x.length ≤ l.length := by
    intro l
    induction l with
    | nil => intro x hx; obtain rfl : x = [] := by simpa [splitL] using hx
             exact Nat.le_refl _
    | cons b t ih =>
      intro x hx
      by_cases hb : b = c
      · subst hb
        rw [Q2] at hx;rcases List.mem_cons.1 hx with rfl | hx
        · exact Nat.zero_le _
        · exact Nat.le_succ_of_le (ih x hx)
      · obtain ⟨y, r, hs⟩ := Zap c t
        rw [Xz t hb hs] at hx;rcases List.mem_cons.1 hx with rfl | hx
        · have := ih y (by rw [hs]; exact List.mem_cons_self ..)
          simp only [List.length_cons]; omega
        · exact Nat.le_succ_of_le (ih x (by rw [hs]; exact List.mem_cons_of_mem _ hx))
  by_cases hk : k < (Zd s c).length
  · have hm : (Zd s c).getD k ByteArray.empty ∈ Zd s c := by rw [List.getD_eq_getElem?_getD, List.getElem?_eq_getElem hk]; exact List.getElem_mem hk
    obtain ⟨l, hl, e⟩ := List.mem_map.1 hm;have := key _ _ hl;rw [← Zh] at this;rw [← e, Zh]; exact Nat.le_trans this h
  · rw [List.getD_eq_getElem?_getD, List.getElem?_eq_none (by omega)]; exact Nat.zero_le _
theorem ZbM (s : ByteArray) (w0 : World) (hne : (s.toList == (⟨#[47]⟩ : ByteArray).toList) = false) (hh : (s.data.toList.head? == some 47) = true) (hs : s.size ≤ 1099511627776) : Calls prog 129 #[.string s] w0 fun e w' => ∃ ao cp, e = .returned (.slice ao ((Zd s 47).length - 1) cp) ∧ Rd Zu 1 w' ao ((Zd s 47).length - 1) (Zd (s.extract 1 s.size) 47) ∧ Below w0.heap.size w0 w' := by
 have E := Bx.mk (St.start w0);refine ent func129 ntmps129 ?_;refine xsr<|xr 1 rfl<|xne<|xsq<|xsr<|xr 1 rfl<|xy rfl (fun a J=>Y7 rfl (J.ev rfl) (J.ev rfl))<|xne<|xcs 4 rfl (fun cc1=>?_) fun cc1=>?_;rw [hne] at cc1; cases cc1;refine xcf rfl<|xsk<|xet<|xsr<|xr 1 rfl ?_;refine yc (JD s 47 _ (by omega)) func62 ?_;rintro _ w1 ⟨ao1, cp1, rfl, hs⟩;refine ⟨_, rfl, ?_⟩;replace E := E.ad hs;clear hs;have hph := ZcX (eq_of_beq hh); have hpl := XX (s.extract 1 s.size) 47; have hp2 : (Zd s 47).length = (Zd (s.extract 1 s.size) 47).length + 1 := by rw [hph]; rfl
 obtain ⟨g2, rfl, _, _, _, _⟩ := E.o.rowOpen 0 rfl (by omega);refine xy rfl (fun a J=>ZdN (e := 9) (size := 1) (k := 1) rfl (J.ev rfl) (J.ev rfl) (by kernel_rfl) (by omega) (by omega) (Nat.lt_of_lt_of_le (by omega) (St.capLe E.o 0 rfl)))<|xr 1 rfl<|xne<|xre<|xb1 results129 rfl ?_;have hrd := Rd.drop (St.rdN E.o Zf 0 rfl) (k := 1) (by omega);rw [hph] at hrd;refine ⟨_, _, rfl, ?_, E.o.bel⟩;have hn : (Zd s 47).length - 1 = (Zd (s.extract 1 s.size) 47).length := (by omega);have h1 : (ByteArray.empty :: Zd (s.extract 1 s.size) 47).length - 1 = (Zd (s.extract 1 s.size) 47).length := rfl;rw [hn]; exact hrd
theorem Zno {p : Nat → Bool} {n k : Nat} (hk : k < n) (h : p k = false) : ZeL p n = false := by
 cases h2 : ZeL p n with
 | false => rfl
 | true => rw [Zjw h2 hk] at h; cases h
theorem JW (s : ByteArray) (w0 : World) (hs : s.size ≤ 4000000000) : Calls prog 93 #[.string s] w0 fun e w' => e = .returned (.bool (ZL s)) ∧ Below w0.heap.size w0 w' := by
 have E := Bx.mk (St.start w0);refine ent func93 ntmps93 ?_;refine xsr<|xr 1 rfl<|xne<|xsq<|xsr<|xr 1 rfl<|xy rfl (fun a J=>Y7 rfl (J.ev rfl) (J.ev rfl))<|xne<|xcs 6 rfl (fun cc1=>?_) fun cc1=>?_;refine xct rfl<|xsr<|xr 1 rfl<|xne<|xre<|xtr<|xb1 results93 rfl ?_;exact ⟨by rw [ZlH cc1], E.o.bel⟩;refine xcf rfl<|xsk<|xet<|xsq<|xsr<|xr 1 rfl<|xy rfl (fun a J=>Y7 rfl (J.ev rfl) (J.ev rfl))<|xr 1 rfl<|xcs 9 rfl (fun cc2=>?_) fun cc2=>?_;refine xr 4 rfl<|xne<|xct rfl<|xsr<|xr 1 rfl<|xne<|xre<|xtr<|xb1 results93 rfl ?_;exact ⟨by rw [JR cc1 (ZlI cc2 ZN)], E.o.bel⟩;have hpos := ZdK cc2;refine xr 1 rfl<|xy rfl (fun a J=>YQ (i := 0) rfl (J.ev rfl) (J.ev rfl) (by kernel_rfl) (by omega) (by omega))<|xr 2 rfl<|xne<|xcn 13 rfl (fun cc3 dcc3=>?_) fun cc3 dcc3=>?_;refine xct rfl<|xsr<|xr 1 rfl<|xne<|xre<|xtr<|xb1 results93 rfl ?_;exact ⟨by rw [JR cc1 (by rw [Zg6 hpos]; exact beq_eq_false_iff_ne.2 (bne_iff_ne.1 cc3))], E.o.bel⟩;have hh : (s.data.toList.head? == some 47) = true := by rw [Zg6 hpos]; exact beq_iff_eq.2 (bne_eq_false_iff_eq.1 cc3)
 refine xcf rfl<|xsk<|xet<|xsr<|xr 1 rfl ?_;refine yc (ZbM s _ cc1 hh (by omega)) func129 ?_;rintro _ w1 ⟨ao, cp, rfl, hrd, hb⟩;refine ⟨_, rfl, ?_⟩; have HB := Bx.mk (E.o.later hb).bel;clear E hb;obtain ⟨w0, rfl⟩ : ∃ x, x = w1 := ⟨_, rfl⟩; have E := Bx.mk (St.start w0);intro a J;have hrl := hrd.len; rw [← hrl] at hrd J; generalize hxs : Zd (s.extract 1 s.size) 47 = xs at hrd J hrl; obtain ⟨g0, o0, r0⟩ := hrd.opn; have R0 := Bx.mk r0; clear r0 hrd; have hx : szs xs := (by rw [← hxs]; exact Zix _ _ (by rw [Ze8]; omega)); have hpl := XX (s.extract 1 s.size) 47; rw [hxs] at hpl; have hcl := List.count_le_length (a := (47 : UInt8)) (l := (s.extract 1 s.size).data.toList); have hsl := Zh (s.extract 1 s.size); have hez : (s.extract 1 s.size).size = s.size - 1 := Ze8;revert a;refine xr 1 rfl<|xne<|xsq<|xsr<|xr 1 rfl<|xne<|xbl ?_;intro a J;refine Zt (ι := Nat) (fun k a w => (k ≤ xs.length ∧ ∀ j, j < k → YE (xs.getD j ByteArray.empty) = true) ∧ Fr 31 a [(3, .slice ao xs.length cp), (4, .int .i64 (k : Int))] ∧ St w0 ([]) w) (fun k => xs.length - k) 0 ⟨⟨Nat.zero_le _, fun j hj => absurd hj (Nat.not_lt_zero _)⟩, J.ls _, E.o⟩ ?_;clear J E; clear a;rintro k a w2 ⟨⟨hk, hg⟩, J, E⟩;replace E := Bx.mk E;have hxk := hx k;revert a;refine xsq<|xsr<|xr 2 rfl<|xy rfl (vn 9 1 rfl)<|xr 1 rfl<|xne<|xcd 19 rfl (fun _ dcc4=>?_) fun _ dcc4=>?_
 refine xct rfl<|xsk<|xet<|xsq<|xbl<|xsr<|xr 2 rfl<|xy rfl (vxr 9 k 1 rfl (R0.out.ao k (by omega)))<|xy rfl (fun a J=>ylo (v := .string (xs.getD k ByteArray.empty)) rfl (J.ev rfl) (R0.out.elem1 E.o (Zi (xs := xs) (j := k) (d := ByteArray.empty) (by omega)) rfl)) ?_;refine ycB (VO (xs.getD k ByteArray.empty) _ (by omega)) func130 E ?_;clear E;intro w3 E;refine xr 1 rfl<|xne<|xcs 27 rfl (fun cc5=>?_) fun cc5=>?_;refine xct rfl<|xsr<|xr 1 rfl<|xne<|xre<|xbr<|xtr<|xtr<|xbr<|xtr<|xb1 results93 rfl ?_;have hok : okN xs = false := by unfold okN; rw [← Zhb, Zno (k := k) (by omega) (by rw [Bool.not_not]; simpa using cc5), Bool.and_false]
 exact ⟨by rw [JS cc1 hh, Ze9, hxs, hok], HB.out.trans (E.o.bel.mono HB.out.size)⟩;refine xcf rfl<|xsk<|xeb<|xet<|xrl<|xr 1 rfl<|xy rfl (vad rfl)<|xr 1 rfl<|xne ?_;have hnx : ∀ j, j < k + 1 → YE (xs.getD j ByteArray.empty) = true := fun j hj => by rcases Nat.lt_or_ge j k with h | h; exact hg j h; obtain rfl : j = k := (by omega); simpa using cc5
 intro a J;exact ⟨k + 1, ⟨⟨by omega, hnx⟩, J.less _ ⟨rfl, rfl, trivial⟩, E.o⟩, (by omega)⟩;refine xcf rfl<|xex<|xtx<|xtx<|xbh<|xet<|xsr<|xr 1 rfl<|xy rfl (vn 9 1 rfl)<|xr 2 rfl<|xne<|xre<|xb1 results93 rfl ?_;have hall : xs.all YE = true := by rw [← Zhb]; exact Zjx fun j hj => by rw [Bool.not_not]; exact hg j (by omega)
 have hok : okN xs = (decide ((xs.length : Int) ≤ 4)) := by unfold okN; rw [hall, Bool.and_true]; exact decide_eq_decide.2 (by omega)
 exact ⟨by rw [JS cc1 hh, Ze9, hxs, hok], HB.out.trans (E.o.bel.mono HB.out.size)⟩
theorem Zkf (b : UInt8) : 0 ≤ (b.toNat : Int) ∧ (b.toNat : Int) ≤ 255 := by have := b.toNat_lt; omega
theorem ZlR (w0 w : World) (rb : Nat) (ab : Option Addr) (n cb : Nat) (bs : List UInt8) (hn : n ≤ 2000) (hR : Rd encB 1 w0 ab n bs) (B : Nat) (hB : B ≤ 1000000) (m : Int) (hm : m ≤ 1000000) (F : List Asr) (hS : St w0 (rdA rb ab n cb B :: F) w) : Calls prog 36 #[.pointer (some ⟨rb, 0, none⟩), .int .i64 m] w fun e w' => ∃ v : Int, e = .returned (.int .i64 v) ∧ 0 ≤ v ∧ (v < m ∨ v = 0) ∧ St w0 (rdA rb ab n cb (B + 1) :: F) w' := by
 obtain ⟨p, hpB, h0⟩ := hS.rdOpen;have E := Bx.mk h0; clear h0 hS;have hbl : bs.length = n := hR.len;obtain ⟨g, off, r0⟩ := hR.opn; have RB := Bx.mk r0; clear r0 hR;refine ent func36 ntmps36 ?_;refine xsr<|xr 1 rfl<|xne<|xsr<|xr 3 rfl<|Xf 1 rfl<|Xl 0 E rfl rfl<|xy rfl (vad rfl)<|xr 1 rfl<|Xf 1 rfl ?_;refine ysF 0 E ?_;clear E;intro w1 E;replace E:=E.nm;refine xne<|xsq<|xsr<|xr 3 rfl<|xcd 17 rfl (fun _ dcc1=>?_) fun _ dcc1=>?_;refine xr 7 rfl<|xne<|xct rfl<|xsr<|xr 1 rfl<|xne<|xre<|xtr<|xb1 results36 rfl ?_;exact ⟨_, rfl, by omega, by omega, St.rdMk (p := p + 1) (by omega) E.o⟩;refine xr 2 rfl<|Xf 0 rfl<|Xl 0 E rfl rfl<|xy rfl (vn 5 1 rfl)<|xr 2 rfl<|xne<|xce 24 rfl (fun _ dcc2=>?_) fun _ dcc2=>?_;refine xct rfl<|xsr<|xr 1 rfl<|xne<|xre<|xtr<|xb1 results36 rfl ?_;exact ⟨_, rfl, by omega, by omega, St.rdMk (p := p + 1) (by omega) E.o⟩;refine xcf rfl<|xsk<|xet<|xsr<|xr 2 rfl<|Xf 1 rfl<|Xl 0 E rfl rfl<|xy rfl (fun a J=>ZO (r := (p : Int)) rfl (J.ev rfl) (J.ev rfl) ((Yi (by omega)).trans (by omega)))<|xr 1 rfl<|xne<|xsq<|xsr<|xr 3 rfl<|Xf 0 rfl<|Xl 0 E rfl rfl<|xy rfl (vn 5 1 rfl)<|xr 1 rfl<|xne<|xcd 36 rfl (fun _ dcc3=>?_) fun _ dcc3=>?_;refine xct rfl<|xsq ?_;have hb1 := Zkf (bs.getD p 0);refine xrl<|xr 2 rfl<|Xf 0 rfl<|Xl 0 E rfl rfl<|xr 1 rfl<|xy rfl (vxr 5 p 1 rfl (RB.out.ao p (by omega)))<|xy rfl (fun a J=>ylo (v := .int .u8 ((bs.getD p 0).toNat : Int)) rfl (J.ev rfl) (RB.out.elem1 E.o (Zi (xs := bs) (j := p) (d := 0) (by omega)) rfl))<|xy rfl (fun a J=>UC (n := ((bs.getD p 0).toNat : Int)) rfl (J.ev rfl) (Zkf _) (by kernel_rfl) (by kernel_rfl))<|xr 1 rfl<|xy rfl (fun a J=>QK rfl (J.ev rfl) (J.ev rfl) (by omega) (QN (by omega) (by omega)))<|xr 1 rfl<|xne<|xre<|xtr<|xb1 results36 rfl ?_;have e8 := Int.emod_nonneg (((bs.getD p 0).toNat : Int)) (show m ≠ 0 by omega); have e9 := Int.emod_lt_of_pos (((bs.getD p 0).toNat : Int)) (show 0 < m by omega);exact ⟨_, rfl, by omega, by omega, St.rdMk (p := p + 1) (by omega) E.o⟩;refine xcf rfl<|xsk<|xet<|xsq ?_;have e1 := Int.emod_nonneg (p : Int) (show (n : Int) ≠ 0 by omega); have e2 := Int.emod_lt_of_pos (p : Int) (show (0 : Int) < (n : Int) by omega);have e3 := Int.emod_nonneg ((p : Int) * 7 + 3) (show (n : Int) ≠ 0 by omega); have e4 := Int.emod_lt_of_pos ((p : Int) * 7 + 3) (show (0 : Int) < (n : Int) by omega);intro a J;have e5 := Int.ediv_nonneg (show (0 : Int) ≤ (p : Int) by omega) (show (0 : Int) ≤ (n : Int) by omega); have e6 := Int.ediv_le_self (a := (p : Int)) (n : Int) (by omega);obtain ⟨i1, hi1⟩ : ∃ i1 : Nat, (p : Int) % (n : Int) = (i1 : Int) := ⟨((p : Int) % (n : Int)).toNat, by omega⟩; obtain ⟨i2, hi2⟩ : ∃ i2 : Nat, ((p : Int) * 7 + 3) % (n : Int) = (i2 : Int) := ⟨(((p : Int) * 7 + 3) % (n : Int)).toNat, by omega⟩;have hb1 := Zkf (bs.getD i1 0); have hb2 := Zkf (bs.getD i2 0);refine Yf (by kernel_rfl) (by kernel_rfl) E.o ?_;revert a;refine xqr 2 rfl<|Qf 0 rfl<|Ql 0 rfl rfl<|xqr 3 rfl<|Qf 0 rfl<|Ql 0 rfl rfl<|xq rfl (fun E=>vn 5 1 rfl)<|xq rfl (fun E a J=>QK rfl (J.ev rfl) (J.ev rfl) (by omega) (QN (by omega) (by omega)))<|xq rfl (fun E a J=>Jd (e := 5) (i := i1) (size := 1) rfl (J.ev rfl) (J.ev rfl) (by kernel_rfl) (by omega) (by omega) (RB.out.ao i1 (by omega)))<|xq rfl (fun E a J=>ylo (v := .int .u8 ((bs.getD i1 0).toNat : Int)) rfl (J.ev rfl) (RB.out.elem1 E (Zi (xs := bs) (j := i1) (d := 0) (by omega)) rfl))<|xq rfl (fun E a J=>UC (n := ((bs.getD i1 0).toNat : Int)) rfl (J.ev rfl) (Zkf _) (by kernel_rfl) (by kernel_rfl))<|xq rfl (fun E a J=>Y8 rfl (J.ev rfl) (J.ev rfl) (Yi (by omega)))<|xqr 2 rfl<|Qf 0 rfl<|Ql 0 rfl rfl<|xqr 1 rfl<|xq rfl (fun E a J=>Y8 rfl (J.ev rfl) (J.ev rfl) (Yi (by omega)))<|xq rfl (fun E=>vad rfl)<|xqr 2 rfl<|Qf 0 rfl<|Ql 0 rfl rfl<|xq rfl (fun E=>vn 5 1 rfl)<|xq rfl (fun E a J=>QK rfl (J.ev rfl) (J.ev rfl) (by omega) (QN (by omega) (by omega)))<|xq rfl (fun E a J=>Jd (e := 5) (i := i2) (size := 1) rfl (J.ev rfl) (J.ev rfl) (by kernel_rfl) (by omega) (by omega) (RB.out.ao i2 (by omega)))<|xq rfl (fun E a J=>ylo (v := .int .u8 ((bs.getD i2 0).toNat : Int)) rfl (J.ev rfl) (RB.out.elem1 E (Zi (xs := bs) (j := i2) (d := 0) (by omega)) rfl))<|xq rfl (fun E a J=>UC (n := ((bs.getD i2 0).toNat : Int)) rfl (J.ev rfl) (Zkf _) (by kernel_rfl) (by kernel_rfl))<|xq rfl (fun E a J=>Y8 rfl (J.ev rfl) (J.ev rfl) (Yi (by omega)))<|xq rfl (fun E=>vad rfl)<|xqr 1 rfl<|xq rfl (fun E a J=>Y8 rfl (J.ev rfl) (J.ev rfl) (Yi (by omega)))<|xq rfl (fun E=>vad rfl)<|xqr 3 rfl<|Qf 0 rfl<|Ql 0 rfl rfl<|xq rfl (fun E=>vn 5 1 rfl)<|xq rfl (fun E a J=>Jc rfl (J.ev rfl) (J.ev rfl) (by omega) (Je (by omega) (by omega) (by omega)))<|xq rfl (fun E a J=>Y8 rfl (J.ev rfl) (J.ev rfl) (Yi (by omega)))<|xq rfl (fun E=>vad rfl)<|xqr 1 rfl ?_;intro a J;refine wpQuiet_nil ?_; intro w2 E; replace E := Bx.mk E;refine Y9<|wp_seq ?_;obtain ⟨xn, hxn⟩ : ∃ xn : Nat, ((((((bs.getD i1 0).toNat : Int) * 131) + (((bs.getD i2 0).toNat : Int) * 1117)) + ((p : Int) * 29)) + (((p : Int) / (n : Int)) * 53)) = (xn : Int) := ⟨((((((bs.getD i1 0).toNat : Int) * 131) + (((bs.getD i2 0).toNat : Int) * 1117)) + ((p : Int) * 29)) + (((p : Int) / (n : Int)) * 53)).toNat, by omega⟩; have hxb : xn < 1000000000000 := (by omega); rw [hxn] at J;revert a;refine xrl<|xr 2 rfl<|xy rfl (fun a J=>Jc rfl (J.ev rfl) (J.ev rfl) (by omega) (Je (by omega) (by omega) (by omega)))<|xy rfl (fun a J=>Znl (m := xn) (n := (xn / 64)) rfl (J.ev rfl) (J.ev rfl) (by omega) (by omega))<|xr 1 rfl<|xne<|xsr<|xr 2 rfl<|xy rfl (fun a J=>QK rfl (J.ev rfl) (J.ev rfl) (by omega) (QN (by omega) (by omega)))<|xr 1 rfl<|xne<|xre<|xb1 results36 rfl ?_;have e8 := Int.emod_nonneg (((xn ^^^ (xn / 64) : Nat) : Int)) (show m ≠ 0 by omega); have e9 := Int.emod_lt_of_pos (((xn ^^^ (xn / 64) : Nat) : Int)) (show 0 < m by omega);exact ⟨_, rfl, by omega, by omega, St.rdMk (p := p + 1) (by omega) E.o⟩
theorem ZV (w0 w : World) (rb : Nat) (ab : Option Addr) (n cb : Nat) (bs : List UInt8) (hn : n ≤ 2000) (hR : Rd encB 1 w0 ab n bs) (B : Nat) (hB : B ≤ 950000) (m : Int) (hm : m ≤ 1000000) (F : List Asr) (hS : St w0 (rdA rb ab n cb B :: F) w) : Calls prog 36 #[.pointer (some ⟨rb, 0, none⟩), .int .i64 m] w fun e w' => ∃ v : Nat, e = .returned (.int .i64 (v : Int)) ∧ ((v : Int) < m ∨ v = 0) ∧ St w0 (rdA rb ab n cb (B + 1) :: F) w' := by
 refine (ZlR w0 w rb ab n cb bs hn hR B (by omega) m hm F hS).mono ?_;rintro e w' ⟨v, rfl, h0, h1, hs⟩;obtain ⟨u, rfl⟩ := Int.eq_ofNat_of_zero_le h0;exact ⟨u, rfl, by omega, hs⟩
section
variable {P : Program} {w : World} {o : Oper} {a : Act} {t t' : TypeId} {x y : Operand}
theorem ZlS (ho : o.op = .binOp .neq t x (.const .nilIface) t') (hu : P.underlying t = some (.interface (P.methodsAt t))) (hx : a.eval x = .nilIface) : Yl P w o a (.bool false) := by
 have hy : a.eval (.const .nilIface) = .nilIface := rfl;simp [Yl, execOp, ho, hx, hy, eqGuard, binOp, run_equal_nil_nil w t hu]
theorem ZlT (ho : o.op = .binOp .neq t x (.const .nilIface) t') (hu : P.underlying t = some (.interface (P.methodsAt t))) {te : TypeId} {pe : Value} (hx : a.eval x = .iface te pe) : Yl P w o a (.bool true) := by
 have hy : a.eval (.const .nilIface) = .nilIface := rfl;simp [Yl, execOp, ho, hx, hy, eqGuard, binOp, run_equal_held_nil w t te pe hu]
end
def ZbN (w : World) : Prop := ∃ te pe, w.cell? ⟨1, 0, none⟩ = some (.iface te pe)
theorem ZbN.below {w w' : World} (h : ZbN w) (hb : Below w.heap.size w w') : ZbN w' := by
 obtain ⟨te, pe, hm⟩ := h;have hlt : 1 < w.heap.size := World.block_lt_of_cell? w _ hm;exact ⟨te, pe, (hb.cell (p := ⟨1, 0, none⟩) hlt).trans hm⟩
theorem Zkg (s : ByteArray) (w : World) (hl : s.size ≤ 18) (hE : ZbN w) : Calls prog 58 #[.string s] w fun e w' => (∃ n, Go.Lib.atoi s.data.toList = some n ∧ e = .returned (.tuple #[.int .i64 n, .nilIface]) ∧ Below w.heap.size w w') ∨ (∃ te pe, Go.Lib.atoi s.data.toList = none ∧ e = .returned (.tuple #[.int .i64 0, .iface te pe]) ∧ Below w.heap.size w w') := by
 cases h : Go.Lib.atoi s.data.toList with
 | some n =>
  refine (Any.strconv_Atoi Znh s n hl h w).mono ?_;rintro e w' ⟨rfl, t, rfl⟩;exact .inl ⟨n, rfl, rfl, Go.Lib.bytesWorld_below _ _ _⟩
 | none =>
  obtain ⟨te, pe, hv⟩ := hE;refine (Any.strconv_Atoi_err Zly s hl h (.iface te pe) w hv (.inr ⟨te, pe, rfl⟩)).mono ?_;rintro e w' ⟨N, rfl, _, _, hb⟩;exact .inr ⟨_, _, rfl, rfl, hb⟩
theorem ZlU {b : UInt8} (h1 : 48 ≤ (b.toNat : Int)) (h2 : (b.toNat : Int) ≤ 57) : Go.Lib.digitVal b = some (b.toNat - 48) := by unfold Go.Lib.digitVal; rw [if_pos (by omega)]
theorem Zas {b : UInt8} (h : ¬ (48 ≤ (b.toNat : Int) ∧ (b.toNat : Int) ≤ 57)) : Go.Lib.digitVal b = none := by unfold Go.Lib.digitVal; rw [if_neg (by omega)]
theorem QA {s : ByteArray} (h : 0 < s.size) : (s.data.toList.head? = some 48) ↔ ((s.get! 0).toNat : Int) = 48 := by
 rw [List.head?_eq_getElem?, Q1 h]
 constructor
 ·intro e; rw [Option.some.inj e]; rfl
 ·intro e; congr 1; exact UInt8.toNat_inj.1 (by show (s.get! 0).toNat = 48; omega)
theorem Znp {s : ByteArray} {k n : Nat} (hk : k ≤ s.size) (h9 : k ≤ 9) (h : Go.Lib.decFrom 0 (s.data.toList.take k) = some n) : n ≤ 999999999 := by
 have hz := Zh s;have := ZaX k _ n (by rw [List.length_take]; omega) h;have : n < 10 ^ 9 := Nat.lt_of_lt_of_le this (Nat.pow_le_pow_right (by omega) h9)
 omega
theorem ZlV : ∀ (l : List UInt8) (acc n j : Nat), Go.Lib.decFrom acc l = some n → j < l.length → ∃ b d, l[j]? = some b ∧ Go.Lib.digitVal b = some d
 | b :: t, acc, n, j, h, hj => by
  have h : (match Go.Lib.digitVal b with | some d => Go.Lib.decFrom (acc * 10 + d) t | none => none) = some n := h
  cases h2 : Go.Lib.digitVal b with
  | none => rw [h2] at h; cases h
  | some d =>
   rw [h2] at h
   cases j with
   | zero => exact ⟨b, d, rfl, h2⟩
   | succ j => exact ZlV t _ n j h (by simpa using hj)
theorem Vg {s : ByteArray} {k n : Nat} (h : Go.Lib.decFrom 0 (s.data.toList.take k) = some n) (hk : 1 < k ∧ k ≤ s.size) : ∃ d, Go.Lib.digitVal (s.get! 1) = some d := by
 have hz := Zh s;obtain ⟨b, d, h1, h2⟩ := ZlV _ 0 n 1 h (by rw [List.length_take]; omega);rw [List.getElem?_take, if_pos (by omega), Q1 (by omega)] at h1;rw [Option.some.inj h1]; exact ⟨d, h2⟩
theorem Zfh (s : ByteArray) (w0 : World) (hs : s.size ≤ 1099511627776) : Calls prog 61 #[.string s] w0 fun e w' => ∃ n k, l1S s n k ∧ n ≤ 999999999 ∧ e = .returned (.tuple #[.int .i64 (n : Int), .int .i64 (k : Int)]) ∧ Below w0.heap.size w0 w' := by
 have E := Bx.mk (St.start w0);refine ent func61 ntmps61 ?_;refine xsr<|xr 2 rfl<|xne<|xsr<|xr 1 rfl<|xne<|xsr<|xr 1 rfl<|xne<|xsq<|xbl ?_;intro a J;refine Zt (ι := Nat) (fun k a w => ∃ (n : Nat), (k ≤ s.size ∧ k ≤ 9 ∧ Go.Lib.decFrom 0 (s.data.toList.take k) = some n) ∧ Fr 45 a [(0, .string s), (4, .int .i64 (n : Int)), (5, .int .i64 (k : Int))] ∧ St w0 ([]) w) (fun k => 9 - k) 0 ⟨0, ⟨Nat.zero_le _, Nat.zero_le _, rfl⟩, J.ls _, E.o⟩ ?_;clear J E; clear a;rintro k a w1 ⟨n, ⟨hk, hk9, hd⟩, J, E⟩;replace E := Bx.mk E;have hn9 := Znp hk hk9 hd;revert a;refine xsq<|xsr<|xr 2 rfl<|xy rfl (fun a J=>ZM rfl (J.ev rfl) (by kernel_rfl))<|xr 2 rfl<|xcd 10 rfl (fun _ dcc1=>?_) fun _ dcc1=>?_
 refine xr 4 rfl<|xcd 14 rfl (fun _ dcc2=>?_) fun _ dcc2=>?_;refine xr 2 rfl<|xy rfl (fun a J=>YQ (i := k) rfl (J.ev rfl) (J.ev rfl) (by kernel_rfl) (by omega) (by omega))<|xr 3 rfl<|xcd 20 rfl (fun _ dcc3=>?_) fun _ dcc3=>?_;refine xr 2 rfl<|xy rfl (fun a J=>YQ (i := k) rfl (J.ev rfl) (J.ev rfl) (by kernel_rfl) (by omega) (by omega))<|xr 2 rfl<|xne<|xcd 25 rfl (fun _ dcc4=>?_) fun _ dcc4=>?_;refine xct rfl<|xsk<|xet<|xbl<|xsr<|xr 1 rfl<|xy rfl (fun a J=>Y8 rfl (J.ev rfl) (J.ev rfl) (Yi (by omega)))<|xr 2 rfl<|xy rfl (fun a J=>YQ (i := k) rfl (J.ev rfl) (J.ev rfl) (by kernel_rfl) (by omega) (by omega))<|xy rfl (fun a J=>ZO (r := ((s.get! k).toNat : Int) - 48) rfl (J.ev rfl) (J.ev rfl) (IntWalk.u8_in _ (by omega)))<|xy rfl (fun a J=>UC (n := (((s.get! k).toNat : Int) - 48)) rfl (J.ev rfl) (by omega) (by kernel_rfl) (by kernel_rfl))<|xy rfl (fun a J=>Yc (r := ((n * 10 + ((s.get! k).toNat - 48) : Nat) : Int)) rfl (J.ev rfl) (J.ev rfl) ((Yi (by omega)).trans (by omega)))<|xr 1 rfl<|xne<|xrl<|xr 1 rfl<|xy rfl (vad rfl)<|xr 1 rfl<|xni<|xeb<|xet ?_;have hdg := ZlU (b := s.get! k) (by omega) (by omega);have hd2 := Go.Lib.decFrom_take s.data.toList k 0 n _ _ hd (Q1 (by omega)) hdg;intro a J;exact ⟨k + 1, ⟨n * 10 + ((s.get! k).toNat - 48), ⟨by omega, by omega, hd2⟩, J.less _ ⟨rfl, rfl, rfl, trivial⟩, E.o⟩, (by omega)⟩;refine xcf rfl<|xex<|xtx<|xtx<|xbh<|xet<|xsq<|xsr<|xr 3 rfl<|xcd 38 rfl (fun _ dcc5=>?_) fun _ dcc5=>?_;refine xr 1 rfl<|xy rfl (fun a J=>YQ (i := 0) rfl (J.ev rfl) (J.ev rfl) (by kernel_rfl) (by omega) (by omega))<|xr 2 rfl<|xne<|xce 42 rfl (fun _ dcc6=>?_) fun _ dcc6=>?_;refine xct rfl<|xsr<|xr 2 rfl<|xne<|xre<|xtr<|xb2 results61 rfl rfl ?_;have hfirst : s.data.toList.head? = some 48 := (QA (by omega)).2 (by omega);have h1k : Go.Lib.decFrom 0 (s.data.toList.take k) = some n := hd;obtain ⟨d, hd1⟩ := Vg hd (by omega);exact ⟨0, 1, .inr ⟨rfl, rfl, hfirst, s.get! 1, d, Q1 (by omega), hd1⟩, by omega, rfl, E.o.bel⟩;refine xcf rfl<|xsk<|xet<|xsr<|xr 4 rfl<|xne<|xre<|xb2 results61 rfl rfl ?_;exact ⟨n, k, .inl ⟨hk9, hk, hd, .inr (.inr ⟨s.get! k, Q1 (by omega), Zas (by omega)⟩), fun h => absurd ((QA (by omega)).1 h.2) (by omega)⟩, hn9, rfl, E.o.bel⟩;refine xr 4 rfl<|xne<|xcf rfl<|xsk<|xet<|xsr<|xr 4 rfl<|xne<|xre<|xb2 results61 rfl rfl ?_;exact ⟨n, k, .inl ⟨hk9, hk, hd, .inr (.inr ⟨s.get! k, Q1 (by omega), Zas (by omega)⟩), fun h => absurd h.1 (by omega)⟩, hn9, rfl, E.o.bel⟩;refine xr 5 rfl<|xne<|xcf rfl<|xex<|xtx<|xtx<|xbh<|xet<|xsq<|xsr<|xr 3 rfl<|xcd 38 rfl (fun _ dcc7=>?_) fun _ dcc7=>?_;refine xr 1 rfl<|xy rfl (fun a J=>YQ (i := 0) rfl (J.ev rfl) (J.ev rfl) (by kernel_rfl) (by omega) (by omega))<|xr 2 rfl<|xne<|xce 42 rfl (fun _ dcc8=>?_) fun _ dcc8=>?_;refine xct rfl<|xsr<|xr 2 rfl<|xne<|xre<|xtr<|xb2 results61 rfl rfl ?_;have hfirst : s.data.toList.head? = some 48 := (QA (by omega)).2 (by omega);have h1k : Go.Lib.decFrom 0 (s.data.toList.take k) = some n := hd;obtain ⟨d, hd1⟩ := Vg hd (by omega);exact ⟨0, 1, .inr ⟨rfl, rfl, hfirst, s.get! 1, d, Q1 (by omega), hd1⟩, by omega, rfl, E.o.bel⟩;refine xcf rfl<|xsk<|xet<|xsr<|xr 4 rfl<|xne<|xre<|xb2 results61 rfl rfl ?_;exact ⟨n, k, .inl ⟨hk9, hk, hd, .inr (.inr ⟨s.get! k, Q1 (by omega), Zas (by omega)⟩), fun h => absurd ((QA (by omega)).1 h.2) (by omega)⟩, hn9, rfl, E.o.bel⟩;refine xr 4 rfl<|xne<|xcf rfl<|xsk<|xet<|xsr<|xr 4 rfl<|xne<|xre<|xb2 results61 rfl rfl ?_;exact ⟨n, k, .inl ⟨hk9, hk, hd, .inr (.inr ⟨s.get! k, Q1 (by omega), Zas (by omega)⟩), fun h => absurd h.1 (by omega)⟩, hn9, rfl, E.o.bel⟩;refine xr 11 rfl<|xne<|xcf rfl<|xex<|xtx<|xtx<|xbh<|xet<|xsq<|xsr<|xr 3 rfl<|xcd 38 rfl (fun _ dcc9=>?_) fun _ dcc9=>?_;refine xr 1 rfl<|xy rfl (fun a J=>YQ (i := 0) rfl (J.ev rfl) (J.ev rfl) (by kernel_rfl) (by omega) (by omega))<|xr 2 rfl<|xne<|xce 42 rfl (fun _ dcc10=>?_) fun _ dcc10=>?_;refine xct rfl<|xsr<|xr 2 rfl<|xne<|xre<|xtr<|xb2 results61 rfl rfl ?_;have hfirst : s.data.toList.head? = some 48 := (QA (by omega)).2 (by omega);have h1k : Go.Lib.decFrom 0 (s.data.toList.take k) = some n := hd;obtain ⟨d, hd1⟩ := Vg hd (by omega);exact ⟨0, 1, .inr ⟨rfl, rfl, hfirst, s.get! 1, d, Q1 (by omega), hd1⟩, by omega, rfl, E.o.bel⟩;refine xcf rfl<|xsk<|xet<|xsr<|xr 4 rfl<|xne<|xre<|xb2 results61 rfl rfl ?_;exact ⟨n, k, .inl ⟨hk9, hk, hd, .inr (.inl (by omega)), fun h => absurd ((QA (by omega)).1 h.2) (by omega)⟩, hn9, rfl, E.o.bel⟩;refine xr 4 rfl<|xne<|xcf rfl<|xsk<|xet<|xsr<|xr 4 rfl<|xne<|xre<|xb2 results61 rfl rfl ?_;exact ⟨n, k, .inl ⟨hk9, hk, hd, .inr (.inl (by omega)), fun h => absurd h.1 (by omega)⟩, hn9, rfl, E.o.bel⟩;refine xr 15 rfl<|xne<|xcf rfl<|xex<|xtx<|xtx<|xbh<|xet<|xsq<|xsr<|xr 3 rfl<|xcd 38 rfl (fun _ dcc11=>?_) fun _ dcc11=>?_;refine xr 1 rfl<|xy rfl (fun a J=>YQ (i := 0) rfl (J.ev rfl) (J.ev rfl) (by kernel_rfl) (by omega) (by omega))<|xr 2 rfl<|xne<|xce 42 rfl (fun _ dcc12=>?_) fun _ dcc12=>?_;refine xct rfl<|xsr<|xr 2 rfl<|xne<|xre<|xtr<|xb2 results61 rfl rfl ?_;have hfirst : s.data.toList.head? = some 48 := (QA (by omega)).2 (by omega);have h1k : Go.Lib.decFrom 0 (s.data.toList.take k) = some n := hd;obtain ⟨d, hd1⟩ := Vg hd (by omega);exact ⟨0, 1, .inr ⟨rfl, rfl, hfirst, s.get! 1, d, Q1 (by omega), hd1⟩, by omega, rfl, E.o.bel⟩;refine xcf rfl<|xsk<|xet<|xsr<|xr 4 rfl<|xne<|xre<|xb2 results61 rfl rfl ?_;exact ⟨n, k, .inl ⟨hk9, hk, hd, .inl (by omega), fun h => absurd ((QA (by omega)).1 h.2) (by omega)⟩, hn9, rfl, E.o.bel⟩;refine xr 4 rfl<|xne<|xcf rfl<|xsk<|xet<|xsr<|xr 4 rfl<|xne<|xre<|xb2 results61 rfl rfl ?_;exact ⟨n, k, .inl ⟨hk9, hk, hd, .inl (by omega), fun h => absurd h.1 (by omega)⟩, hn9, rfl, E.o.bel⟩
theorem VP (s : ByteArray) (w0 : World) (hs : s.size ≤ 1099511627776) : Calls prog 39 #[.string s] w0 fun e w' => ((∃ n : Nat, Qs s = some n ∧ e = .returned (.tuple #[.int .i64 (n : Int), .bool true]) ∧ Below w0.heap.size w0 w') ∨ (Qs s = none ∧ e = .returned (.tuple #[.int .i64 0, .bool false]) ∧ Below w0.heap.size w0 w')) := by
 have E := Bx.mk (St.start w0);refine ent func39 ntmps39 ?_;refine xsr<|xr 2 rfl<|xne<|xsr<|xr 1 rfl ?_;refine yc (Zfh s _ (by omega)) func61 ?_;rintro _ w1 ⟨n, k, hl1, hn9, rfl, hb⟩;refine ⟨_, rfl, ?_⟩; replace E := Bx.mk (E.o.later hb);clear hb;refine xr 5 rfl<|xne<|xsq<|xsr<|xr 3 rfl<|xce 13 rfl (fun _ dcc1=>?_) fun _ dcc1=>?_;refine xr 5 rfl<|xne<|xct rfl<|xsr<|xr 2 rfl<|xne<|xre<|xtr<|xb2 results39 rfl rfl ?_;exact .inr ⟨ZlK hl1 (by omega), rfl, E.o.bel⟩;refine xr 2 rfl<|xy rfl (fun a J=>ZM rfl (J.ev rfl) (by kernel_rfl))<|xr 2 rfl<|xne<|xcn 18 rfl (fun _ dcc2=>?_) fun _ dcc2=>?_;refine xct rfl<|xsr<|xr 2 rfl<|xne<|xre<|xtr<|xb2 results39 rfl rfl ?_;exact .inr ⟨ZlK hl1 (by omega), rfl, E.o.bel⟩;refine xcf rfl<|xsk<|xet<|xsr<|xr 3 rfl<|xne<|xre<|xb2 results39 rfl rfl ?_;exact .inl ⟨n, Zjv hl1 (by omega) (by omega), rfl, E.o.bel⟩
theorem ZJ (s : ByteArray) (w0 : World) (hT : UG w0) (hE : ZbN w0) : Calls prog 34 #[.string s] w0 fun e w' => ((∃ n : Nat, Qs s = some n ∧ e = .returned (.tuple #[.int .i64 (n : Int), .bool true]) ∧ Below w0.heap.size w0 w') ∨ (Qs s = none ∧ e = .returned (.tuple #[.int .i64 0, .bool false]) ∧ Below w0.heap.size w0 w')) := by
 have HT := Bx.mk hT; clear hT;have HE := Bx.mk hE; clear hE;have E := Bx.mk (St.start w0);refine ent func34 ntmps34 ?_;refine xsr<|xr 2 rfl<|xne<|xsq<|xsr<|xr 1 rfl<|xy rfl (fun a J=>ZM rfl (J.ev rfl) (by kernel_rfl))<|xr 1 rfl<|xne<|xcd 8 rfl (fun _ dcc1=>?_) fun _ dcc1=>?_;refine xct rfl<|xsr<|xr 2 rfl<|xne<|xre<|xtr<|xb2 results34 rfl rfl ?_;exact .inr ⟨Zdp fun m hm e => by have := JU hm; rw [← e] at this; omega, rfl, E.o.bel⟩;refine xcf rfl<|xsk<|xet<|xsr<|xr 1 rfl ?_;refine yc (Zkg s _ (by omega) (HE.o.below E.o.bel)) func58 ?_;rintro _ w1 (⟨n, hat, rfl, hb⟩ | ⟨te, pe, hat, rfl, hb⟩);refine ⟨_, rfl, ?_⟩; replace E := Bx.mk (E.o.later hb);clear hb;refine xr 5 rfl<|xne<|xsq<|xsr<|xr 1 rfl<|xy rfl (fun a J=>ZlS rfl (by kernel_rfl) (J.ev rfl))<|xr 2 rfl ?_;refine VJ (XZ n _ (HT.o.below E.o.bel)) func54 E ?_;clear E;intro w2 E;refine xr 1 rfl<|xy rfl (fun a J=>Xk rfl (J.ev rfl) (J.ev rfl))<|xr 1 rfl<|xne<|xcs 21 rfl (fun cc2=>?_) fun cc2=>?_;refine xct rfl<|xsr<|xr 2 rfl<|xne<|xre<|xtr<|xb2 results34 rfl rfl ?_;exact .inr ⟨Zdp fun m hm e => by rw [e, Zg7] at hat; obtain rfl := Option.some.inj hat; rw [YR (by omega) (by omega), Int.toNat_natCast, ← e] at cc2; simp at cc2, rfl, E.o.bel⟩;refine xcf rfl<|xsk<|xet<|xsr<|xr 3 rfl<|xne<|xre<|xb2 results34 rfl rfl ?_;obtain ⟨m, rfl, hg⟩ := ZlJ hat (ZN (by simpa using cc2));exact .inl ⟨m, hg, rfl, E.o.bel⟩;refine ⟨_, rfl, ?_⟩; replace E := Bx.mk (E.o.later hb);clear hb;refine xr 5 rfl<|xne<|xsq<|xsr<|xr 1 rfl<|xy rfl (fun a J=>ZlT rfl (by kernel_rfl) (J.ev rfl))<|xr 6 rfl<|xne<|xct rfl<|xsr<|xr 2 rfl<|xne<|xre<|xtr<|xb2 results34 rfl rfl ?_;exact .inr ⟨Zdp fun m hm e => by rw [e, Zg7] at hat; exact absurd hat (by simp), rfl, E.o.bel⟩
theorem Zf6 {α β : Type} (f : α → β) (ys : List α) (d : α) {k : Nat} (h : k < ys.length) : (ys.take k).map f ++ [f (ys.getD k d)] = (ys.take (k + 1)).map f := by
 rw [List.take_add_one, List.getElem?_eq_getElem h, List.map_append]; simp [List.getD, h]
structure Ze where
  af : PtrD
  aw : Int
  ai : Int
abbrev tL (t : Ze) : List Value := [.int .i64 t.af.aC, .int .i64 t.af.al, .int .i64 t.af.am, .int .i64 t.af.aB, .int .i64 t.af.aq, .int .i64 t.aw, .int .i64 t.ai]
abbrev tV (t : Ze) : Value := .agg #[.int .i64 t.af.aC, .int .i64 t.af.al, .int .i64 t.af.am, .int .i64 t.af.aB, .int .i64 t.af.aq, .int .i64 t.aw, .int .i64 t.ai]
def JX (t : Ze) : List ByteArray := [Z4 t.af, ZI t.aw, ZI t.ai]
theorem XA (a0 : Option Addr) (n c0 : Nat) (ys : List Int) (w0 : World) (hT : UG w0) (hl : ys.length ≤ 1000) (hR : Rd ZG 1 w0 a0 n ys) : Calls prog 28 #[.slice a0 n c0] w0 fun e w' => ∃ ao cp, e = .returned (.slice ao ys.length cp) ∧ St w0 [Zg Zu 1 9 (.slice ao ys.length cp) (ys.map ZI)] w' := by
 obtain rfl := hR.len;obtain ⟨g0, o0, r0⟩ := hR.opn; have R0 := Bx.mk r0; clear r0 hR;have HT := Bx.mk hT; clear hT;have E := Bx.mk (St.start w0);refine QM func28 rfl ntmps28 [(0, .slice a0 ys.length c0)] ⟨rfl, trivial⟩ rfl ?_;refine xsr<|xr 1 rfl<|xne<|xsr<|xr 1 rfl<|xne<|xsq<|xsr<|xr 1 rfl<|xy rfl (vn 3 1 rfl)<|xr 1 rfl<|xne<|xbl ?_;replace E := Bx.mk (E.o.nilRow Zu 1 9 none);intro a J;refine Zt (ι := Nat) (fun k a w => ∃ (ao : Option Addr) (cp : Nat) (xs : List ByteArray), (k ≤ ys.length ∧ xs = (ys.take k).map ZI) ∧ Fr 19 a [(6, .slice a0 ys.length c0), (7, .int .i64 (ys.length : Int)), (3, .slice ao xs.length cp), (8, .int .i64 (k : Int))] ∧ St w0 ([Zg Zu 1 9 (.slice ao xs.length cp) xs]) w) (fun k => ys.length - k) 0 ⟨_, _, [], ⟨Nat.zero_le _, rfl⟩, J.ls _, E.o⟩ ?_;clear J E; clear a;rintro k a w1 ⟨ao, cp, xs, ⟨hk, hq⟩, J, E⟩;replace E := Bx.mk E;have hxl : xs.length = k := by rw [hq]; simp; omega
 revert a;refine xsr<|xr 1 rfl<|xne<|xsq<|xcd 9 rfl (fun _ dcc1=>?_) fun _ dcc1=>?_
 refine xct rfl<|xsk<|xet<|xsq<|xbl<|xsr<|xy rfl (vxr 3 k 1 rfl (R0.out.ao k (by omega)))<|xy rfl (fun a J=>ylo (v := .int .i64 (ys.getD k 0)) rfl (J.ev rfl) (R0.out.elem1 E.o (Zi (xs := ys) (j := k) (d := 0) (by omega)) rfl))<|xr 1 rfl<|xne<|xrl<|xr 2 rfl ?_;refine ycB (XZ (ys.getD k 0) _ (HT.o.below E.o.bel)) func54 E ?_;clear E;intro w2 E;refine ybs Zu 9 1 [ZI (ys.getD k 0)] E ?_;clear E;intro b1 w3 E;refine yap Y3 Zf E 1 (St.rdN E.o Zf 0 rfl) (Zv _) ?_;clear E;intro ao2 cp3 w4 E;refine xr 1 rfl<|xni<|xeb<|xet<|xrl<|xy rfl (vad rfl)<|xr 1 rfl<|xne ?_;have hz : xs.length + ([ZI (ys.getD k 0)]).length = (xs ++ ([ZI (ys.getD k 0)])).length := (List.length_append ..).symm;intro a J;rw [hz] at E J;have hnext : xs ++ ([ZI (ys.getD k 0)]) = (ys.take (k + 1)).map ZI := by rw [hq]; exact Zf6 ZI ys 0 (by omega)
 replace E:=E.pks [1];exact ⟨k + 1, ⟨_, _, xs ++ ([ZI (ys.getD k 0)]), ⟨by omega, hnext⟩, J.less _ ⟨rfl, rfl, rfl, rfl, trivial⟩, (E.o.erase 1)⟩, (by omega)⟩;refine xcf rfl<|xex<|xtx<|xtx<|xbh<|xet<|xsr<|xr 2 rfl<|xne<|xre<|xb1 results28 rfl ?_;replace E:=E.pks [0];obtain rfl : k = ys.length := by omega
 rw [List.take_length] at hq; subst hq;exact ⟨_, _, by rw [List.length_map], by rw [← List.length_map (f := ZI)]; exact E.o⟩
theorem QQ (t : Ze) (w0 : World) (hT : UG w0) : Calls prog 29 #[tV t] w0 fun e w' => ∃ ao cp, e = .returned (.slice ao 3 cp) ∧ St w0 [Zg Zu 1 9 (.slice ao 3 cp) (JX t)] w' := by
 have HT := Bx.mk hT; clear hT;have E := Bx.mk (St.start w0);refine ent func29 ntmps29 ?_;refine xsr ?_;refine ybx E ?_;clear E;intro w1 b1 E;refine xr 1 rfl<|xne<|xsq ?_;refine hld [] E ?_;clear E;intro w2 E M;refine Hf 0 0 E rfl<|Hw 1 0 5 E rfl rfl<|Hf 4 5 E rfl<|Hl 5 0 E rfl rfl<|Hf 6 6 E rfl<|Hl 7 0 E rfl rfl ?_;refine UE 2 8 ?_ ?_;refine yoB (VN t.af _ (HT.o.below M.o.bel)) func55 ?_;intro w3 hb; replace E := Bx.mk (E.o.later hb); replace M := Bx.mk (M.o.later hb);clear hb; refine onb E.o ?_;refine UE 3 8 ?_ ?_;intro a J;refine ZK (enc := Zu) (e := 9) (size := 1) rfl rfl J rfl rfl rfl (ps := [(0, .string (Z4 t.af))]) rfl (cells := [.string (Z4 t.af)]) (by kernel_rfl) [Z4 t.af] rfl rfl (by unfold maxLen; omega) rfl M.o E.o ?_; clear J E M a; intro b2 a w5 J M E; replace E := Bx.mk E; replace M := Bx.mk M; refine ⟨E.o, ?_⟩;revert a;refine Zk 8 ?_;intro a J;refine ZK (enc := ZG) (e := 3) (size := 1) rfl rfl J rfl rfl rfl (ps := [(0, .int .i64 t.aw), (1, .int .i64 t.ai)]) rfl (cells := [.int .i64 t.aw, .int .i64 t.ai]) (by kernel_rfl) [t.aw, t.ai] rfl rfl (by unfold maxLen; omega) rfl M.o E.o ?_; clear J E M a; intro b3 a w7 J M E; replace E := Bx.mk E; replace M := Bx.mk M; refine ⟨E.o, ?_⟩;revert a;refine Zk 9 ?_;refine yo (XA _ _ _ ([t.aw, t.ai]) _ (HT.o.below M.o.bel) (by simp) (St.rdN M.o Zp 0 rfl)) func28 ?_;rintro _ w9 ⟨ao4, cp4, rfl, hs⟩;refine ⟨_, rfl, ?_⟩;replace E := Bx.mk (E.o.later hs.bel); replace M := M.ad hs;clear hs;intro a J;replace M:=M.nm;refine ⟨E.o, ?_⟩;revert a;refine Zk 10 ?_;intro a J;refine Yq rfl rfl J rfl rfl rfl (J.ev rfl) (J.ev rfl) Y3 Zf M.o 2 (xs := [Z4 t.af]) rfl (ys := ([t.aw, t.ai]).map ZI) (St.rdN M.o Zf 0 rfl) (Zv _) (by unfold maxLen; (try simp only [List.length_append, List.length_cons, List.length_nil, List.nil_append, List.length_map]); omega) (by (try simp only [List.length_append, List.length_cons, List.length_nil, List.nil_append, List.length_map]); omega) ?_; clear J E M a; intro ao5 cp6 w11 a J M; replace M := Bx.mk M;replace M:=M.nm;have E:=M.ers [2,1,0];refine ⟨E.o, ?_⟩;revert a;refine Hp 11 E rfl ?_;refine hdn ?_;replace E := M; clear M;refine xet<|xre<|xb1 results29 rfl ?_;replace E:=E.pks [2];exact ⟨_, _, rfl, (E.o.erS [3,2,1])⟩;intro a J;refine ZK (enc := ZG) (e := 3) (size := 1) rfl rfl J rfl rfl rfl (ps := [(0, .int .i64 t.aw), (1, .int .i64 t.ai)]) rfl (cells := [.int .i64 t.aw, .int .i64 t.ai]) (by kernel_rfl) [t.aw, t.ai] rfl rfl (by unfold maxLen; omega) rfl M.o E.o ?_; clear J E M a; intro b7 a w13 J M E; replace E := Bx.mk E; replace M := Bx.mk M; refine ⟨E.o, ?_⟩;revert a;refine UE 3 9 ?_ ?_;intro a J;refine ZK (enc := Zu) (e := 9) (size := 1) rfl rfl J rfl rfl rfl (ps := [(0, .string (Z4 t.af))]) rfl (cells := [.string (Z4 t.af)]) (by kernel_rfl) [Z4 t.af] rfl rfl (by unfold maxLen; omega) rfl M.o E.o ?_; clear J E M a; intro b8 a w15 J M E; replace E := Bx.mk E; replace M := Bx.mk M; refine ⟨E.o, ?_⟩;revert a;refine Zk 9 ?_;refine yo (XA _ _ _ ([t.aw, t.ai]) _ (HT.o.below M.o.bel) (by simp) (St.rdN M.o Zp 1 rfl)) func28 ?_;rintro _ w17 ⟨ao9, cp9, rfl, hs⟩;refine ⟨_, rfl, ?_⟩;replace E := Bx.mk (E.o.later hs.bel); replace M := M.ad hs;clear hs;intro a J;replace M:=M.nm;refine ⟨E.o, ?_⟩;revert a;refine Zk 10 ?_;intro a J;refine Yq rfl rfl J rfl rfl rfl (J.ev rfl) (J.ev rfl) Y3 Zf M.o 1 (xs := [Z4 t.af]) rfl (ys := ([t.aw, t.ai]).map ZI) (St.rdN M.o Zf 0 rfl) (Zv _) (by unfold maxLen; (try simp only [List.length_append, List.length_cons, List.length_nil, List.nil_append, List.length_map]); omega) (by (try simp only [List.length_append, List.length_cons, List.length_nil, List.nil_append, List.length_map]); omega) ?_; clear J E M a; intro ao10 cp11 w19 a J M; replace M := Bx.mk M;replace M:=M.nm;have E:=M.ers [2,1,0];refine ⟨E.o, ?_⟩;revert a;refine Hp 11 E rfl ?_;refine hdn ?_;replace E := M; clear M;refine xet<|xre<|xb1 results29 rfl ?_;replace E:=E.pks [1];exact ⟨_, _, rfl, (E.o.erS [3,2,1])⟩;refine yo (XA _ _ _ ([t.aw, t.ai]) _ (HT.o.below M.o.bel) (by simp) (St.rdN M.o Zp 0 rfl)) func28 ?_;rintro _ w21 ⟨ao12, cp12, rfl, hs⟩;refine ⟨_, rfl, ?_⟩;replace E := Bx.mk (E.o.later hs.bel); replace M := M.ad hs;clear hs;intro a J;replace M:=M.nm;refine ⟨E.o, ?_⟩;revert a;refine Zk 3 ?_;intro a J;refine ZK (enc := Zu) (e := 9) (size := 1) rfl rfl J rfl rfl rfl (ps := [(0, .string (Z4 t.af))]) rfl (cells := [.string (Z4 t.af)]) (by kernel_rfl) [Z4 t.af] rfl rfl (by unfold maxLen; omega) rfl M.o E.o ?_; clear J E M a; intro b13 a w23 J M E; replace E := Bx.mk E; replace M := Bx.mk M; refine ⟨E.o, ?_⟩;revert a;refine Zk 10 ?_;intro a J;refine Yq rfl rfl J rfl rfl rfl (J.ev rfl) (J.ev rfl) Y3 Zf M.o 0 (xs := [Z4 t.af]) rfl (ys := ([t.aw, t.ai]).map ZI) (St.rdN M.o Zf 1 rfl) (Zv _) (by unfold maxLen; (try simp only [List.length_append, List.length_cons, List.length_nil, List.nil_append, List.length_map]); omega) (by (try simp only [List.length_append, List.length_cons, List.length_nil, List.nil_append, List.length_map]); omega) ?_; clear J E M a; intro ao14 cp15 w25 a J M; replace M := Bx.mk M;replace M:=M.nm;have E:=M.ers [2,1,0];refine ⟨E.o, ?_⟩;revert a;refine Hp 11 E rfl ?_;refine hdn ?_;replace E := M; clear M;refine xet<|xre<|xb1 results29 rfl ?_;replace E:=E.pks [0];exact ⟨_, _, rfl, (E.o.erS [3,2,1])⟩;intro a J;refine ZK (enc := ZG) (e := 3) (size := 1) rfl rfl J rfl rfl rfl (ps := [(0, .int .i64 t.aw), (1, .int .i64 t.ai)]) rfl (cells := [.int .i64 t.aw, .int .i64 t.ai]) (by kernel_rfl) [t.aw, t.ai] rfl rfl (by unfold maxLen; omega) rfl M.o E.o ?_; clear J E M a; intro b16 a w27 J M E; replace E := Bx.mk E; replace M := Bx.mk M; refine ⟨E.o, ?_⟩;revert a;refine Zk 2 ?_;refine yoB (VN t.af _ (HT.o.below M.o.bel)) func55 ?_;intro w28 hb; replace E := Bx.mk (E.o.later hb); replace M := Bx.mk (M.o.later hb);clear hb; refine onb E.o ?_;refine UE 3 9 ?_ ?_;intro a J;refine ZK (enc := Zu) (e := 9) (size := 1) rfl rfl J rfl rfl rfl (ps := [(0, .string (Z4 t.af))]) rfl (cells := [.string (Z4 t.af)]) (by kernel_rfl) [Z4 t.af] rfl rfl (by unfold maxLen; omega) rfl M.o E.o ?_; clear J E M a; intro b17 a w30 J M E; replace E := Bx.mk E; replace M := Bx.mk M; refine ⟨E.o, ?_⟩;revert a;refine Zk 9 ?_;refine yo (XA _ _ _ ([t.aw, t.ai]) _ (HT.o.below M.o.bel) (by simp) (St.rdN M.o Zp 1 rfl)) func28 ?_;rintro _ w32 ⟨ao18, cp18, rfl, hs⟩;refine ⟨_, rfl, ?_⟩;replace E := Bx.mk (E.o.later hs.bel); replace M := M.ad hs;clear hs;intro a J;replace M:=M.nm;refine ⟨E.o, ?_⟩;revert a;refine Zk 10 ?_;intro a J;refine Yq rfl rfl J rfl rfl rfl (J.ev rfl) (J.ev rfl) Y3 Zf M.o 1 (xs := [Z4 t.af]) rfl (ys := ([t.aw, t.ai]).map ZI) (St.rdN M.o Zf 0 rfl) (Zv _) (by unfold maxLen; (try simp only [List.length_append, List.length_cons, List.length_nil, List.nil_append, List.length_map]); omega) (by (try simp only [List.length_append, List.length_cons, List.length_nil, List.nil_append, List.length_map]); omega) ?_; clear J E M a; intro ao19 cp20 w34 a J M; replace M := Bx.mk M;replace M:=M.nm;have E:=M.ers [2,1,0];refine ⟨E.o, ?_⟩;revert a;refine Hp 11 E rfl ?_;refine hdn ?_;replace E := M; clear M;refine xet<|xre<|xb1 results29 rfl ?_;replace E:=E.pks [1];exact ⟨_, _, rfl, (E.o.erS [3,2,1])⟩;refine yo (XA _ _ _ ([t.aw, t.ai]) _ (HT.o.below M.o.bel) (by simp) (St.rdN M.o Zp 0 rfl)) func28 ?_;rintro _ w36 ⟨ao21, cp21, rfl, hs⟩;refine ⟨_, rfl, ?_⟩;replace E := Bx.mk (E.o.later hs.bel); replace M := M.ad hs;clear hs;intro a J;replace M:=M.nm;refine ⟨E.o, ?_⟩;revert a;refine Zk 3 ?_;intro a J;refine ZK (enc := Zu) (e := 9) (size := 1) rfl rfl J rfl rfl rfl (ps := [(0, .string (Z4 t.af))]) rfl (cells := [.string (Z4 t.af)]) (by kernel_rfl) [Z4 t.af] rfl rfl (by unfold maxLen; omega) rfl M.o E.o ?_; clear J E M a; intro b22 a w38 J M E; replace E := Bx.mk E; replace M := Bx.mk M; refine ⟨E.o, ?_⟩;revert a;refine Zk 10 ?_;intro a J;refine Yq rfl rfl J rfl rfl rfl (J.ev rfl) (J.ev rfl) Y3 Zf M.o 0 (xs := [Z4 t.af]) rfl (ys := ([t.aw, t.ai]).map ZI) (St.rdN M.o Zf 1 rfl) (Zv _) (by unfold maxLen; (try simp only [List.length_append, List.length_cons, List.length_nil, List.nil_append, List.length_map]); omega) (by (try simp only [List.length_append, List.length_cons, List.length_nil, List.nil_append, List.length_map]); omega) ?_; clear J E M a; intro ao23 cp24 w40 a J M; replace M := Bx.mk M;replace M:=M.nm;have E:=M.ers [2,1,0];refine ⟨E.o, ?_⟩;revert a;refine Hp 11 E rfl ?_;refine hdn ?_;replace E := M; clear M;refine xet<|xre<|xb1 results29 rfl ?_;replace E:=E.pks [0];exact ⟨_, _, rfl, (E.o.erS [3,2,1])⟩
theorem Z9 (t : Ze) : (JX t).length = 3 := rfl
theorem Zc0 (c : UInt8) : ∀ l : List UInt8, (c ∉ l ∧ index l [c] = -1) ∨ ∃ d t, l = d ++ c :: t ∧ c ∉ d ∧ index l [c] = (d.length : Int)
 | [] => .inl ⟨by simp, rfl⟩
 | b :: l => by
  by_cases hb : b = c
  ·subst hb
   refine .inr ⟨[], l, rfl, by simp, ?_⟩;unfold index;rw [if_pos (by simp [List.isPrefixOf])]; rfl
  ·have hi : index (b :: l) [c] = if index l [c] == -1 then -1 else index l [c] + 1 := by
    conv => lhs; unfold index
    rw [if_neg (by simp [List.isPrefixOf]; exact fun e => hb e.symm)]
   rcases Zc0 c l with ⟨h1, h2⟩ | ⟨d, t, rfl, h2, h3⟩
   ·exact .inl ⟨by simp [h1]; exact fun e => hb e.symm, by rw [hi, h2]; rfl⟩
   ·refine .inr ⟨b :: d, t, rfl, by simp [h2]; exact fun e => hb e.symm, ?_⟩
    rw [hi, h3, if_neg (by simp)]
    rfl
theorem Zkh (c : UInt8) (l : List UInt8) : (c ∉ l ∧ (cut l [c]).2.2 = false) ∨ ∃ d t, l = d ++ c :: t ∧ c ∉ d ∧ cut l [c] = (d, t, true) := by
 rcases Zc0 c l with ⟨h1, h2⟩ | ⟨d, t, rfl, h2, h3⟩
 ·refine .inl ⟨h1, ?_⟩
  unfold cut;rw [h2]; rfl
 ·refine .inr ⟨d, t, rfl, h2, ?_⟩
  unfold cut;rw [h3, if_pos (by omega), Int.toNat_natCast];have e1 : (d ++ c :: t).take d.length = d := by simp
  have e2 : (d ++ c :: t).drop (d.length + [c].length) = t := by simp [List.drop_append]
  rw [e1, e2]
theorem Zki (l : List ByteArray) : ∀ a : ByteArray, l.foldl (fun a s => a ++ Zy s.size ++ ZdD ++ s) a = a ++ Z3 l := by
 induction l with
 | nil => exact fun a => Yx (by rw [ZC]; simp [Z3])
 | cons y ys ih =>
  intro a;have h1 := ih (a ++ Zy y.size ++ ZdD ++ y);have h2 := ih (ByteArray.empty ++ Zy y.size ++ ZdD ++ y);unfold Z3;rw [List.foldl_cons, List.foldl_cons, h1, h2];exact Yx (by simp only [ZC, List.append_assoc]; simp)
theorem Xr (y : ByteArray) (ys : List ByteArray) : (Z3 (y :: ys)).data.toList = (Zy y.size).data.toList ++ 58 :: (y.data.toList ++ (Z3 ys).data.toList) := by
 have h := Zki ys (ByteArray.empty ++ Zy y.size ++ ZdD ++ y);have e : Z3 (y :: ys) = ByteArray.empty ++ Zy y.size ++ ZdD ++ y ++ Z3 ys := h;rw [e];simp only [ZC, List.append_assoc];simp [ZdD]
theorem UI : Z3 [] = ByteArray.empty := rfl
theorem ZlW (xs ys : List ByteArray) : (Z3 (xs ++ ys)).data.toList = (Z3 xs).data.toList ++ (Z3 ys).data.toList := by
 induction xs with
 | nil => simp [UI]
 | cons x xs ih => rw [List.cons_append, Xr, Xr, ih]; simp
theorem UJ (n : Nat) : (58 : UInt8) ∉ (Zy n).data.toList := by
 intro hx;rw [Yk] at hx;obtain ⟨d, hd⟩ := Q6 n 58 hx;obtain ⟨h1, h10⟩ := Q5 hd;have hn : (UInt8.ofNat (48 + d)).toNat = 48 + d := by rw [UInt8.toNat_ofNat']; omega
 rw [← h1] at hn;have : (58 : UInt8).toNat = 58 := rfl
 omega
theorem Zf7 {a b c d : List UInt8} (ha : (58 : UInt8) ∉ a) (hc : (58 : UInt8) ∉ c) (h : a ++ 58 :: b = c ++ 58 :: d) : a = c ∧ b = d := by
 induction a generalizing c with
 | nil =>
  cases c with
  | nil => simpa using h
  | cons x c => simp at h; exact absurd (by simp [h.1]) hc
 | cons x a ih =>
  cases c with
  | nil => simp at h; exact absurd (by simp [h.1]) ha
  | cons y c =>
   simp only [List.cons_append, List.cons.injEq] at h;obtain ⟨h1, h2⟩ := ih (fun hm => ha (by simp [hm])) (fun hm => hc (by simp [hm])) h.2;exact ⟨by rw [h.1, h1], h2⟩
theorem Zhc {m n : Nat} (h : Zy m = Zy n) : m = n := by
 have h1 := QP m;have h2 := QP n;rw [← Yk, h, Yk] at h1;exact Option.some.inj (h1.symm.trans h2)
theorem Zhd {y : ByteArray} {ys : List ByteArray} {d t : List UInt8} (h : (Z3 (y :: ys)).data.toList = d ++ 58 :: t) (hd : (58 : UInt8) ∉ d) : d = (Zy y.size).data.toList ∧ t = y.data.toList ++ (Z3 ys).data.toList := by
 rw [Xr] at h;have := Zf7 (UJ _) hd h;exact ⟨this.1.symm, this.2.symm⟩
theorem Zdq (y : ByteArray) (ys : List ByteArray) : (Z3 (y :: ys)).data.toList ≠ [] := by rw [Xr]; simp
theorem VQ {xs ys : List ByteArray} (h : Z3 xs = Z3 ys) : xs = ys := by
 induction xs generalizing ys with
 | nil =>
  cases ys with
  | nil => rfl
  | cons y ys => exact absurd (by rw [← h]; rfl) (Zdq y ys)
 | cons x xs ih =>
  cases ys with
  | nil => exact absurd (by rw [h]; rfl) (Zdq x xs)
  | cons y ys =>
   have h1 := Zhd (y := x) (ys := xs) (d := (Zy y.size).data.toList) (t := y.data.toList ++ (Z3 ys).data.toList) (by rw [h, Xr]) (UJ _);have hz : x.size = y.size := Zhc (Yx h1.1.symm);have h2 := h1.2;have hl : y.data.toList.length = x.data.toList.length := by rw [← Zh, ← Zh, hz]
   have h3 := List.append_inj h2 hl;rw [Yx h3.1, ih (Yx h3.2.symm)]
structure IsRec (s : ByteArray) (l : List ByteArray) : Prop where
  is : Z3 l = s
  many : l.length ≤ 60
theorem IsRec.one {s : ByteArray} {l m : List ByteArray} (h : IsRec s l) (k : IsRec s m) : l = m := VQ (h.is.trans k.is.symm)
structure Ug (s : ByteArray) (ys : List ByteArray) (rest : ByteArray) : Prop where
  is : s.data.toList = (Z3 ys).data.toList ++ rest.data.toList
theorem Ug.zero (s : ByteArray) : Ug s [] s := ⟨by simp [UI]⟩
theorem Ug.done {s rest : ByteArray} {ys : List ByteArray} (h : Ug s ys rest) (h0 : (rest.toList == (⟨#[]⟩ : ByteArray).toList) = true) : Z3 ys = s := by
 obtain rfl := ZN h0;exact Yx (by rw [h.is]; simp)
theorem Ug.size {s rest : ByteArray} {ys : List ByteArray} (h : Ug s ys rest) : rest.size ≤ s.size := by
 have := congrArg List.length h.is;rw [List.length_append, ← Zh, ← Zh, ← Zh] at this
 omega
theorem Ug.left {s rest : ByteArray} {ys l : List ByteArray} (h : Ug s ys rest) (hl : Z3 l = s) : ∃ ws, l = ys ++ ws ∧ Z3 ws = rest := by
 have key : ∀ (ys l : List ByteArray) (r : List UInt8), (Z3 l).data.toList = (Z3 ys).data.toList ++ r → ∃ ws, l = ys ++ ws ∧ (Z3 ws).data.toList = r := by
  intro ys
  induction ys with
  | nil => exact fun l r e => ⟨l, rfl, by simpa [UI] using e⟩
  | cons y ys ih =>
   intro l r e
   cases l with
   | nil => rw [Xr, UI] at e; simp at e
   | cons x xs =>
    rw [Xr y ys] at e;have h1 := Zhd (y := x) (ys := xs) (d := (Zy y.size).data.toList) (t := y.data.toList ++ (Z3 ys).data.toList ++ r) (by rw [e]; simp) (UJ _);have hz : x.size = y.size := Zhc (Yx h1.1.symm);have hlen : y.data.toList.length = x.data.toList.length := by rw [← Zh, ← Zh, hz]
    have h3 := List.append_inj (by rw [← List.append_assoc]; exact h1.2) hlen;obtain ⟨ws, e1, e2⟩ := ih xs r h3.2.symm;exact ⟨ws, by rw [← Yx h3.1, e1]; rfl, e2⟩
 obtain ⟨ws, e1, e2⟩ := key ys l rest.data.toList (by rw [hl, h.is]);exact ⟨ws, e1, Yx e2⟩
theorem Ug.step {s rest num tail : ByteArray} {ys : List ByteArray} {n : Nat} (h : Ug s ys rest) (hc : rest.data.toList = num.data.toList ++ 58 :: tail.data.toList) (hn : Qs num = some n) (hz : n ≤ tail.size) : Ug s (ys ++ [tail.extract 0 n]) (tail.extract n tail.size) := by
 have hs := (XM hn).2;have hsz : (tail.extract 0 n).size = n := by rw [ByteArray.size_extract]; omega
 refine ⟨?_⟩;rw [h.is, ZlW, Xr, hsz, UI, hc, hs, Yd, Yd];have e1 : (tail.data.toList.drop 0).take (n - 0) = tail.data.toList.take n := by simp
 have e2 : (tail.data.toList.drop n).take (tail.size - n) = tail.data.toList.drop n := List.take_of_length_le (by rw [List.length_drop, ← Zh]; exact Nat.le_refl _);rw [e1, e2]
 simp
theorem Ug.go {s rest : ByteArray} {ys l : List ByteArray} (h : Ug s ys rest) (hl : Z3 l = s) (hs : s.size ≤ 2048) (h60 : l.length ≤ 60) (hne : (rest.toList == (⟨#[]⟩ : ByteArray).toList) = false) : ∃ (y : ByteArray) (ws : List ByteArray), l = ys ++ y :: ws ∧ rest.data.toList = (Zy y.size).data.toList ++ 58 :: (y.data.toList ++ (Z3 ws).data.toList) ∧ Qs (Zy y.size) = some y.size ∧ ys.length < 60 := by
 obtain ⟨ws, e1, e2⟩ := h.left hl
 cases ws with
 | nil =>
  rw [UI] at e2;rw [← e2] at hne;rw [show (ByteArray.empty.toList == (⟨#[]⟩ : ByteArray).toList) = true from beq_self_eq_true (a := ByteArray.empty.toList)] at hne
  cases hne
 | cons y ws =>
  have hr : rest.data.toList = (Zy y.size).data.toList ++ 58 :: (y.data.toList ++ (Z3 ws).data.toList) := by rw [← e2, Xr]
  refine ⟨y, ws, e1, hr, VM ?_, ?_⟩
  ·have h2 := h.size
   have h3 := congrArg List.length hr;rw [List.length_append, List.length_cons, List.length_append] at h3;have h4 := Zh rest;have h5 := Zh y
   omega
  ·rw [e1, List.length_append, List.length_cons] at h60; omega
def Ziy : Go.Shelf.Ren := ⟨fun | 145 => 56 | 217 => 140 | 219 => 104 | 220 => 78 | 224 => 142 | 225 => 141 | 266 => 172 | 267 => 143 | 314 => 173 | n => n, fun | 3 => 3 | 4 => 4 | 5 => 5 | 9 => 9 | 46 => 175 | 51 => 199 | 59 => 87 | 146 => 203 | n => n, fun | 1 => 0 | n => n⟩
theorem ZoC : Go.Proofs.Lays.n145 prog Ziy := {
 mixed := by kernel_rfl
 f145 := Tryz.func56.trans (congrArg some (by kernel_rfl))
 f217 := Tryz.func140.trans (congrArg some (by kernel_rfl))
 f219 := Tryz.func104.trans (congrArg some (by kernel_rfl))
 f220 := Tryz.func78.trans (congrArg some (by kernel_rfl))
 f224 := Tryz.func142.trans (congrArg some (by kernel_rfl))
 f225 := Tryz.func141.trans (congrArg some (by kernel_rfl))
 f266 := Tryz.func172.trans (congrArg some (by kernel_rfl))
 f267 := Tryz.func143.trans (congrArg some (by kernel_rfl))
 f314 := Tryz.func173.trans (congrArg some (by kernel_rfl))
 t3 := Tryz.underlying3
 a3 := Tryz.isAgg3
 z3 := Tryz.sizeOf3
 v3 := Tryz.zeroValue3
 t4 := Tryz.underlying4
 a4 := Tryz.isAgg4
 z4 := Tryz.sizeOf4
 v4 := Tryz.zeroValue4
 t5 := Tryz.underlying5
 a5 := Tryz.isAgg5
 z5 := Tryz.sizeOf5
 v5 := Tryz.zeroValue5
 t9 := Tryz.underlying9
 a9 := Tryz.isAgg9
 z9 := Tryz.sizeOf9
 v9 := Tryz.zeroValue9
 t46 := Tryz.underlying175
 a46 := Tryz.isAgg175
 z46 := Tryz.sizeOf175
 v46 := Tryz.zeroValue175
 t51 := Tryz.underlying199
 a51 := Tryz.isAgg199
 z51 := Tryz.sizeOf199
 v51 := Tryz.zeroValue199
 t59 := Tryz.underlying87
 a59 := Tryz.isAgg87
 z59 := Tryz.sizeOf87
 v59 := Tryz.zeroValue87
 t146 := Tryz.underlying203
 a146 := Tryz.isAgg203
 z146 := Tryz.sizeOf203
 v146 := Tryz.zeroValue203
 g1 := by kernel_rfl }
def Zf8 : Go.Shelf.Ren := ⟨fun | 316 => 79 | n => n, fun | 0 => 0 | 3 => 3 | 4 => 4 | 5 => 5 | 9 => 9 | 37 => 22 | 127 => 109 | n => n, fun | n => n⟩
theorem ZlX : Go.Proofs.LaysM.n316 prog Zf8 := {
 mixed := by kernel_rfl
 f316 := Tryz.func79.trans (congrArg some (by kernel_rfl))
 t0 := Tryz.underlying0
 a0 := Tryz.isAgg0
 z0 := Tryz.sizeOf0
 v0 := Tryz.zeroValue0
 t3 := Tryz.underlying3
 a3 := Tryz.isAgg3
 z3 := Tryz.sizeOf3
 v3 := Tryz.zeroValue3
 t4 := Tryz.underlying4
 a4 := Tryz.isAgg4
 z4 := Tryz.sizeOf4
 v4 := Tryz.zeroValue4
 t9 := Tryz.underlying9
 a9 := Tryz.isAgg9
 z9 := Tryz.sizeOf9
 v9 := Tryz.zeroValue9
 t37 := Tryz.underlying22
 a37 := Tryz.isAgg22
 z37 := Tryz.sizeOf22
 v37 := Tryz.zeroValue22
 t127 := Tryz.underlying109
 a127 := Tryz.isAgg109
 z127 := Tryz.sizeOf109
 v127 := Tryz.zeroValue109
 t5 := Tryz.underlying5
 a5 := Tryz.isAgg5
 z5 := Tryz.sizeOf5
 v5 := Tryz.zeroValue5
 i0 := by kernel_rfl
 i3 := by kernel_rfl
 i4 := by kernel_rfl
 i5 := by kernel_rfl
 i9 := by kernel_rfl
 i37 := by kernel_rfl
 i127 := by kernel_rfl }
theorem Znq (s : ByteArray) (w : World) (hM : ZbL w) (hs : s.size ≤ 4294967280) : Calls prog 56 #[.string s, .string ⟨#[58]⟩] w fun e w' => ((58 : UInt8) ∉ s.data.toList ∧ (∃ b a : ByteArray, e = .returned (.tuple #[.string b, .string a, .bool false])) ∧ Below w.heap.size w w') ∨ (∃ num tail : ByteArray, s.data.toList = num.data.toList ++ 58 :: tail.data.toList ∧ (58 : UInt8) ∉ num.data.toList ∧ e = .returned (.tuple #[.string num, .string tail, .bool true]) ∧ Below w.heap.size w w') := by
 obtain ⟨m, hm⟩ := hM;refine (Any.strings_Cut ZoC s ⟨#[58]⟩ m w (by omega) hm).mono ?_;rintro e w' ⟨rfl, n, rfl⟩;rcases Zkh 58 s.data.toList with ⟨h1, h2⟩ | ⟨d, t, h1, h2, h3⟩
 ·refine .inl ⟨h1, ⟨⟨(Go.Lib.cut s.data.toList [58]).1.toArray⟩, ⟨(Go.Lib.cut s.data.toList [58]).2.1.toArray⟩, ?_⟩, ZP _ _ _⟩
  show Ending.returned (.tuple #[_, _, .bool (Go.Lib.cut s.data.toList [58]).2.2]) = _;rw [h2]
 ·refine .inr ⟨⟨d.toArray⟩, ⟨t.toArray⟩, h1, h2, ?_, ZP _ _ _⟩
  show Ending.returned (.tuple #[.string ⟨(Go.Lib.cut s.data.toList [58]).1.toArray⟩, .string ⟨(Go.Lib.cut s.data.toList [58]).2.1.toArray⟩, .bool (Go.Lib.cut s.data.toList [58]).2.2]) = _;rw [h3]
theorem Ziz (s : ByteArray) (w0 : World) (hs : s.size ≤ 281474976710656) : Calls prog 57 #[.string s] w0 fun e w' => e = .returned (.string s) ∧ Below w0.heap.size w0 w' := by
 have E := Bx.mk (St.start w0);refine ent func57 ntmps57 ?_;refine xsr<|xr 1 rfl<|xne<|xsr<|xr 1 rfl ?_;refine ycB (Any.stringslite_Clone ZlX s _ (by omega)) func79 E ?_;clear E;intro w1 E;refine xr 1 rfl<|xne<|xre<|xb1 results57 rfl ?_;exact ⟨rfl, E.o.bel⟩
theorem ZeM (s : ByteArray) (w0 : World) (hT : UG w0) (hM : ZbL w0) (hE : ZbN w0) (hs : s.size ≤ 9223372036854775807) : Calls prog 33 #[.string s] w0 fun e w' => (∃ xs, IsRec s xs ∧ s.size ≤ 2048 ∧ ∃ ao cp, e = .returned (.tuple #[.slice ao xs.length cp, .bool true]) ∧ St w0 [Zg Zu 1 9 (.slice ao xs.length cp) xs] w') ∨ ((∀ l, IsRec s l → s.size ≤ 2048 → False) ∧ e = .returned (.tuple #[.slice none 0 0, .bool false]) ∧ Below w0.heap.size w0 w') := by
 have HT := Bx.mk hT; have HM := Bx.mk hM; have HE := Bx.mk hE; clear hT hM hE;have E := Bx.mk (St.start w0);refine ent func33 ntmps33 ?_;refine xsr<|xr 2 rfl<|xne<|xsq<|xsr<|xr 1 rfl<|xy rfl (fun a J=>ZM rfl (J.ev rfl) (by kernel_rfl))<|xr 1 rfl<|xne<|xcd 13 rfl (fun _ dcc1=>?_) fun _ dcc1=>?_;refine xct rfl<|xsr<|xr 2 rfl<|xne<|xre<|xtr<|xb2 results33 rfl rfl ?_;exact .inr ⟨fun l h h2 => absurd h2 (by omega), rfl, E.o.bel⟩;refine xcf rfl<|xsk<|xet<|xsq ?_;have hsz : s.size ≤ 2048 := by omega
 refine xrl<|xr 1 rfl<|xne<|xsq<|xsr<|xr 2 rfl<|xne<|xbl ?_;replace E := Bx.mk (E.o.nilRow Zu 1 9 none);intro a J;refine Zt (ι := Nat) (fun k a w => ∃ (ao : Option Addr) (cp : Nat) (xs : List ByteArray) (rest : ByteArray), (k = rest.size ∧ Ug s xs rest ∧ xs.length ≤ 60) ∧ Fr 56 a [(0, .string s), (4, .slice ao xs.length cp), (5, .string rest)] ∧ St w0 ([Zg Zu 1 9 (.slice ao xs.length cp) xs]) w) (fun k => k) s.size ⟨_, _, [], s, ⟨rfl, Ug.zero s, Nat.zero_le _⟩, J.ls _, E.o⟩ ?_;clear J E; clear a;rintro k a w1 ⟨ao, cp, xs, rest, ⟨hkr, hto, hxl⟩, J, E⟩;replace E := Bx.mk E;have hrs := hto.size;revert a;refine xsq<|xsr<|xr 1 rfl<|xy rfl (fun a J=>Xk rfl (J.ev rfl) (J.ev rfl))<|xne<|xcs 16 rfl (fun cc2=>?_) fun cc2=>?_
 have hre : (rest.toList == (⟨#[]⟩ : ByteArray).toList) = false := by simpa using cc2
 refine xct rfl<|xsk<|xet<|xbl<|xsr<|xr 1 rfl ?_;refine yc (Znq rest _ (HM.o.below E.o.bel) (by omega)) func56 ?_;rintro _ w2 (⟨h58, ⟨cb, ca, rfl⟩, hb⟩ | ⟨num, tail, hcut, h58, rfl, hb⟩);refine ⟨_, rfl, ?_⟩; replace E := Bx.mk (E.o.later hb);clear hb;refine xr 7 rfl<|xne<|xsr<|xr 1 rfl ?_;refine yc (ZJ cb _ (HT.o.below E.o.bel) (HE.o.below E.o.bel)) func34 ?_;rintro _ w3 (⟨n, hng, rfl, hb⟩ | ⟨hng, rfl, hb⟩);refine ⟨_, rfl, ?_⟩; replace E := Bx.mk (E.o.later hb);clear hb;refine xr 5 rfl<|xne<|xsq<|xsr<|xr 17 rfl<|xne<|xct rfl<|xsr<|xr 2 rfl<|xne<|xre<|xtr<|xbr<|xtr<|xbr<|xtr<|xb2 results33 rfl rfl ?_;refine .inr ⟨fun l h h2 => ?_, rfl, E.o.bel⟩;obtain ⟨y, ws, e1, e2, e3, e4⟩ := hto.go h.is h2 h.many hre;exact h58 (by rw [e2]; simp);refine ⟨_, rfl, ?_⟩; replace E := Bx.mk (E.o.later hb);clear hb;refine xr 5 rfl<|xne<|xsq<|xsr<|xr 17 rfl<|xne<|xct rfl<|xsr<|xr 2 rfl<|xne<|xre<|xtr<|xbr<|xtr<|xbr<|xtr<|xb2 results33 rfl rfl ?_;refine .inr ⟨fun l h h2 => ?_, rfl, E.o.bel⟩;obtain ⟨y, ws, e1, e2, e3, e4⟩ := hto.go h.is h2 h.many hre;exact h58 (by rw [e2]; simp);refine ⟨_, rfl, ?_⟩; replace E := Bx.mk (E.o.later hb);clear hb;have htl : tail.size ≤ 2048 := by have h1 := congrArg List.length hcut; rw [List.length_append, List.length_cons] at h1; have h2 := Zh rest; have h3 := Zh tail; have h4 := hto.size; omega
 refine xr 7 rfl<|xne<|xsr<|xr 1 rfl ?_;refine yc (ZJ num _ (HT.o.below E.o.bel) (HE.o.below E.o.bel)) func34 ?_;rintro _ w4 (⟨n, hng, rfl, hb⟩ | ⟨hng, rfl, hb⟩);refine ⟨_, rfl, ?_⟩; replace E := Bx.mk (E.o.later hb);clear hb;refine xr 5 rfl<|xne<|xsq<|xsr<|xr 9 rfl<|xy rfl (fun a J=>ZM rfl (J.ev rfl) (by kernel_rfl))<|xr 3 rfl<|xcd 40 rfl (fun _ dcc3=>?_) fun _ dcc3=>?_;refine xr 4 rfl<|xne<|xct rfl<|xsr<|xr 2 rfl<|xne<|xre<|xtr<|xbr<|xtr<|xbr<|xtr<|xb2 results33 rfl rfl ?_;refine .inr ⟨fun l h h2 => ?_, rfl, E.o.bel⟩;obtain ⟨y, ws, e1, e2, e3, e4⟩ := hto.go h.is h2 h.many hre;have e5 := Zf7 (UJ y.size) h58 (e2.symm.trans hcut);rw [Yx e5.1] at e3; have e6 := Option.some.inj (e3.symm.trans hng); have e7 := congrArg List.length e5.2; rw [List.length_append] at e7; have e8 := Zh y; have e9 := Zh tail; omega;refine xr 1 rfl<|xy rfl (vn 9 1 rfl)<|xr 2 rfl<|xne<|xce 44 rfl (fun _ dcc4=>?_) fun _ dcc4=>?_;refine xct rfl<|xsr<|xr 2 rfl<|xne<|xre<|xtr<|xbr<|xtr<|xbr<|xtr<|xb2 results33 rfl rfl ?_;refine .inr ⟨fun l h h2 => ?_, rfl, E.o.bel⟩;obtain ⟨y, ws, e1, e2, e3, e4⟩ := hto.go h.is h2 h.many hre;have e5 := Zf7 (UJ y.size) h58 (e2.symm.trans hcut);rw [Yx e5.1] at e3; have e6 := Option.some.inj (e3.symm.trans hng); have e7 := congrArg List.length e5.2; rw [List.length_append] at e7; have e8 := Zh y; have e9 := Zh tail; omega;refine xcf rfl<|xsk<|xet<|xsr<|xr 3 rfl<|xy rfl (fun a J=>XY (k := n) rfl (J.ev rfl) (J.ev rfl) (by kernel_rfl) (by omega) (by omega)) ?_;refine ycB (Ziz (tail.extract 0 n) _ (by rw [ByteArray.size_extract]; omega)) func57 E ?_;clear E;intro w5 E;refine ybs Zu 9 1 [tail.extract 0 n] E ?_;clear E;intro b1 w6 E;refine yap Y3 Zf E 1 (St.rdN E.o Zf 0 rfl) (Zv _) ?_;clear E;intro ao2 cp3 w7 E;refine xr 1 rfl<|xne<|xrl<|xr 2 rfl<|xy rfl (fun a J=>Qu (k := n) rfl (J.ev rfl) (J.ev rfl) (by kernel_rfl) (by omega) (by omega))<|xr 1 rfl<|xni<|xeb<|xet ?_;have hz : xs.length + ([tail.extract 0 n]).length = (xs ++ ([tail.extract 0 n])).length := (List.length_append ..).symm;intro a J;rw [hz] at E J;have hto2 := hto.step hcut hng (by omega);have hlt : (tail.extract n tail.size).size < rest.size := by have h1 := congrArg List.length hcut; rw [List.length_append, List.length_cons] at h1; have h2 := Zh rest; have h3 := Zh tail; rw [ByteArray.size_extract]; omega
 replace E:=E.pks [1];exact ⟨(tail.extract n tail.size).size, ⟨_, _, xs ++ ([tail.extract 0 n]), tail.extract n tail.size, ⟨rfl, hto2, by rw [List.length_append, List.length_cons, List.length_nil]; omega⟩, J.less _ ⟨rfl, rfl, rfl, trivial⟩, (E.o.erase 1)⟩, (by rw [hkr]; exact hlt)⟩;refine ⟨_, rfl, ?_⟩; replace E := Bx.mk (E.o.later hb);clear hb;refine xr 5 rfl<|xne<|xsq<|xsr<|xr 17 rfl<|xne<|xct rfl<|xsr<|xr 2 rfl<|xne<|xre<|xtr<|xbr<|xtr<|xbr<|xtr<|xb2 results33 rfl rfl ?_;refine .inr ⟨fun l h h2 => ?_, rfl, E.o.bel⟩;obtain ⟨y, ws, e1, e2, e3, e4⟩ := hto.go h.is h2 h.many hre;have e5 := Zf7 (UJ y.size) h58 (e2.symm.trans hcut);rw [Yx e5.1] at e3; rw [e3] at hng; cases hng;have hre : (rest.toList == (⟨#[]⟩ : ByteArray).toList) = true := by simpa using cc2
 refine xcf rfl<|xex<|xtx<|xtx<|xbh<|xet<|xsr<|xr 3 rfl<|xne<|xre<|xb2 results33 rfl rfl ?_;replace E:=E.pks [0];exact .inl ⟨xs, ⟨hto.done hre, hxl⟩, hsz, _, _, rfl, E.o⟩
theorem ZlY (n : Nat) : ∀ x ∈ (Zy n).data.toList, x ≠ 46 := by
 intro x hx e;subst e;rw [Yk] at hx;obtain ⟨d, hd⟩ := Q6 n 46 hx;obtain ⟨h1, h10⟩ := Q5 hd;have hn : (UInt8.ofNat (48 + d)).toNat = 48 + d := by rw [UInt8.toNat_ofNat']; omega
 rw [← h1] at hn;have : (46 : UInt8).toNat = 46 := rfl
 omega
theorem VR {n : Int} (h : 0 ≤ n ∧ n ≤ 999999999) : ∀ x ∈ (ZI n).data.toList, x ≠ 46 := by rw [YR h.1 h.2]; exact ZlY _
theorem ZbO {a : ByteArray} (h : ∀ x ∈ a.data.toList, x ≠ 46) (b : ByteArray) : Zd (a ++ (Zcp ++ b)) 46 = a :: Zd b 46 := by
 unfold Zd;rw [ZC, ZC, show Zcp.data.toList = [46] from rfl, List.singleton_append, Q4 46 _ _ h, List.map_cons]
theorem Zf9 {a : ByteArray} (h : ∀ x ∈ a.data.toList, x ≠ 46) : Zd a 46 = [a] := by
 unfold Zd;rw [Ji 46 _ h, List.map_cons, List.map_nil]
theorem Zfi (a b c : ByteArray) : a ++ b ++ c = a ++ (b ++ c) := Yx (by simp only [ZC, List.append_assoc])
theorem YA {p : PtrD} (h : p.ok = true) (hh : p.hole = false) : Zd (Z4 p) 46 = [ZI p.aC, ZI p.al, ZI p.am, ZI p.aB, ZI p.aq] := by
 have hb := PtrD.ok_all h hh;rw [UH h hh];simp only [Zfi];rw [ZbO (VR (by omega)), ZbO (VR (by omega)), ZbO (VR (by omega)), ZbO (VR (by omega)), Zf9 (VR (by omega))]
theorem Z6 {n : Int} (h : 0 ≤ n ∧ n ≤ 999999999) : Qs (ZI n) = some n.toNat := by rw [YR h.1 h.2]; exact VM (by omega)
theorem UK {n : Int} {m : Nat} (h : 0 ≤ n ∧ n ≤ 999999999) (hg : Qs (ZI n) = some m) : (m : Int) = n := by
 rw [Z6 h] at hg;have := Option.some.inj hg
 omega
theorem YT {p : PtrD} (h : p.hole = true) : p = PtrD.zero := by
 unfold PtrD.hole at h;simp only [Bool.and_eq_true, beq_iff_eq] at h;obtain ⟨⟨⟨⟨h1, h2⟩, h3⟩, h4⟩, h5⟩ := h
 cases p
 simp only at h1 h2 h3 h4 h5;subst h1; subst h2; subst h3; subst h4; subst h5
 rfl
theorem QR {p : PtrD} {s : ByteArray} (h : p.ok = true) (hs : Z4 p = s) (hd : (s.toList == (⟨#[45]⟩ : ByteArray).toList) = false) : p.hole = false := by
 cases hh : p.hole with
 | false => rfl
 | true =>
  rw [X8 h hh] at hs;rw [← hs, show ((⟨#[45]⟩ : ByteArray).toList == (⟨#[45]⟩ : ByteArray).toList) = true from beq_self_eq_true _] at hd
  cases hd
theorem Zpj {α : Type} {l : List α} (h : l.length = 5) : ∃ a b c d e, l = [a, b, c, d, e] := by
 match l, h with
 | [a, b, c, d, e], _ => exact ⟨a, b, c, d, e, rfl⟩
theorem ZbP {p q : PtrD} (hp : p.ok = true) (hq : q.ok = true) (h : Z4 p = Z4 q) : p = q := by
 cases h1 : p.hole with
 | true =>
  cases h2 : q.hole with
  | true => rw [YT h1, YT h2]
  | false =>
   have := YA hq h2;rw [← h, X8 hp h1] at this;exact absurd (congrArg List.length this) (show ¬ (1 : Nat) = 5 by decide)
 | false =>
  cases h2 : q.hole with
  | true =>
   have := YA hp h1;rw [h, X8 hq h2] at this;exact absurd (congrArg List.length this) (show ¬ (1 : Nat) = 5 by decide)
  | false =>
   have e1 := YA hp h1;have e2 := YA hq h2;rw [h, e2] at e1;have hb := PtrD.ok_all hp h1;have hc := PtrD.ok_all hq h2;simp only [List.cons.injEq, and_true] at e1;obtain ⟨k1, k2, k3, k4, k5⟩ := e1;have num : ∀ {m n : Int}, 0 ≤ m ∧ m ≤ 999999999 → 0 ≤ n ∧ n ≤ 999999999 → ZI m = ZI n → n = m := fun hm hn e => by
    have := Z6 hm;rw [e, Z6 hn] at this;have := Option.some.inj this
    omega
   have j1 := num (by omega) (by omega) k1;have j2 := num (by omega) (by omega) k2;have j3 := num (by omega) (by omega) k3;have j4 := num (by omega) (by omega) k4;have j5 := num (by omega) (by omega) k5
   cases p; cases q
   simp only at j1 j2 j3 j4 j5;subst j1; subst j2; subst j3; subst j4; subst j5
   rfl
theorem ZiA (s : ByteArray) (w0 : World) (hT : UG w0) (hM : ZbL w0) (hE : ZbN w0) (hs : s.size ≤ 4294967280) : Calls prog 59 #[.string s] w0 fun e w' => (∃ p : PtrD, p.ok = true ∧ Z4 p = s ∧ e = .returned (.tuple #[pV p, .bool true]) ∧ Below w0.heap.size w0 w') ∨ ((∀ p : PtrD, p.ok = true → Z4 p = s → False) ∧ e = .returned (.tuple #[az5, .bool false]) ∧ Below w0.heap.size w0 w') := by
 have HT := Bx.mk hT; have HM := Bx.mk hM; have HE := Bx.mk hE; clear hT hM hE;have E := Bx.mk (St.start w0);refine ent func59 ntmps59 ?_;refine xsr ?_;refine yal z5 E ?_;clear E;intro w1 b1 E;refine xr 1 rfl<|xne<|xsq<|xsr<|xr 1 rfl<|xy rfl (fun a J=>Y7 rfl (J.ev rfl) (J.ev rfl))<|xne<|xcs 12 rfl (fun cc1=>?_) fun cc1=>?_;refine xct rfl<|xsr<|xy rfl (vb z5 rfl) ?_;refine yst E 0 ?_;clear E;intro w2 E;replace E:=E.nm;refine xr 1 rfl<|xne<|xre<|xtr ?_;intro a J;refine Zw J results59 (J.resBox rfl (E.o.box 0 rfl) (by kernel_rfl)) (J.res rfl) ?_;exact .inl ⟨PtrD.zero, by decide, (X8 (by decide) (by decide)).trans (ZN cc1).symm, rfl, E.o.bel⟩;refine xcf rfl<|xsk<|xet<|xsr ?_;refine yal z5 E ?_;clear E;intro w3 b2 E;refine xne<|xsr<|xr 1 rfl ?_;refine yc (Zke s 46 _ (by omega) (HM.o.below E.o.bel)) func82 ?_;rintro _ w4 ⟨ao3, cp3, rfl, hs⟩;refine ⟨_, rfl, ?_⟩;replace E := E.ad hs;clear hs;refine xr 1 rfl<|xne<|xsr ?_;refine yc (Zfg b2 _) func76 ?_;rintro _ w5 ⟨ao4, cp4, rfl, hs⟩;refine ⟨_, rfl, ?_⟩;replace E := E.ad hs;clear hs;refine xr 1 rfl<|xne<|xsq<|xsr<|xr 1 rfl<|xy rfl (vn 9 1 rfl)<|xr 1 rfl<|xy rfl (vn 59 1 rfl)<|xr 1 rfl<|xne<|xcn 21 rfl (fun _ dcc2=>?_) fun _ dcc2=>?_;refine xct rfl<|xsr<|xy rfl (vb z5 rfl) ?_;refine yst E 3 ?_;clear E;intro w6 E;replace E:=E.nm;refine xr 1 rfl<|xne<|xre<|xtr ?_;intro a J;refine Zw J results59 (J.resBox rfl (E.o.box 3 rfl) (by kernel_rfl)) (J.res rfl) ?_;refine .inr ⟨fun q hq hqs => ?_, rfl, E.o.bel⟩;have hqh := QR hq hqs (by simpa using cc1); have hqp := YA hq hqh; rw [hqs] at hqp; have hqb := PtrD.ok_all hq hqh;rw [hqp] at dcc2; exact dcc2 rfl;refine xcf rfl<|xsk<|xet<|xsq<|xsq ?_;intro a J;obtain ⟨x0, x1, x2, x3, x4, hws⟩ := Zpj (l := Zd s 46) (by omega); rw [hws] at E J;replace J : Fr 51 a [(0, .string s), (2, .pointer (some ⟨b1, 0, none⟩)), (3, .bool false), (11, .string s), (12, .bool false), (4, .pointer (some ⟨b2, 0, none⟩)), (14, .string s), (15, .slice ao3 5 cp3), (5, .slice ao3 5 cp3), (16, .slice ao4 5 cp4), (6, .slice ao4 5 cp4), (17, .slice ao3 5 cp3), (19, .slice ao4 5 cp4), (20, .int .i64 (5 : Int)), (21, .bool false)] := J.ls _;obtain ⟨g5, rfl, _, _, _, _⟩ := E.o.rowOpen 1 rfl (Nat.succ_pos _);obtain ⟨g6, rfl, _, _, _, _⟩ := E.o.rowOpen 0 rfl (Nat.succ_pos _);revert a;refine xrl<|xr 1 rfl<|xy rfl (vn 9 1 rfl)<|xr 1 rfl<|xne<|xbl ?_;intro a J;refine Zco 6 ?_;revert a;refine xsr<|xr 1 rfl<|xne<|xsq ?_;intro a J;replace J := J.know (k := 26) (c := true) rfl (by decide);revert a;refine xct rfl<|xsk<|xet<|xsq<|xbl<|xsr<|xr 1 rfl<|xy rfl (vx 9 0 1 rfl)<|xy rfl (ve Zf E.o 1 0 rfl rfl rfl rfl)<|xr 2 rfl<|xne<|xsr<|xr 1 rfl ?_;refine yc (ZJ x0 _ (HT.o.below E.o.bel) (HE.o.below E.o.bel)) func34 ?_;rintro _ w7 (⟨n7, hg7, rfl, hb⟩ | ⟨hg7, rfl, hb⟩);refine ⟨_, rfl, ?_⟩; replace E := Bx.mk (E.o.later hb);clear hb;refine xr 5 rfl<|xne<|xsq<|xsr<|xr 2 rfl<|xne<|xcf rfl<|xsk<|xet<|xrl<|xr 2 rfl<|xy rfl (vx 59 0 1 rfl)<|xy rfl (ve Xq E.o 0 0 rfl rfl rfl rfl)<|xr 2 rfl ?_;refine ysF 2 E ?_;clear E;intro w8 E;replace E:=E.nm;refine xni<|xeb<|xet<|xrl<|xy rfl (fun a J=>Yc (r := 1) rfl (J.ev rfl) (J.ev rfl) (by decide))<|xr 1 rfl<|xne ?_;intro a J;refine Xp 5 ?_;revert a;refine xsr<|xr 1 rfl<|xne<|xsq ?_;intro a J;replace J := J.know (k := 26) (c := true) rfl (by decide);revert a;refine xct rfl<|xsk<|xet<|xsq<|xbl<|xsr<|xr 1 rfl<|xy rfl (vx 9 1 1 rfl)<|xy rfl (ve Zf E.o 1 1 rfl rfl rfl rfl)<|xr 2 rfl<|xne<|xsr<|xr 1 rfl ?_;refine yc (ZJ x1 _ (HT.o.below E.o.bel) (HE.o.below E.o.bel)) func34 ?_;rintro _ w9 (⟨n8, hg8, rfl, hb⟩ | ⟨hg8, rfl, hb⟩);refine ⟨_, rfl, ?_⟩; replace E := Bx.mk (E.o.later hb);clear hb;refine xr 5 rfl<|xne<|xsq<|xsr<|xr 2 rfl<|xne<|xcf rfl<|xsk<|xet<|xrl<|xr 2 rfl<|xy rfl (vx 59 1 1 rfl)<|xy rfl (ve Xq E.o 0 1 rfl rfl rfl rfl)<|xr 2 rfl ?_;refine ysF 2 E ?_;clear E;intro w10 E;replace E:=E.nm;refine xni<|xeb<|xet<|xrl<|xy rfl (fun a J=>Yc (r := 2) rfl (J.ev rfl) (J.ev rfl) (by decide))<|xr 1 rfl<|xne ?_;intro a J;refine Xp 4 ?_;revert a;refine xsr<|xr 1 rfl<|xne<|xsq ?_;intro a J;replace J := J.know (k := 26) (c := true) rfl (by decide);revert a;refine xct rfl<|xsk<|xet<|xsq<|xbl<|xsr<|xr 1 rfl<|xy rfl (vx 9 2 1 rfl)<|xy rfl (ve Zf E.o 1 2 rfl rfl rfl rfl)<|xr 2 rfl<|xne<|xsr<|xr 1 rfl ?_;refine yc (ZJ x2 _ (HT.o.below E.o.bel) (HE.o.below E.o.bel)) func34 ?_;rintro _ w11 (⟨n9, hg9, rfl, hb⟩ | ⟨hg9, rfl, hb⟩);refine ⟨_, rfl, ?_⟩; replace E := Bx.mk (E.o.later hb);clear hb;refine xr 5 rfl<|xne<|xsq<|xsr<|xr 2 rfl<|xne<|xcf rfl<|xsk<|xet<|xrl<|xr 2 rfl<|xy rfl (vx 59 2 1 rfl)<|xy rfl (ve Xq E.o 0 2 rfl rfl rfl rfl)<|xr 2 rfl ?_;refine ysF 2 E ?_;clear E;intro w12 E;replace E:=E.nm;refine xni<|xeb<|xet<|xrl<|xy rfl (fun a J=>Yc (r := 3) rfl (J.ev rfl) (J.ev rfl) (by decide))<|xr 1 rfl<|xne ?_;intro a J;refine Xp 3 ?_;revert a;refine xsr<|xr 1 rfl<|xne<|xsq ?_;intro a J;replace J := J.know (k := 26) (c := true) rfl (by decide);revert a;refine xct rfl<|xsk<|xet<|xsq<|xbl<|xsr<|xr 1 rfl<|xy rfl (vx 9 3 1 rfl)<|xy rfl (ve Zf E.o 1 3 rfl rfl rfl rfl)<|xr 2 rfl<|xne<|xsr<|xr 1 rfl ?_;refine yc (ZJ x3 _ (HT.o.below E.o.bel) (HE.o.below E.o.bel)) func34 ?_;rintro _ w13 (⟨n10, hg10, rfl, hb⟩ | ⟨hg10, rfl, hb⟩);refine ⟨_, rfl, ?_⟩; replace E := Bx.mk (E.o.later hb);clear hb;refine xr 5 rfl<|xne<|xsq<|xsr<|xr 2 rfl<|xne<|xcf rfl<|xsk<|xet<|xrl<|xr 2 rfl<|xy rfl (vx 59 3 1 rfl)<|xy rfl (ve Xq E.o 0 3 rfl rfl rfl rfl)<|xr 2 rfl ?_;refine ysF 2 E ?_;clear E;intro w14 E;replace E:=E.nm;refine xni<|xeb<|xet<|xrl<|xy rfl (fun a J=>Yc (r := 4) rfl (J.ev rfl) (J.ev rfl) (by decide))<|xr 1 rfl<|xne ?_;intro a J;refine Xp 2 ?_;revert a;refine xsr<|xr 1 rfl<|xne<|xsq ?_;intro a J;replace J := J.know (k := 26) (c := true) rfl (by decide);revert a;refine xct rfl<|xsk<|xet<|xsq<|xbl<|xsr<|xr 1 rfl<|xy rfl (vx 9 4 1 rfl)<|xy rfl (ve Zf E.o 1 4 rfl rfl rfl rfl)<|xr 2 rfl<|xne<|xsr<|xr 1 rfl ?_;refine yc (ZJ x4 _ (HT.o.below E.o.bel) (HE.o.below E.o.bel)) func34 ?_;rintro _ w15 (⟨n11, hg11, rfl, hb⟩ | ⟨hg11, rfl, hb⟩);refine ⟨_, rfl, ?_⟩; replace E := Bx.mk (E.o.later hb);clear hb;refine xr 5 rfl<|xne<|xsq<|xsr<|xr 2 rfl<|xne<|xcf rfl<|xsk<|xet<|xrl<|xr 2 rfl<|xy rfl (vx 59 4 1 rfl)<|xy rfl (ve Xq E.o 0 4 rfl rfl rfl rfl)<|xr 2 rfl ?_;refine ysF 2 E ?_;clear E;intro w16 E;replace E:=E.nm;refine xni<|xeb<|xet<|xrl<|xy rfl (fun a J=>Yc (r := 5) rfl (J.ev rfl) (J.ev rfl) (by decide))<|xr 1 rfl<|xne ?_;intro a J;refine Xp 1 ?_;revert a;refine xsr<|xr 1 rfl<|xne<|xsq ?_;intro a J;replace J := J.know (k := 26) (c := false) rfl (by decide);revert a;refine xcf rfl<|xex<|xtx<|xtx<|xbh<|xet<|xsq<|xsr<|Xw 2 5 E rfl rfl ?_;refine ycB (VN (⟨(n7 : Int), (n8 : Int), (n9 : Int), (n10 : Int), (n11 : Int)⟩ : PtrD) _ (HT.o.below E.o.bel)) func55 E ?_;clear E;intro w17 E;refine xr 1 rfl<|xy rfl (fun a J=>Xk rfl (J.ev rfl) (J.ev rfl))<|xne<|xcs 48 rfl (fun cc3=>?_) fun cc3=>?_;refine xct rfl<|xsr<|xy rfl (vb z5 rfl) ?_;refine yst E 3 ?_;clear E;intro w18 E;replace E:=E.nm;refine xr 1 rfl<|xne<|xre<|xtr ?_;intro a J;refine Zw J results59 (J.resBox rfl (E.o.box 3 rfl) (by kernel_rfl)) (J.res rfl) ?_;refine .inr ⟨fun q hq hqs => ?_, rfl, E.o.bel⟩;have hqh := QR hq hqs (by simpa using cc1); have hqp := YA hq hqh; rw [hqs] at hqp; have hqb := PtrD.ok_all hq hqh;rw [hws] at hqp; simp only [List.cons.injEq, and_true] at hqp; obtain ⟨k0, k1, k2, k3, k4⟩ := hqp;rw [k0] at hg7; have j0 := UK (n := q.aC) (by omega) hg7;rw [k1] at hg8; have j1 := UK (n := q.al) (by omega) hg8;rw [k2] at hg9; have j2 := UK (n := q.am) (by omega) hg9;rw [k3] at hg10; have j3 := UK (n := q.aB) (by omega) hg10;rw [k4] at hg11; have j4 := UK (n := q.aq) (by omega) hg11;have hpq : (⟨(n7 : Int), (n8 : Int), (n9 : Int), (n10 : Int), (n11 : Int)⟩ : PtrD) = q := by rw [j0, j1, j2, j3, j4]
 rw [hpq, hqs] at cc3; simp at cc3;refine xcf rfl<|xsk<|xet<|xsr<|Xw 2 5 E rfl rfl ?_;refine yst E 3 ?_;clear E;intro w19 E;replace E:=E.nm;refine xr 1 rfl<|xne<|xre ?_;intro a J;refine Zw J results59 (J.resBox rfl (E.o.box 3 rfl) (by kernel_rfl)) (J.res rfl) ?_;have hpt : Z4 (⟨(n7 : Int), (n8 : Int), (n9 : Int), (n10 : Int), (n11 : Int)⟩ : PtrD) = s := ZN (by simpa using cc3);have hpo : (⟨(n7 : Int), (n8 : Int), (n9 : Int), (n10 : Int), (n11 : Int)⟩ : PtrD).ok = true := by
     cases ho : (⟨(n7 : Int), (n8 : Int), (n9 : Int), (n10 : Int), (n11 : Int)⟩ : PtrD).ok with
     | true => rfl
     | false =>
       rw [ZbJ ho] at hpt;rw [← hpt] at hws;exact absurd (congrArg List.length hws) (show ¬ (1 : Nat) = 5 by decide)
 exact .inl ⟨_, hpo, hpt, rfl, E.o.bel⟩;refine ⟨_, rfl, ?_⟩; replace E := Bx.mk (E.o.later hb);clear hb;refine xr 5 rfl<|xne<|xsq<|xsr<|xr 2 rfl<|xne<|xct rfl<|xsr<|xy rfl (vb z5 rfl) ?_;refine yst E 3 ?_;clear E;intro w20 E;replace E:=E.nm;refine xr 1 rfl<|xne<|xre<|xtr<|xbr<|xtr<|xtr<|xbr<|xtr ?_;intro a J;refine Zw J results59 (J.resBox rfl (E.o.box 3 rfl) (by kernel_rfl)) (J.res rfl) ?_;refine .inr ⟨fun q hq hqs => ?_, rfl, E.o.bel⟩;have hqh := QR hq hqs (by simpa using cc1); have hqp := YA hq hqh; rw [hqs] at hqp; have hqb := PtrD.ok_all hq hqh;rw [hws] at hqp; simp only [List.cons.injEq, and_true] at hqp; obtain ⟨k0, k1, k2, k3, k4⟩ := hqp;rw [k4, Z6 (by omega)] at hg11; cases hg11;refine ⟨_, rfl, ?_⟩; replace E := Bx.mk (E.o.later hb);clear hb;refine xr 5 rfl<|xne<|xsq<|xsr<|xr 2 rfl<|xne<|xct rfl<|xsr<|xy rfl (vb z5 rfl) ?_;refine yst E 3 ?_;clear E;intro w21 E;replace E:=E.nm;refine xr 1 rfl<|xne<|xre<|xtr<|xbr<|xtr<|xtr<|xbr<|xtr ?_;intro a J;refine Zw J results59 (J.resBox rfl (E.o.box 3 rfl) (by kernel_rfl)) (J.res rfl) ?_;refine .inr ⟨fun q hq hqs => ?_, rfl, E.o.bel⟩;have hqh := QR hq hqs (by simpa using cc1); have hqp := YA hq hqh; rw [hqs] at hqp; have hqb := PtrD.ok_all hq hqh;rw [hws] at hqp; simp only [List.cons.injEq, and_true] at hqp; obtain ⟨k0, k1, k2, k3, k4⟩ := hqp;rw [k3, Z6 (by omega)] at hg10; cases hg10;refine ⟨_, rfl, ?_⟩; replace E := Bx.mk (E.o.later hb);clear hb;refine xr 5 rfl<|xne<|xsq<|xsr<|xr 2 rfl<|xne<|xct rfl<|xsr<|xy rfl (vb z5 rfl) ?_;refine yst E 3 ?_;clear E;intro w22 E;replace E:=E.nm;refine xr 1 rfl<|xne<|xre<|xtr<|xbr<|xtr<|xtr<|xbr<|xtr ?_;intro a J;refine Zw J results59 (J.resBox rfl (E.o.box 3 rfl) (by kernel_rfl)) (J.res rfl) ?_;refine .inr ⟨fun q hq hqs => ?_, rfl, E.o.bel⟩;have hqh := QR hq hqs (by simpa using cc1); have hqp := YA hq hqh; rw [hqs] at hqp; have hqb := PtrD.ok_all hq hqh;rw [hws] at hqp; simp only [List.cons.injEq, and_true] at hqp; obtain ⟨k0, k1, k2, k3, k4⟩ := hqp;rw [k2, Z6 (by omega)] at hg9; cases hg9;refine ⟨_, rfl, ?_⟩; replace E := Bx.mk (E.o.later hb);clear hb;refine xr 5 rfl<|xne<|xsq<|xsr<|xr 2 rfl<|xne<|xct rfl<|xsr<|xy rfl (vb z5 rfl) ?_;refine yst E 3 ?_;clear E;intro w23 E;replace E:=E.nm;refine xr 1 rfl<|xne<|xre<|xtr<|xbr<|xtr<|xtr<|xbr<|xtr ?_;intro a J;refine Zw J results59 (J.resBox rfl (E.o.box 3 rfl) (by kernel_rfl)) (J.res rfl) ?_;refine .inr ⟨fun q hq hqs => ?_, rfl, E.o.bel⟩;have hqh := QR hq hqs (by simpa using cc1); have hqp := YA hq hqh; rw [hqs] at hqp; have hqb := PtrD.ok_all hq hqh;rw [hws] at hqp; simp only [List.cons.injEq, and_true] at hqp; obtain ⟨k0, k1, k2, k3, k4⟩ := hqp;rw [k1, Z6 (by omega)] at hg8; cases hg8;refine ⟨_, rfl, ?_⟩; replace E := Bx.mk (E.o.later hb);clear hb;refine xr 5 rfl<|xne<|xsq<|xsr<|xr 2 rfl<|xne<|xct rfl<|xsr<|xy rfl (vb z5 rfl) ?_;refine yst E 3 ?_;clear E;intro w24 E;replace E:=E.nm;refine xr 1 rfl<|xne<|xre<|xtr<|xbr<|xtr<|xtr<|xbr<|xtr ?_;intro a J;refine Zw J results59 (J.resBox rfl (E.o.box 3 rfl) (by kernel_rfl)) (J.res rfl) ?_;refine .inr ⟨fun q hq hqs => ?_, rfl, E.o.bel⟩;have hqh := QR hq hqs (by simpa using cc1); have hqp := YA hq hqh; rw [hqs] at hqp; have hqb := PtrD.ok_all hq hqh;rw [hws] at hqp; simp only [List.cons.injEq, and_true] at hqp; obtain ⟨k0, k1, k2, k3, k4⟩ := hqp;rw [k0, Z6 (by omega)] at hg7; cases hg7
def ZlZ : ByteArray := ⟨#[44]⟩
def fanB (l : List PtrD) : ByteArray := QO (l.map Z4) ZlZ
theorem ZbQ (c : UInt8) : ∀ (x : List UInt8) (r : List (List UInt8)), (∀ y ∈ x :: r, ∀ b ∈ y, b ≠ c) → splitL c (Go.Lib.join (x :: r) [c]) = x :: r
 | x, [], h => by
  rw [show Go.Lib.join [x] [c] = x by simp [Go.Lib.join, Go.Lib.joinTail]];exact Ji c x (h x (List.mem_cons_self ..))
 | x, y :: r, h => by
  have e : Go.Lib.join (x :: y :: r) [c] = x ++ c :: Go.Lib.join (y :: r) [c] := by simp [Go.Lib.join, Go.Lib.joinTail]
  rw [e, Q4 c _ x (h x (List.mem_cons_self ..)), ZbQ c y r fun z hz => h z (List.mem_cons_of_mem _ hz)]
theorem Zhe {l : List ByteArray} {c : UInt8} (hne : l ≠ []) (h : ∀ y ∈ l, ∀ b ∈ y.data.toList, b ≠ c) : Zd (QO l ⟨#[c]⟩) c = l := by
 match l, hne with
 | x :: r, _ =>
  unfold Zd QO;show (splitL c (Go.Lib.join ((x :: r).map (·.data.toList)) [c])).map _ = _;rw [List.map_cons, ZbQ c _ _ (fun y hy b hb => by
   rcases List.mem_cons.1 hy with rfl | hy
   ·exact h x (List.mem_cons_self ..) b hb
   ·obtain ⟨z, hz, rfl⟩ := List.mem_map.1 hy
    exact h z (List.mem_cons_of_mem _ hz) b hb), ← List.map_cons (f := fun y : ByteArray => y.data.toList)]
  exact ZbD (x :: r)
theorem Znr (c : UInt8) (hc : digitVal c = none) (n : Nat) : ∀ x ∈ (Zy n).data.toList, x ≠ c := by
 intro x hx e;subst e;obtain ⟨d, hd⟩ := Q6 n x (by rw [← Yk]; exact hx);rw [hc] at hd
 cases hd
theorem Zga (c : UInt8) (hc : digitVal c = none) (n : Int) : ∀ x ∈ (ZI n).data.toList, x ≠ c := by
 unfold ZI
 split
 ·exact Znr c hc _
 ·intro x hx; simp at hx
theorem Zl0 (p : PtrD) : ∀ x ∈ (Z4 p).data.toList, x ≠ 44 := by
 cases h : p.ok with
 | false => rw [ZbJ h]; intro x hx; simp at hx
 | true =>
  cases hh : p.hole with
  | true => rw [X8 h hh]; intro x hx; rw [show x = 45 from by simpa using hx]; decide
  | false =>
   rw [UH h hh];intro x hx;have hn := fun n => Zga 44 (by decide) n x
   simp only [ZC, List.mem_append, show Zcp.data.toList = [46] from rfl, List.mem_singleton] at hx;rcases hx with (((((((hx | hx) | hx) | hx) | hx) | hx) | hx) | hx) | hx
   all_goals first | exact hn _ hx | (rw [hx]; decide)
theorem Za0 {l : List PtrD} (hne : l ≠ []) : Zd (fanB l) 44 = l.map Z4 := by
 refine Zhe (by simpa using hne) fun y hy => ?_;obtain ⟨p, _, rfl⟩ := List.mem_map.1 hy;exact Zl0 p
structure IsFan (s : ByteArray) (l : List PtrD) : Prop where
  n : l.length = 4
  ok : ∀ p ∈ l, p.ok = true
  some : l.all (fun p => p.hole) = false
  is : fanB l = s
theorem Zjy {l m : List PtrD} (hl : ∀ p ∈ l, p.ok = true) (hm : ∀ p ∈ m, p.ok = true) (h : l.map Z4 = m.map Z4) : l = m := by
 induction l generalizing m with
 | nil => cases m with
  | nil => rfl
  | cons _ _ => simp at h
 | cons p l ih => cases m with
  | nil => simp at h
  | cons q m =>
   simp only [List.map_cons, List.cons.injEq] at h;rw [ZbP (hl p (List.mem_cons_self ..)) (hm q (List.mem_cons_self ..)) h.1, ih (fun x hx => hl x (List.mem_cons_of_mem _ hx)) (fun x hx => hm x (List.mem_cons_of_mem _ hx)) h.2]
theorem IsFan.one {s : ByteArray} {l m : List PtrD} (h : IsFan s l) (k : IsFan s m) : l = m := by
 refine Zjy h.ok k.ok ?_;rw [← Za0 (l := l) (fun e => by have := h.n; rw [e] at this; cases this), ← Za0 (l := m) (fun e => by have := k.n; rw [e] at this; cases this), h.is, k.is]
theorem IsFan.pieces {s : ByteArray} {l : List PtrD} (h : IsFan s l) : Zd s 44 = l.map Z4 := by
 rw [← h.is];exact Za0 fun e => by have := h.n; rw [e] at this; cases this
open Classical in
noncomputable def Zl1 (s : ByteArray) : Option (List PtrD) := if h : ∃ l, IsFan s l then some h.choose else none
theorem Zhf {s : ByteArray} {l : List PtrD} (h : IsFan s l) : Zl1 s = some l := by
 have he : ∃ l, IsFan s l := ⟨l, h⟩;unfold Zl1;rw [dif_pos he, he.choose_spec.one h]
theorem Zns {s : ByteArray} (h : ∀ l, ¬ IsFan s l) : Zl1 s = none := by
 unfold Zl1;rw [dif_neg fun ⟨l, hl⟩ => h l hl]
def Qk (p : PtrD) (s : ByteArray) : Bool := p.ok && (!p.hole && ((p.am == (s.size : Int)) && (p.aB == UF s)))
def Yt (st : Za) (p : PtrD) : ByteArray := st.ac.getD p.aC.toNat ByteArray.empty
def Zn (st : Za) (p : PtrD) : ByteArray := bif p.hole then ByteArray.empty else bif Qk p (Yt st p) then Yt st p else ByteArray.empty
def XQ (st : Za) (p : PtrD) : Bool := bif p.hole then true else Qk p (Yt st p)
theorem Xd {st : Za} {p : PtrD} (h : p.hole = true) : Zn st p = ByteArray.empty := by unfold Zn; rw [h]; rfl
theorem Za1 {st : Za} {p : PtrD} (h : p.hole = true) : XQ st p = true := by unfold XQ; rw [h]; rfl
theorem JE {st : Za} {p : PtrD} (h : p.hole = false) (hf : Qk p (Yt st p) = true) : Zn st p = Yt st p := by unfold Zn; rw [h, hf]; rfl
theorem Zhg {st : Za} {p : PtrD} (h : p.hole = false) (hf : Qk p (Yt st p) = false) : Zn st p = ByteArray.empty := by unfold Zn; rw [h, hf]; rfl
theorem QS {st : Za} {p : PtrD} (h : p.hole = false) : XQ st p = Qk p (Yt st p) := by unfold XQ; rw [h]; rfl
def YL : List PtrD := [PtrD.zero, PtrD.zero, PtrD.zero, PtrD.zero]
theorem X9 : PtrD.zero.hole = true := rfl
noncomputable def kids (st : Za) (p : PtrD) (level : Int) : Option (List PtrD) :=
 bif p.hole then some YL else bif XQ st p && (p.aq == level) then (Zl1 (Zn st p)).bind fun l => bif l.any (fun k => decide (p.al < k.al)) then none else some l else none
noncomputable def kidsS (st : Za) (p : PtrD) (level : Int) : Option (List PtrD) :=
 bif p.hole then some YL else bif p.ok && ((p.aq == level) && decide (p.al ≤ st.av)) then kids st p level else none
theorem JF {st : Za} {p : PtrD} {n : Int} (h : p.hole = true) : kids st p n = some YL := by unfold kids; rw [h]; rfl
theorem JY {st : Za} {p : PtrD} {n : Int} (h : p.hole = true) : kidsS st p n = some YL := by unfold kidsS; rw [h]; rfl
theorem Zc1 {st : Za} {p : PtrD} {n : Int} (h : p.hole = false) (hr : XQ st p = false) : kids st p n = none := by unfold kids; rw [h, hr]; rfl
theorem ZdP {st : Za} {p : PtrD} {n : Int} (h : p.hole = false) (hr : (p.aq == n) = false) : kids st p n = none := by unfold kids; rw [h, hr, Bool.and_false]; rfl
theorem ZdQ {st : Za} {p : PtrD} {n : Int} (h : p.hole = false) (hf : ∀ l, ¬ IsFan (Zn st p) l) : kids st p n = none := by
 unfold kids;rw [h, Zns hf]
 cases (XQ st p && (p.aq == n)) <;> rfl
theorem Zfj {st : Za} {p : PtrD} {n : Int} {l : List PtrD} (h : p.hole = false) (hf : IsFan (Zn st p) l) (hb : l.any (fun k => decide (p.al < k.al)) = true) : kids st p n = none := by
 unfold kids;rw [h, Zhf hf]
 cases (XQ st p && (p.aq == n))
 ·rfl
 ·simp only [cond_true, cond_false, Option.bind_some, hb]
theorem ZdR {st : Za} {p : PtrD} {n : Int} {l : List PtrD} (h : p.hole = false) (hr : XQ st p = true) (hn : (p.aq == n) = true) (hf : IsFan (Zn st p) l) (hb : l.any (fun k => decide (p.al < k.al)) = false) : kids st p n = some l := by
 unfold kids;rw [h, Zhf hf, hr, hn];simp only [cond_true, cond_false, Option.bind_some, hb, Bool.and_self]
theorem QT {st : Za} {p : PtrD} {n : Int} {l : List PtrD} (h : kids st p n = some l) : l.length = 4 ∧ (∀ k ∈ l, k.ok = true) ∧ (p.hole = true ∧ l = YL ∨ p.hole = false ∧ p.aq = n ∧ XQ st p = true ∧ IsFan (Zn st p) l ∧ ∀ k ∈ l, k.al ≤ p.al) := by
 cases hh : p.hole with
 | true =>
  rw [JF hh] at h;obtain rfl := Option.some.inj h;exact ⟨rfl, fun k hk => by simp only [YL, List.mem_cons, List.not_mem_nil, or_false, or_self] at hk; rw [hk]; rfl, .inl ⟨rfl, rfl⟩⟩
 | false =>
  cases hr : XQ st p with
  | false => rw [Zc1 hh hr] at h; cases h
  | true =>
   cases hn : (p.aq == n) with
   | false => rw [ZdP hh hn] at h; cases h
   | true =>
    by_cases hf : ∃ m, IsFan (Zn st p) m
    ·obtain ⟨m, hm⟩ := hf
     cases hb : m.any (fun k => decide (p.al < k.al)) with
     | true => rw [Zfj hh hm hb] at h; cases h
     | false =>
      rw [ZdR hh hr hn hm hb] at h;obtain rfl := Option.some.inj h;refine ⟨hm.n, hm.ok, .inr ⟨rfl, eq_of_beq hn, rfl, hm, fun k hk => ?_⟩⟩;have := (List.any_eq_false.1 hb) k hk;have := of_decide_eq_false (by simpa using this : decide (p.al < k.al) = false)
      omega
    ·rw [ZdQ hh fun l hl => hf ⟨l, hl⟩] at h; cases h
theorem JZ {st : Za} {p : PtrD} {n : Int} (hp : p.ok = true) (hb : p.al ≤ st.av) : kidsS st p n = kids st p n := by
 unfold kidsS;rw [hp, decide_eq_true hb, Bool.and_true, Bool.true_and]
 cases hh : p.hole with
 | true => rw [JF hh]; rfl
 | false =>
  cases hn : (p.aq == n) with
  | false => rw [ZdP hh hn]; rfl
  | true => rfl
theorem VS {st : Za} {p : PtrD} {n : Int} (h : p.hole = false) (hn : (p.ok && ((p.aq == n) && decide (p.al ≤ st.av))) = false) : kidsS st p n = none := by unfold kidsS; rw [h, hn]; rfl
theorem UL {st : Za} {p : PtrD} {n : Int} {l : List PtrD} (h : kidsS st p n = some l) : kids st p n = some l ∧ (p.hole = false → p.ok = true ∧ p.al ≤ st.av) := by
 cases hh : p.hole with
 | true => rw [JY hh] at h; rw [JF hh]; exact ⟨h, fun e => by cases e⟩
 | false =>
  cases hc : (p.ok && ((p.aq == n) && decide (p.al ≤ st.av))) with
  | false => rw [VS hh hc] at h; cases h
  | true =>
   unfold kidsS at h;rw [hh, hc] at h;simp only [Bool.and_eq_true, decide_eq_true_eq] at hc;exact ⟨h, fun _ => ⟨hc.1, hc.2.2⟩⟩
noncomputable def YU (f : PtrD → Option (List PtrD)) : List PtrD → Option (List PtrD)
 | [] => some []
 | p :: r => (f p).bind fun k => (YU f r).map (k ++ ·)
theorem VT {f : PtrD → Option (List PtrD)} {p : PtrD} {r : List PtrD} (h : f p = none) : YU f (p :: r) = none := by show Option.bind _ _ = _; rw [h]; rfl
theorem Zat {f : PtrD → Option (List PtrD)} {p : PtrD} {r k : List PtrD} (h : f p = some k) : YU f (p :: r) = (YU f r).map (k ++ ·) := by show Option.bind _ _ = _; rw [h]; rfl
theorem Znt {o : Option (List PtrD)} (a b : List PtrD) : (o.map (b ++ ·)).map (a ++ ·) = o.map ((a ++ b) ++ ·) := by cases o <;> simp
theorem Zc2 {f g : PtrD → Option (List PtrD)} : ∀ {l : List PtrD}, (∀ p ∈ l, f p = g p) → YU f l = YU g l
 | [], _ => rfl
 | p :: r, h => by
  show Option.bind _ _ = Option.bind _ _;rw [h p (List.mem_cons_self ..), Zc2 fun q hq => h q (List.mem_cons_of_mem _ hq)]
theorem Zcq {f : PtrD → Option (List PtrD)} : ∀ {l m : List PtrD}, YU f l = some m → (∀ p ∈ l, ∃ k, f p = some k) ∧ (∀ q ∈ m, ∃ p ∈ l, ∃ k, f p = some k ∧ q ∈ k) ∧ (∀ p ∈ l, ∀ k, f p = some k → ∀ q ∈ k, q ∈ m)
 | [], m, h => by
  obtain rfl : [] = m := Option.some.inj h;exact ⟨fun p hp => (nomatch hp), fun p hp => (nomatch hp), fun p hp => (nomatch hp)⟩
 | p :: r, m, h => by
  cases hk : f p with
  | none => rw [VT hk] at h; cases h
  | some k =>
   rw [Zat hk] at h
   cases hn : YU f r with
   | none => rw [hn] at h; cases h
   | some n =>
    rw [hn] at h;obtain rfl : k ++ n = m := Option.some.inj h;obtain ⟨i1, i2, i3⟩ := Zcq hn;refine ⟨fun q hq => ?_, fun q hq => ?_, fun q hq k2 hk2 x hx => ?_⟩
    ·rcases List.mem_cons.1 hq with rfl | hq
     ·exact ⟨k, hk⟩
     ·exact i1 q hq
    ·rcases List.mem_append.1 hq with hq | hq
     ·exact ⟨p, List.mem_cons_self .., k, hk, hq⟩
     ·obtain ⟨y, hy, z, hz, hq⟩ := i2 q hq
      exact ⟨y, List.mem_cons_of_mem _ hy, z, hz, hq⟩
    ·rcases List.mem_cons.1 hq with rfl | hq
     ·rw [hk] at hk2
      obtain rfl := Option.some.inj hk2;exact List.mem_append_left _ hx
     ·exact List.mem_append_right _ (i3 q hq k2 hk2 x hx)
theorem Zfk {f : PtrD → Option (List PtrD)} (hf : ∀ p k, f p = some k → k.length = 4) : ∀ {l m : List PtrD}, YU f l = some m → m.length = 4 * l.length
 | [], m, h => by obtain rfl : [] = m := Option.some.inj h; rfl
 | p :: r, m, h => by
  cases hk : f p with
  | none => rw [VT hk] at h; cases h
  | some k =>
   rw [Zat hk] at h
   cases hn : YU f r with
   | none => rw [hn] at h; cases h
   | some n =>
    rw [hn] at h;obtain rfl : k ++ n = m := Option.some.inj h;have := Zfk hf hn;rw [List.length_append, hf p k hk, List.length_cons]; omega
noncomputable def downL (f : PtrD → Int → Option (List PtrD)) : Nat → List PtrD → Option (List PtrD)
 | 0, l => some l
 | n + 1, l => (YU (fun p => f p ((n + 1 : Nat) : Int)) l).bind (downL f n)
theorem J0 {f : PtrD → Int → Option (List PtrD)} {n : Nat} {l : List PtrD} (h : YU (fun p => f p ((n + 1 : Nat) : Int)) l = none) : downL f (n + 1) l = none := by show Option.bind _ _ = _; rw [h]; rfl
theorem JG {f : PtrD → Int → Option (List PtrD)} {n : Nat} {l m : List PtrD} (h : YU (fun p => f p ((n + 1 : Nat) : Int)) l = some m) : downL f (n + 1) l = downL f n m := by show Option.bind _ _ = _; rw [h]; rfl
theorem Zcr {f : PtrD → Int → Option (List PtrD)} (hf : ∀ p n k, f p n = some k → k.length = 4) : ∀ {n : Nat} {l m : List PtrD}, downL f n l = some m → m.length = 4 ^ n * l.length
 | 0, l, m, h => by obtain rfl : l = m := Option.some.inj h; omega
 | n + 1, l, m, h => by
  cases hn : YU (fun p => f p ((n + 1 : Nat) : Int)) l with
  | none => rw [J0 hn] at h; cases h
  | some x =>
   rw [JG hn] at h;rw [Zcr hf h, Zfk (fun p k => hf p _ k) hn, Nat.pow_succ, Nat.mul_assoc]
def depthN (many : Int) : Nat := if many ≤ 1 then 0 else if many ≤ 4 then 1 else 2
theorem YV (many : Int) : depthN many ≤ 2 := by unfold depthN; split <;> (try split) <;> omega
theorem Za2 {many : Int} (h : many ≤ 16) : many ≤ ((4 ^ depthN many : Nat) : Int) := by
 unfold depthN
 split
 ·simp; omega
 ·split
  ·simp; omega
  ·simp; omega
def Zhh (st : Za) (many : Int) (i : Nat) (p : PtrD) : Bool := bif p.hole then p.aq == 0 else XQ st p && ((p.aq == 0) && decide ((i : Int) < many))
def Jf (st : Za) (many : Int) : Nat → List PtrD → Bool
 | _, [] => true
 | i, p :: r => Zhh st many i p && Jf st many (i + 1) r
def topB (st : Za) (t : Ze) : Bool := inB t.ai 0 16 && ((t.aw == (depthN t.ai : Int)) && (t.af.ok && decide (t.af.al ≤ st.av)))
noncomputable def leavesF (st : Za) (t : Ze) : Option (List PtrD) :=
 bif topB st t then (downL (kids st) (depthN t.ai) [t.af]).bind fun l => bif Jf st t.ai 0 l then some (l.take t.ai.toNat) else none else none
noncomputable def VU (st : Za) (t : Ze) : Bool := (leavesF st t).isSome
theorem VV {st : Za} {t : Ze} (h : topB st t = false) : leavesF st t = none := by unfold leavesF; rw [h]; rfl
theorem ZbR {st : Za} {t : Ze} (h : downL (kids st) (depthN t.ai) [t.af] = none) : leavesF st t = none := by
 unfold leavesF
 cases topB st t
 ·rfl
 ·rw [h]; rfl
theorem Zc3 {st : Za} {t : Ze} {l : List PtrD} (h : downL (kids st) (depthN t.ai) [t.af] = some l) (hb : Jf st t.ai 0 l = false) : leavesF st t = none := by
 unfold leavesF
 cases topB st t
 ·rfl
 ·rw [h]
  simp only [cond_true, cond_false, Option.bind_some, hb]
theorem VW {st : Za} {t : Ze} {l : List PtrD} (h0 : topB st t = true) (h : downL (kids st) (depthN t.ai) [t.af] = some l) (hb : Jf st t.ai 0 l = true) : leavesF st t = some (l.take t.ai.toNat) := by
 unfold leavesF;rw [h0, h];simp only [cond_true, cond_false, Option.bind_some, hb]
theorem VX {st : Za} {p : PtrD} {n : Int} {k : List PtrD} (h : kids st p n = some k) : k.length = 4 := (QT h).1
theorem Za3 {st : Za} {t : Ze} {r : List PtrD} (h : leavesF st t = some r) : ∃ l, topB st t = true ∧ downL (kids st) (depthN t.ai) [t.af] = some l ∧ Jf st t.ai 0 l = true ∧ r = l.take t.ai.toNat ∧ l.length = 4 ^ depthN t.ai ∧ r.length = t.ai.toNat := by
 cases h0 : topB st t with
 | false => rw [VV h0] at h; cases h
 | true =>
  cases h1 : downL (kids st) (depthN t.ai) [t.af] with
  | none => rw [ZbR h1] at h; cases h
  | some l =>
   cases h2 : Jf st t.ai 0 l with
   | false => rw [Zc3 h1 h2] at h; cases h
   | true =>
    rw [VW h0 h1 h2] at h;obtain rfl := Option.some.inj h;have hl : l.length = 4 ^ depthN t.ai := by rw [Zcr (fun p n k => VX) h1]; simp
    refine ⟨l, rfl, rfl, h2, rfl, hl, ?_⟩;unfold topB at h0;rw [Bool.and_eq_true] at h0;have hi := Zs h0.1;have := Za2 hi.2;rw [List.length_take, hl]
    omega
theorem Vh {st : Za} : ∀ {n : Nat} {l : List PtrD}, (∀ p ∈ l, p.ok = true ∧ p.al ≤ st.av) → 0 ≤ st.av → downL (kidsS st) n l = downL (kids st) n l ∧ ∀ m, downL (kids st) n l = some m → ∀ p ∈ m, p.ok = true ∧ p.al ≤ st.av
 | 0, l, h, _ => ⟨rfl, fun m hm p hp => by obtain rfl : l = m := Option.some.inj hm; exact h p hp⟩
 | n + 1, l, h, h0 => by
  have e : YU (fun p => kidsS st p ((n + 1 : Nat) : Int)) l = YU (fun p => kids st p ((n + 1 : Nat) : Int)) l := Zc2 fun p hp => JZ (h p hp).1 (h p hp).2
  cases hn : YU (fun p => kids st p ((n + 1 : Nat) : Int)) l with
  | none => rw [J0 (e.trans hn), J0 hn]; exact ⟨rfl, fun m hm => by cases hm⟩
  | some x =>
   rw [JG (e.trans hn), JG hn];refine Vh (fun q hq => ?_) h0;obtain ⟨p, hp, k, hk, hq⟩ := (Zcq hn).2.1 q hq;obtain ⟨_, ok, hc⟩ := QT hk;refine ⟨ok q hq, ?_⟩;rcases hc with ⟨_, rfl⟩ | ⟨_, _, _, _, hb⟩
   ·simp only [YL, List.mem_cons, List.not_mem_nil, or_false, or_self] at hq
    rw [hq]; exact h0
   ·have := hb q hq; have := (h p hp).2; omega
def ZaJ (st : Za) (many : Int) (i : Nat) (p : PtrD) : Bool := bif p.hole then true else XQ st p && ((p.aq == 0) && (decide (p.al ≤ st.av) && decide ((i : Int) < many)))
def Qa (st : Za) (many : Int) : Nat → List PtrD → Bool
 | _, [] => true
 | i, p :: r => ZaJ st many i p && Qa st many (i + 1) r
theorem ZdS {p : PtrD} (h : p.hole = true) : p.aq = 0 := by rw [YT h]; rfl
theorem ZdT {p : PtrD} (h : p.hole = true) : p.al = 0 := by rw [YT h]; rfl
theorem Zl2 {st : Za} {many : Int} {i : Nat} {p : PtrD} (h : p.al ≤ st.av) : ZaJ st many i p = Zhh st many i p := by
 unfold ZaJ Zhh
 cases hh : p.hole with
 | true => show true = (p.aq == 0); rw [ZdS hh]; rfl
 | false => rw [decide_eq_true h, Bool.true_and]; rfl
theorem ZdU {st : Za} {many : Int} : ∀ {i : Nat} {l : List PtrD}, (∀ p ∈ l, p.al ≤ st.av) → Qa st many i l = Jf st many i l
 | _, [], _ => rfl
 | i, p :: r, h => by
  show (_ && _) = (_ && _);rw [Zl2 (h p (List.mem_cons_self ..)), ZdU fun q hq => h q (List.mem_cons_of_mem _ hq)]
def Za4 (t : Ze) : Bool := inB t.ai 0 16 && ((t.aw == (depthN t.ai : Int)) && t.af.ok)
noncomputable def okS (st : Za) (t : Ze) : Bool := Za4 t && match downL (kidsS st) (depthN t.ai) [t.af] with | none => false | some l => Qa st t.ai 0 l
theorem Zdr {st : Za} {t : Ze} (h : Za4 t = false) : okS st t = false := by unfold okS; rw [h]; rfl
theorem ZdV {st : Za} {t : Ze} (h : downL (kidsS st) (depthN t.ai) [t.af] = none) : okS st t = false := by unfold okS; rw [h, Bool.and_false]
theorem Za5 {st : Za} {t : Ze} {l : List PtrD} (h0 : Za4 t = true) (h : downL (kidsS st) (depthN t.ai) [t.af] = some l) : okS st t = Qa st t.ai 0 l := by unfold okS; rw [h0, h]; rfl
theorem Zl3 {st : Za} {t : Ze} (h0 : 0 ≤ st.av) : okS st t = VU st t := by
 unfold VU
 cases ht : Za4 t with
 | false =>
  rw [Zdr ht, VV (by unfold topB; unfold Za4 at ht; rw [← Bool.and_assoc, ← Bool.and_assoc]; rw [← Bool.and_assoc] at ht; rw [ht]; rfl)]; rfl
 | true =>
  have hok : t.af.ok = true := by unfold Za4 at ht; simp only [Bool.and_eq_true] at ht; exact ht.2.2
  by_cases hb : t.af.al ≤ st.av
  ·have htop : topB st t = true := by unfold topB; unfold Za4 at ht; rw [decide_eq_true hb, Bool.and_true]; exact ht
   obtain ⟨e, hy⟩ := Vh (st := st) (n := depthN t.ai) (l := [t.af]) (fun p hp => by rw [List.mem_singleton.1 hp]; exact ⟨hok, hb⟩) h0
   cases hd : downL (kids st) (depthN t.ai) [t.af] with
   | none => rw [ZdV (e.trans hd), ZbR hd]; rfl
   | some l =>
    rw [Za5 ht (e.trans hd), ZdU fun p hp => (hy l hd p hp).2]
    cases hl : Jf st t.ai 0 l with
    | true => rw [VW htop hd hl]; rfl
    | false => rw [Zc3 hd hl]; rfl
  ·have htop : topB st t = false := by unfold topB; rw [decide_eq_false hb]; simp
   rw [VV htop];have hh : t.af.hole = false := by
    cases hh : t.af.hole with
    | false => rfl
    | true => have := ZdT hh; omega
   cases hd : depthN t.ai with
   | zero =>
    rw [Za5 (l := [t.af]) ht (by rw [hd]; rfl)];show (ZaJ st t.ai 0 t.af && true) = false;unfold ZaJ;rw [hh, decide_eq_false hb]; simp
   | succ n =>
    rw [ZdV (by rw [hd]; exact J0 (VT (VS hh (by rw [decide_eq_false hb]; simp))))]; rfl
noncomputable def allL (st : Za) : Nat → PtrD → List PtrD
 | 0, p => bif p.hole then [] else [p]
 | n + 1, p => bif p.hole then [] else p :: ((kids st p ((n + 1 : Nat) : Int)).getD []).flatMap (allL st n)
theorem ZW {st : Za} {p : PtrD} (h : p.hole = true) : ∀ n, allL st n p = []
 | 0 => by unfold allL; rw [h]; rfl
 | n + 1 => by unfold allL; rw [h]; rfl
theorem QB {st : Za} {p : PtrD} (h : p.hole = false) : allL st 0 p = [p] := by unfold allL; rw [h]; rfl
theorem Y0 {st : Za} {p : PtrD} {n : Nat} {l : List PtrD} (h : p.hole = false) (hk : kids st p ((n + 1 : Nat) : Int) = some l) : allL st (n + 1) p = p :: l.flatMap (allL st n) := by
 show (bif p.hole then [] else p :: ((kids st p ((n + 1 : Nat) : Int)).getD []).flatMap (allL st n)) = _;rw [h, hk]; rfl
def Wf (st : Za) : Nat → PtrD → Prop
 | 0, p => p.ok = true ∧ p.al ≤ st.av ∧ p.aq = 0 ∧ XQ st p = true
 | n + 1, p => p.ok = true ∧ p.al ≤ st.av ∧ ∃ l, kids st p ((n + 1 : Nat) : Int) = some l ∧ ∀ k ∈ l, Wf st n k
theorem Wf.ok {st : Za} : ∀ {n : Nat} {p : PtrD}, Wf st n p → p.ok = true ∧ p.al ≤ st.av
 | 0, _, h => ⟨h.1, h.2.1⟩
 | _ + 1, _, h => ⟨h.1, h.2.1⟩
theorem Wf.level {st : Za} : ∀ {n : Nat} {p : PtrD}, Wf st n p → p.hole = false → p.aq = (n : Int)
 | 0, _, h, _ => h.2.2.1
 | n + 1, p, ⟨_, _, l, hk, _⟩, hh => by
  rcases (QT hk).2.2 with ⟨e, _⟩ | ⟨_, e, _⟩
  ·rw [hh] at e; cases e
  ·exact e
theorem Wf.zero {st : Za} (h0 : 0 ≤ st.av) : ∀ n, Wf st n PtrD.zero
 | 0 => ⟨rfl, h0, rfl, rfl⟩
 | n + 1 => ⟨rfl, h0, YL, JF rfl, fun k hk => by
  simp only [YL, List.mem_cons, List.not_mem_nil, or_false, or_self] at hk;rw [hk]; exact Wf.zero h0 n⟩
theorem Zgb : digitVal 58 = none := by decide
theorem Zjz {s : ByteArray} {n k : Nat} (h : l1S s n k) (h0 : k ≠ 0) (hc : s.data.toList[k]? = some 58) : k < s.size ∧ Qs (s.extract 0 k) = some n := by
 have hz := Zh s;have hk : k < s.data.toList.length := (List.getElem?_eq_some_iff.1 hc).1;refine ⟨by omega, ?_⟩;rcases h with ⟨h1, h2, h3, _, h5⟩ | ⟨rfl, rfl, _, b, d, h4, h6⟩
 ·have hsz : (s.extract 0 k).size = k := by rw [ByteArray.size_extract]; omega
  have hl : (s.extract 0 k).data.toList = s.data.toList.take k := by rw [Yd]; simp
  refine Zjv (k := k) (.inl ⟨h1, by omega, by rw [hl, List.take_take, Nat.min_self]; exact h3, .inl hsz.symm, fun hx => h5 ⟨hx.1, ?_⟩⟩) h0 hsz.symm;rw [hl] at hx
  match hx2 : s.data.toList, hk with
  | a :: r, _ =>
   rw [hx2] at hx
   match k, h0 with
   | k + 1, _ => exact hx.2
 ·rw [hc] at h4
  obtain rfl := Option.some.inj h4;rw [Zgb] at h6; cases h6
theorem Zgc {l : List UInt8} {b : UInt8} (hb : b ∈ l) (hd : digitVal b = none) : ∀ acc, decFrom acc l = none := by
 induction l with
 | nil => cases hb
 | cons c r ih =>
  intro acc;unfold decFrom;rcases List.mem_cons.1 hb with rfl | hb
  ·rw [hd]
  ·cases digitVal c with
   | none => rfl
   | some d => exact ih hb _
theorem Znu {s : ByteArray} {n k m : Nat} {t : List UInt8} (h : l1S s n k) (hm : m ≤ 999999999) (hs : s.data.toList = (Zy m).data.toList ++ 58 :: t) : k = (Zy m).size ∧ n = m ∧ s.data.toList[k]? = some 58 := by
 have hz := Zh s;have hd9 := JU hm;have hdp := ZdC m;have hdz := Zh (Zy m);have hall := Q6 m;rw [← Yk] at hall;have hlen : s.data.toList.length = (Zy m).data.toList.length + (t.length + 1) := by rw [hs, List.length_append, List.length_cons]
 have hcol : s.data.toList[(Zy m).size]? = some 58 := by rw [hs, hdz, List.getElem?_append_right (Nat.le_refl _), Nat.sub_self]; rfl
 have hin : ∀ i, i < (Zy m).size → ∃ b d, s.data.toList[i]? = some b ∧ digitVal b = some d := fun i hi => by
  have hi2 : i < (Zy m).data.toList.length := by omega
  obtain ⟨d, hd⟩ := hall _ (List.getElem_mem hi2);exact ⟨_, d, by rw [hs, List.getElem?_append_left hi2, List.getElem?_eq_getElem hi2], hd⟩
 have hk : k = (Zy m).size := by
  rcases h with ⟨h1, h2, h3, h4, _⟩ | ⟨rfl, rfl, h3, b, d, h4, h6⟩
  ·rcases Nat.lt_trichotomy k (Zy m).size with hlt | he | hgt
   ·obtain ⟨b, d, hb, hd⟩ := hin k hlt
    rcases h4 with h4 | h4 | ⟨c, h4, h6⟩
    ·omega
    ·omega
    ·rw [hb] at h4
     obtain rfl := Option.some.inj h4;rw [hd] at h6; cases h6
   ·exact he
   ·have hmem : (58 : UInt8) ∈ s.data.toList.take k := by
     refine List.mem_of_getElem? (i := (Zy m).size) ?_;rw [List.getElem?_take, if_pos hgt]; exact hcol
    rw [Zgc hmem Zgb] at h3; cases h3
  ·rcases Nat.lt_or_ge m 10 with hlt | hge
   ·have h1 : (Zy m).size = 1 := by rw [hdz, Yk, decDigits_one hlt]; rfl
    rw [h1] at hcol;rw [hcol] at h4;obtain rfl := Option.some.inj h4;rw [Zgb] at h6; cases h6
   ·obtain ⟨e, he, h1, h9⟩ := ZcZ m hge
    rw [← Yk] at he;have : s.data.toList.head? = (Zy m).data.toList.head? := by
     rw [hs]
     match hq : (Zy m).data.toList, hdp, hdz with
     | a :: r, _, _ => rfl
     | [], hp, hq2 => have hz0 : ([] : List UInt8).length = 0 := rfl; omega
    rw [this, he] at h3;have hv := Option.some.inj h3;have : (UInt8.ofNat (48 + e)).toNat = 48 + e := by rw [UInt8.toNat_ofNat']; omega
    rw [hv] at this;have : (48 : UInt8).toNat = 48 := rfl
    omega
 refine ⟨hk, ?_, by rw [hk]; exact hcol⟩;have hnum := Zjz h (by omega) (by rw [hk]; exact hcol);have he : s.extract 0 k = Zy m := Yx (by rw [Yd, hs, hk, hdz]; simp);rw [he, VM hm] at hnum;exact (Option.some.inj hnum.2).symm
theorem Qb {s : ByteArray} (i : Nat) : (s.extract i s.size).data.toList = s.data.toList.drop i := by
 rw [Yd, List.take_of_length_le (by rw [List.length_drop, ← Zh]; exact Nat.le_refl _)]
theorem Zl4 {s : ByteArray} {xs : List ByteArray} {p k n : Nat} (h : Ug s xs (s.extract p s.size)) (hl : l1S (s.extract p s.size) n k) (h0 : k ≠ 0) (hk : p + k < s.size) (hc : s.get! (p + k) = 58) (hn : n ≤ s.size - (p + k + 1)) : Ug s (xs ++ [s.extract (p + k + 1) (p + k + 1 + n)]) (s.extract (p + k + 1 + n) s.size) := by
 have hz := Zh s;have hcol : (s.extract p s.size).data.toList[k]? = some 58 := by rw [Qb, List.getElem?_drop, Q1 hk, hc]
 obtain ⟨hk2, hnum⟩ := Zjz hl h0 hcol;have hcut : (s.extract p s.size).data.toList = ((s.extract p s.size).extract 0 k).data.toList ++ 58 :: (s.extract (p + k + 1) s.size).data.toList := by
  rw [Yd (a := s.extract p s.size), Qb, Qb, List.drop_zero, Nat.sub_zero];have e : (s.data.toList.drop p).drop k = 58 :: s.data.toList.drop (p + k + 1) := by
   rw [List.drop_drop];have hlt : p + k < s.data.toList.length := by omega
   rw [List.drop_eq_getElem_cons hlt];have := Q1 hk;rw [List.getElem?_eq_getElem hlt] at this;rw [Option.some.inj this, hc]
  rw [← e, List.take_append_drop]
 have hsz : (s.extract (p + k + 1) s.size).size = s.size - (p + k + 1) := by rw [ByteArray.size_extract]; omega
 have := h.step hcut hnum (by omega);have e1 : (s.extract (p + k + 1) s.size).extract 0 n = s.extract (p + k + 1) (p + k + 1 + n) := Yx (by
  rw [Yd, Qb, Yd, List.drop_zero]
  congr 1; omega)
 have e2 : (s.extract (p + k + 1) s.size).extract n (s.extract (p + k + 1) s.size).size = s.extract (p + k + 1 + n) s.size := Yx (by
  rw [Qb, Qb, Qb, List.drop_drop])
 rw [e1, e2] at this;exact this
theorem Zgd {s : ByteArray} {xs l : List ByteArray} {p k n : Nat} (h : Ug s xs (s.extract p s.size)) (hl : l1S (s.extract p s.size) n k) (hr : IsRec s l) (hs : s.size ≤ 2048) (hp : p < s.size) : k ≠ 0 ∧ p + k < s.size ∧ s.get! (p + k) = 58 ∧ n ≤ s.size - (p + k + 1) := by
 have hz := Zh s;have hsz : (s.extract p s.size).size = s.size - p := by rw [ByteArray.size_extract]; omega
 have hne : ((s.extract p s.size).toList == (⟨#[]⟩ : ByteArray).toList) = false := by
  cases hq : ((s.extract p s.size).toList == (⟨#[]⟩ : ByteArray).toList) with
  | false => rfl
  | true =>
   have := ZN hq;rw [this] at hsz;have : (⟨#[]⟩ : ByteArray).size = 0 := rfl
   omega
 obtain ⟨y, ws, e1, e2, e3, e4⟩ := h.go hr.is hs hr.many hne;have hy := (XM e3).1;obtain ⟨k1, k2, k3⟩ := Znu hl hy e2;have hp1 := ZdC y.size;have hlen := congrArg List.length e2;rw [List.length_append, List.length_cons, List.length_append, ← Zh, ← Zh, ← Zh, hsz] at hlen;have hkl : p + k < s.size := by omega
 refine ⟨by omega, hkl, ?_, by omega⟩;rw [Qb, List.getElem?_drop, Q1 hkl] at k3;exact Option.some.inj k3
theorem ZbS {s : ByteArray} {xs : List ByteArray} {p : Nat} (h : Ug s xs (s.extract p s.size)) (hp : ¬ p < s.size) : Z3 xs = s := by
 refine h.done ?_;have : s.extract p s.size = (⟨#[]⟩ : ByteArray) := Yx (by rw [Qb, List.drop_eq_nil_of_le (by rw [← Zh]; omega)]);rw [this]; exact beq_self_eq_true _
section
variable {P : Program} {o : Oper} {a : Act} {w : World} {e : TypeId}
theorem ZiB {t : TypeId} {x y z : Operand} (ho : o.op = .slice t x (some y) (some z) none) {g off n cap : Nat} (hx : a.eval x = .slice (some ⟨g, off, none⟩) n cap) {kk kl : IntKind} {m l : Int} (hy : a.eval y = .int kk m) (hz : a.eval z = .int kl l) {size : Nat} (hu : Yv P t = some (e, size)) {k j : Nat} (hm : m = (k : Int)) (hl : l = (j : Int)) (hk : k ≤ j) (hj : j ≤ cap) (hc : k < cap) : Yl P w o a (.slice (some ⟨g, off + k * size, none⟩) (j - k) (cap - k)) := by
 unfold Yv at hu
 split at hu
 ·rename_i e' hu'
  split at hu
  ·rename_i inf hq
   simp only [Option.some.injEq, Prod.mk.injEq] at hu;obtain ⟨_, rfl⟩ := hu;subst hm; subst hl;have h2 : ((k : Int) ≤ (j : Int)) := by omega
   have h4 : ((j : Int) ≤ (cap : Int)) := by omega
   have h3 : ¬ cap = k := by omega
   unfold Yl execOp;simp only [ho, hx, hy, hz, Option.map_some, Option.map_none, Instr.sliceAt, Instr.slice, Sem.run_bind, run_underlying hu' w, Result.andThen_ok];simp [Instr.slice, Instr.sliceBounds, Instr.sliceBound, asIntOf, go_sem, run_underlying hu' w, sizeOf, typeInfo, hq, h2, h3, h4, Addr.add];rw [if_pos hj]
   by_cases hz : k * inf.size = 0
   ·rw [if_pos hz, if_pos hk, hz, Nat.add_zero]
   ·rw [if_neg hz, if_pos hk]
  ·cases hu
 ·cases hu
end
theorem VY {y : ByteArray} {n : Nat} (h : Qs y = some n) : 0 ≤ (n : Int) ∧ (n : Int) ≤ 999999999 ∧ ZI (n : Int) = y := by
 have h1 := XM h;refine ⟨by omega, by omega, ?_⟩;rw [YR (by omega) (by omega), Int.toNat_natCast, h1.2]
structure IsTree (x y z : ByteArray) (t : Ze) : Prop where
  ok : t.af.ok = true
  p : Z4 t.af = x
  d : 0 ≤ t.aw ∧ t.aw ≤ 999999999 ∧ ZI t.aw = y
  m : 0 ≤ t.ai ∧ t.ai ≤ 999999999 ∧ ZI t.ai = z
theorem Jg {m n : Int} {y : ByteArray} (h : 0 ≤ m ∧ m ≤ 999999999 ∧ ZI m = y) (k : 0 ≤ n ∧ n ≤ 999999999 ∧ ZI n = y) : m = n := by
 have h1 := Z6 ⟨h.1, h.2.1⟩;have h2 := Z6 ⟨k.1, k.2.1⟩;rw [h.2.2] at h1;rw [k.2.2, h1] at h2;have := Option.some.inj h2
 omega
theorem IsTree.one {x y z : ByteArray} {t u : Ze} (h : IsTree x y z t) (k : IsTree x y z u) : t = u := by
 have h1 := ZbP h.ok k.ok (h.p.trans k.p.symm);have h2 := Jg h.d k.d;have h3 := Jg h.m k.m
 cases t; cases u
 simp only at h1 h2 h3;rw [h1, h2, h3]
theorem Zcs {y : ByteArray} {n : Int} (h : 0 ≤ n ∧ n ≤ 999999999 ∧ ZI n = y) (hg : Qs y = none) : False := by
 have := Z6 ⟨h.1, h.2.1⟩;rw [h.2.2, hg] at this
 cases this
theorem Zl5 (y : ByteArray) (ys : List ByteArray) : (Z3 (y :: ys)).size = (Zy y.size).size + 1 + y.size + (Z3 ys).size := by
 have h := congrArg List.length (Xr y ys);rw [← Zh, List.length_append, List.length_cons, List.length_append, ← Zh, ← Zh, ← Zh] at h
 omega
theorem Za6 {y : ByteArray} {ys : List ByteArray} {B : Nat} (h : y.size ≤ 100) (hb : (Z3 ys).size ≤ B) : (Z3 (y :: ys)).size ≤ B + 110 := by
 rw [Zl5];have := JU (n := y.size) (by omega)
 omega
theorem ZiC (a0 : Option Addr) (c0 : Nat) (x y z : ByteArray) (w0 : World) (hT : UG w0) (hM : ZbL w0) (hE : ZbN w0) (hx : x.size ≤ 4294967280) (hR : Rd Zu 1 w0 a0 3 [x, y, z]) : Calls prog 35 #[.slice a0 3 c0] w0 fun e w' => (∃ t : Ze, IsTree x y z t ∧ e = .returned (.tuple #[tV t, .bool true]) ∧ Below w0.heap.size w0 w') ∨ (∃ t : Ze, (∀ u, IsTree x y z u → False) ∧ e = .returned (.tuple #[tV t, .bool false]) ∧ Below w0.heap.size w0 w') := by
 have HT := Bx.mk hT; have HM := Bx.mk hM; have HE := Bx.mk hE; clear hT hM hE;obtain ⟨g0, o0, r0⟩ := hR.opn; have R0 := Bx.mk r0; clear r0 hR;have E := Bx.mk (St.start w0);refine ent func35 ntmps35 ?_;refine xsr ?_;refine yal z7 E ?_;clear E;intro w1 b1 E;refine xr 1 rfl<|xne<|xsr<|xr 1 rfl<|xy rfl (vxr 9 0 1 rfl (R0.out.ao 0 (by omega)))<|xy rfl (fun a J=>ylo (v := .string x) rfl (J.ev rfl) (R0.out.elem1 E.o (show ([x, y, z] : List _)[0]? = some _ from rfl) rfl)) ?_;refine yc (ZiA x _ (HT.o.below E.o.bel) (HM.o.below E.o.bel) (HE.o.below E.o.bel) (by omega)) func59 ?_;rintro _ w2 (⟨p2, hpo2, hpt2, rfl, hb⟩ | ⟨hpn2, rfl, hb⟩);refine ⟨_, rfl, ?_⟩; replace E := Bx.mk (E.o.later hb);clear hb;refine xr 3 rfl ?_;refine yal z5 E ?_;clear E;intro w3 b3 E;refine yst E 0 ?_;clear E;intro w4 E;replace E:=E.nm;refine xr 1 rfl<|xne<|xsr<|xr 1 rfl<|xy rfl (vxr 9 1 1 rfl (R0.out.ao 1 (by omega)))<|xy rfl (fun a J=>ylo (v := .string y) rfl (J.ev rfl) (R0.out.elem1 E.o (show ([x, y, z] : List _)[1]? = some _ from rfl) rfl)) ?_;refine yc (ZJ y _ (HT.o.below E.o.bel) (HE.o.below E.o.bel)) func34 ?_;rintro _ w5 (⟨n4, hg4, rfl, hb⟩ | ⟨hg4, rfl, hb⟩);refine ⟨_, rfl, ?_⟩; replace E := Bx.mk (E.o.later hb);clear hb;refine xr 5 rfl<|xne<|xsr<|xr 1 rfl<|xy rfl (vxr 9 2 1 rfl (R0.out.ao 2 (by omega)))<|xy rfl (fun a J=>ylo (v := .string z) rfl (J.ev rfl) (R0.out.elem1 E.o (show ([x, y, z] : List _)[2]? = some _ from rfl) rfl)) ?_;refine yc (ZJ z _ (HT.o.below E.o.bel) (HE.o.below E.o.bel)) func34 ?_;rintro _ w6 (⟨n5, hg5, rfl, hb⟩ | ⟨hg5, rfl, hb⟩);refine ⟨_, rfl, ?_⟩; replace E := Bx.mk (E.o.later hb);clear hb;refine xr 5 rfl<|xne<|xsr<|Xw 0 5 E rfl rfl<|xr 2 rfl<|xy rfl (vb [.int .i64 p2.aC, .int .i64 p2.al, .int .i64 p2.am, .int .i64 p2.aB, .int .i64 p2.aq, .int .i64 (n4 : Int), .int .i64 (n5 : Int)] rfl)<|xr 7 rfl ?_;refine yst E 1 ?_;clear E;intro w7 E;replace E:=E.nm;refine xr 1 rfl<|xne<|xre ?_;intro a J;refine Zw J results35 (J.resBox rfl (E.o.box 1 rfl) (by kernel_rfl)) (J.res rfl) ?_;exact .inl ⟨⟨p2, (n4 : Int), (n5 : Int)⟩, ⟨hpo2, hpt2, VY hg4, VY hg5⟩, rfl, E.o.bel⟩;refine ⟨_, rfl, ?_⟩; replace E := Bx.mk (E.o.later hb);clear hb;refine xr 5 rfl<|xne<|xsr<|Xw 0 5 E rfl rfl<|xr 2 rfl<|xy rfl (vb [.int .i64 p2.aC, .int .i64 p2.al, .int .i64 p2.am, .int .i64 p2.aB, .int .i64 p2.aq, .int .i64 (n4 : Int), .int .i64 0] rfl)<|xr 7 rfl ?_;refine yst E 1 ?_;clear E;intro w8 E;replace E:=E.nm;refine xr 1 rfl<|xne<|xre ?_;intro a J;refine Zw J results35 (J.resBox rfl (E.o.box 1 rfl) (by kernel_rfl)) (J.res rfl) ?_;exact .inr ⟨⟨⟨p2.aC, p2.al, p2.am, p2.aB, p2.aq⟩, (n4 : Int), 0⟩, fun u hu => Zcs hu.m hg5, rfl, E.o.bel⟩;refine ⟨_, rfl, ?_⟩; replace E := Bx.mk (E.o.later hb);clear hb;refine xr 5 rfl<|xne<|xsr<|xr 1 rfl<|xy rfl (vxr 9 2 1 rfl (R0.out.ao 2 (by omega)))<|xy rfl (fun a J=>ylo (v := .string z) rfl (J.ev rfl) (R0.out.elem1 E.o (show ([x, y, z] : List _)[2]? = some _ from rfl) rfl)) ?_;refine yc (ZJ z _ (HT.o.below E.o.bel) (HE.o.below E.o.bel)) func34 ?_;rintro _ w9 (⟨n6, hg6, rfl, hb⟩ | ⟨hg6, rfl, hb⟩);refine ⟨_, rfl, ?_⟩; replace E := Bx.mk (E.o.later hb);clear hb;refine xr 5 rfl<|xne<|xsr<|Xw 0 5 E rfl rfl<|xr 2 rfl<|xy rfl (vb [.int .i64 p2.aC, .int .i64 p2.al, .int .i64 p2.am, .int .i64 p2.aB, .int .i64 p2.aq, .int .i64 0, .int .i64 (n6 : Int)] rfl)<|xr 7 rfl ?_;refine yst E 1 ?_;clear E;intro w10 E;replace E:=E.nm;refine xr 1 rfl<|xne<|xre ?_;intro a J;refine Zw J results35 (J.resBox rfl (E.o.box 1 rfl) (by kernel_rfl)) (J.res rfl) ?_;exact .inr ⟨⟨⟨p2.aC, p2.al, p2.am, p2.aB, p2.aq⟩, 0, (n6 : Int)⟩, fun u hu => Zcs hu.d hg4, rfl, E.o.bel⟩;refine ⟨_, rfl, ?_⟩; replace E := Bx.mk (E.o.later hb);clear hb;refine xr 5 rfl<|xne<|xsr<|Xw 0 5 E rfl rfl<|xr 2 rfl<|xy rfl (vb [.int .i64 p2.aC, .int .i64 p2.al, .int .i64 p2.am, .int .i64 p2.aB, .int .i64 p2.aq, .int .i64 0, .int .i64 0] rfl)<|xr 7 rfl ?_;refine yst E 1 ?_;clear E;intro w11 E;replace E:=E.nm;refine xr 1 rfl<|xne<|xre ?_;intro a J;refine Zw J results35 (J.resBox rfl (E.o.box 1 rfl) (by kernel_rfl)) (J.res rfl) ?_;exact .inr ⟨⟨⟨p2.aC, p2.al, p2.am, p2.aB, p2.aq⟩, 0, 0⟩, fun u hu => Zcs hu.d hg4, rfl, E.o.bel⟩;refine ⟨_, rfl, ?_⟩; replace E := Bx.mk (E.o.later hb);clear hb;refine xr 3 rfl ?_;refine yal z5 E ?_;clear E;intro w12 b7 E;refine yst E 0 ?_;clear E;intro w13 E;replace E:=E.nm;refine xr 1 rfl<|xne<|xsr<|xr 1 rfl<|xy rfl (vxr 9 1 1 rfl (R0.out.ao 1 (by omega)))<|xy rfl (fun a J=>ylo (v := .string y) rfl (J.ev rfl) (R0.out.elem1 E.o (show ([x, y, z] : List _)[1]? = some _ from rfl) rfl)) ?_;refine yc (ZJ y _ (HT.o.below E.o.bel) (HE.o.below E.o.bel)) func34 ?_;rintro _ w14 (⟨n8, hg8, rfl, hb⟩ | ⟨hg8, rfl, hb⟩);refine ⟨_, rfl, ?_⟩; replace E := Bx.mk (E.o.later hb);clear hb;refine xr 5 rfl<|xne<|xsr<|xr 1 rfl<|xy rfl (vxr 9 2 1 rfl (R0.out.ao 2 (by omega)))<|xy rfl (fun a J=>ylo (v := .string z) rfl (J.ev rfl) (R0.out.elem1 E.o (show ([x, y, z] : List _)[2]? = some _ from rfl) rfl)) ?_;refine yc (ZJ z _ (HT.o.below E.o.bel) (HE.o.below E.o.bel)) func34 ?_;rintro _ w15 (⟨n9, hg9, rfl, hb⟩ | ⟨hg9, rfl, hb⟩);refine ⟨_, rfl, ?_⟩; replace E := Bx.mk (E.o.later hb);clear hb;refine xr 5 rfl<|xne<|xsr<|Xw 0 5 E rfl rfl<|xr 2 rfl<|xy rfl (vb [.int .i64 0, .int .i64 0, .int .i64 0, .int .i64 0, .int .i64 0, .int .i64 (n8 : Int), .int .i64 (n9 : Int)] rfl)<|xr 7 rfl ?_;refine yst E 1 ?_;clear E;intro w16 E;replace E:=E.nm;refine xr 1 rfl<|xne<|xre ?_;intro a J;refine Zw J results35 (J.resBox rfl (E.o.box 1 rfl) (by kernel_rfl)) (J.res rfl) ?_;exact .inr ⟨⟨⟨0, 0, 0, 0, 0⟩, (n8 : Int), (n9 : Int)⟩, fun u hu => hpn2 u.af hu.ok hu.p, rfl, E.o.bel⟩;refine ⟨_, rfl, ?_⟩; replace E := Bx.mk (E.o.later hb);clear hb;refine xr 5 rfl<|xne<|xsr<|Xw 0 5 E rfl rfl<|xr 2 rfl<|xy rfl (vb [.int .i64 0, .int .i64 0, .int .i64 0, .int .i64 0, .int .i64 0, .int .i64 (n8 : Int), .int .i64 0] rfl)<|xr 7 rfl ?_;refine yst E 1 ?_;clear E;intro w17 E;replace E:=E.nm;refine xr 1 rfl<|xne<|xre ?_;intro a J;refine Zw J results35 (J.resBox rfl (E.o.box 1 rfl) (by kernel_rfl)) (J.res rfl) ?_;exact .inr ⟨⟨⟨0, 0, 0, 0, 0⟩, (n8 : Int), 0⟩, fun u hu => hpn2 u.af hu.ok hu.p, rfl, E.o.bel⟩;refine ⟨_, rfl, ?_⟩; replace E := Bx.mk (E.o.later hb);clear hb;refine xr 5 rfl<|xne<|xsr<|xr 1 rfl<|xy rfl (vxr 9 2 1 rfl (R0.out.ao 2 (by omega)))<|xy rfl (fun a J=>ylo (v := .string z) rfl (J.ev rfl) (R0.out.elem1 E.o (show ([x, y, z] : List _)[2]? = some _ from rfl) rfl)) ?_;refine yc (ZJ z _ (HT.o.below E.o.bel) (HE.o.below E.o.bel)) func34 ?_;rintro _ w18 (⟨n10, hg10, rfl, hb⟩ | ⟨hg10, rfl, hb⟩);refine ⟨_, rfl, ?_⟩; replace E := Bx.mk (E.o.later hb);clear hb;refine xr 5 rfl<|xne<|xsr<|Xw 0 5 E rfl rfl<|xr 2 rfl<|xy rfl (vb [.int .i64 0, .int .i64 0, .int .i64 0, .int .i64 0, .int .i64 0, .int .i64 0, .int .i64 (n10 : Int)] rfl)<|xr 7 rfl ?_;refine yst E 1 ?_;clear E;intro w19 E;replace E:=E.nm;refine xr 1 rfl<|xne<|xre ?_;intro a J;refine Zw J results35 (J.resBox rfl (E.o.box 1 rfl) (by kernel_rfl)) (J.res rfl) ?_;exact .inr ⟨⟨⟨0, 0, 0, 0, 0⟩, 0, (n10 : Int)⟩, fun u hu => hpn2 u.af hu.ok hu.p, rfl, E.o.bel⟩;refine ⟨_, rfl, ?_⟩; replace E := Bx.mk (E.o.later hb);clear hb;refine xr 5 rfl<|xne<|xsr<|Xw 0 5 E rfl rfl<|xr 2 rfl<|xy rfl (vb z7 rfl)<|xr 7 rfl ?_;refine yst E 1 ?_;clear E;intro w20 E;replace E:=E.nm;refine xr 1 rfl<|xne<|xre ?_;intro a J;refine Zw J results35 (J.resBox rfl (E.o.box 1 rfl) (by kernel_rfl)) (J.res rfl) ?_;exact .inr ⟨⟨⟨0, 0, 0, 0, 0⟩, 0, 0⟩, fun u hu => hpn2 u.af hu.ok hu.p, rfl, E.o.bel⟩
structure Zb where
  aj : Int
  ax : Int
  am : Int
  ah : Ze
abbrev nPL (k l s : Int) (t : Ze) : List Value := [.int .i64 k, .int .i64 l, .int .i64 s, .int .i64 t.af.aC, .int .i64 t.af.al, .int .i64 t.af.am, .int .i64 t.af.aB, .int .i64 t.af.aq, .int .i64 t.aw, .int .i64 t.ai]
abbrev nPV (k l s : Int) (t : Ze) : Value := .agg #[.int .i64 k, .int .i64 l, .int .i64 s, .int .i64 t.af.aC, .int .i64 t.af.al, .int .i64 t.af.am, .int .i64 t.af.aB, .int .i64 t.af.aq, .int .i64 t.aw, .int .i64 t.ai]
abbrev nL (n : Zb) : List Value := [.int .i64 n.aj, .int .i64 n.ax, .int .i64 n.am, .int .i64 n.ah.af.aC, .int .i64 n.ah.af.al, .int .i64 n.ah.af.am, .int .i64 n.ah.af.aB, .int .i64 n.ah.af.aq, .int .i64 n.ah.aw, .int .i64 n.ah.ai]
abbrev nV (n : Zb) : Value := .agg #[.int .i64 n.aj, .int .i64 n.ax, .int .i64 n.am, .int .i64 n.ah.af.aC, .int .i64 n.ah.af.al, .int .i64 n.ah.af.am, .int .i64 n.ah.af.aB, .int .i64 n.ah.af.aq, .int .i64 n.ah.aw, .int .i64 n.ah.ai]
def Yg (kind : Int) : Int := if kind = 1 then 12 else if kind = 2 then 128 else 0
theorem ZiD : Yg 1 = 12 := rfl
theorem ZbT : Yg 2 = 128 := rfl
theorem Za7 {k : Int} (h1 : k ≠ 1) (h2 : k ≠ 2) : Yg k = 0 := by unfold Yg; rw [if_neg h1, if_neg h2]
def Z7 (kind size : Int) : Int := if Yg kind = 0 ∨ ¬ (0 ≤ size ∧ size ≤ 16 * Yg kind) then -1 else (size + Yg kind - 1) / Yg kind
theorem Za8 {k s : Int} (h : Yg k = 0) : Z7 k s = -1 := if_pos (.inl h)
theorem Un {k s : Int} (h : ¬ (0 ≤ s ∧ s ≤ 16 * Yg k)) : Z7 k s = -1 := if_pos (.inr h)
theorem J1 {k s : Int} (h : Yg k ≠ 0) (h1 : 0 ≤ s) (h2 : s ≤ 16 * Yg k) : Z7 k s = (s + Yg k - 1) / Yg k := if_neg fun e => e.elim h fun e => e ⟨h1, h2⟩
structure Za9 (n : Zb) : Prop where
  many : 0 ≤ Z7 n.aj n.am
  links : 1 ≤ n.ax ∧ n.ax ≤ if n.aj = 2 then 1 else 9
  tmany : n.ah.ai = Z7 n.aj n.am
  depth : n.ah.aw = ((depthN (Z7 n.aj n.am) : Nat) : Int)
  root : n.ah.af.ok = true
  level : n.ah.af.hole = true ∨ n.ah.af.aq = n.ah.aw
instance (n : Zb) : Decidable (Za9 n) := decidable_of_iff (0 ≤ Z7 n.aj n.am ∧ (1 ≤ n.ax ∧ n.ax ≤ if n.aj = 2 then 1 else 9) ∧ n.ah.ai = Z7 n.aj n.am ∧ n.ah.aw = ((depthN (Z7 n.aj n.am) : Nat) : Int) ∧ n.ah.af.ok = true ∧ (n.ah.af.hole = true ∨ n.ah.af.aq = n.ah.aw)) ⟨fun ⟨a, b, c, d, e, f⟩ => ⟨a, b, c, d, e, f⟩, fun ⟨a, b, c, d, e, f⟩ => ⟨a, b, c, d, e, f⟩⟩
def Zb.ok (n : Zb) : Bool := decide (Za9 n)
theorem Zb.ok_yes {n : Zb} (h : Za9 n) : n.ok = true := decide_eq_true h
theorem Zb.ok_no {n : Zb} (h : ¬ Za9 n) : n.ok = false := decide_eq_false h
theorem Zb.ok_is {n : Zb} (h : n.ok = true) : Za9 n := of_decide_eq_true h
structure Zoq (n : Zb) : Prop where
  kind : n.aj = 1 ∨ n.aj = 2
  links : 1 ≤ n.ax ∧ n.ax ≤ 9
  size : 0 ≤ n.am ∧ n.am ≤ 16 * Yg n.aj
  is : Z7 n.aj n.am = (n.am + Yg n.aj - 1) / Yg n.aj
  many : 0 ≤ n.ah.ai ∧ n.ah.ai ≤ 16
  depth : 0 ≤ n.ah.aw ∧ n.ah.aw ≤ 2
theorem Za9.small {n : Zb} (h : Za9 n) : Zoq n := by
 have hk : n.aj = 1 ∨ n.aj = 2 := by
  by_cases h1 : n.aj = 1
  ·exact .inl h1
  ·by_cases h2 : n.aj = 2
   ·exact .inr h2
   ·have := h.many
    rw [Za8 (Za7 h1 h2)] at this
    omega
 have he : 12 ≤ Yg n.aj ∧ Yg n.aj ≤ 128 := by rcases hk with e | e <;> rw [e] <;> decide
 have hs : 0 ≤ n.am ∧ n.am ≤ 16 * Yg n.aj := by
  by_cases hs : 0 ≤ n.am ∧ n.am ≤ 16 * Yg n.aj
  ·exact hs
  ·have := h.many
   rw [Un hs] at this
   omega
 have hp := J1 (k := n.aj) (by omega) hs.1 hs.2;have hl := h.links;have hm : Z7 n.aj n.am ≤ 16 := by
  rw [hp];have : (n.am + Yg n.aj - 1) / Yg n.aj < 17 := Int.ediv_lt_of_lt_mul (by omega) (by omega)
  omega
 have hd := YV (Z7 n.aj n.am);have h1 := h.many;have h2 := h.tmany;have h3 := h.depth;refine ⟨hk, ⟨hl.1, ?_⟩, hs, hp, by omega, by omega⟩;have := hl.2
 split at this <;> omega
def Zl6 : ByteArray := ⟨#[101, 110, 100]⟩
def Xs (n : Zb) : List ByteArray := [ZI n.aj, ZI n.ax, ZI n.am, Z4 n.ah.af, ZI n.ah.aw, ZI n.ah.ai, Zl6]
def ZY (n : Zb) : ByteArray := bif n.ok then (Ym (Xs n)).1 else ByteArray.empty
theorem QU {n : Zb} (h : n.ok = false) : ZY n = ByteArray.empty := by unfold ZY; rw [h]; rfl
theorem Zct {n : Zb} (h : n.ok = true) : ZY n = (Ym (Xs n)).1 := by unfold ZY; rw [h]; rfl
theorem Zhi (n : Zb) : (Z3 (Xs n)).size ≤ 1000 := by
 refine Nat.le_trans (Za6 (Nat.le_trans (Yr _) (by decide)) (Za6 (Nat.le_trans (Yr _) (by decide)) (Za6 (Nat.le_trans (Yr _) (by decide)) (Za6 (Nat.le_trans (ZbK _) (by decide)) (Za6 (Nat.le_trans (Yr _) (by decide)) (Za6 (Nat.le_trans (Yr _) (by decide)) (Za6 (y := Zl6) (by decide) (Nat.le_refl (Z3 []).size)))))))) ?_;have h0 : (Z3 []).size = 0 := rfl
 omega
theorem YM {n : Zb} (h : n.ok = true) : IsRec (ZY n) (Xs n) := by
 rw [Zct h, YZ (by simp only [Xs, List.length_cons, List.length_nil]; omega) (Nat.le_trans (Zhi n) (by decide))];exact ⟨rfl, by simp only [Xs, List.length_cons, List.length_nil]; omega⟩
theorem YB (n : Zb) : (ZY n).size ≤ 1000 := by
 cases h : n.ok with
 | false => rw [QU h]; exact Nat.zero_le _
 | true => rw [← (YM h).is]; exact Zhi n
theorem Zcu {m n : Zb} (hm : m.ok = true) (hn : n.ok = true) (h : ZY m = ZY n) : m = n := by
 have h1 := YM hm;have h2 := YM hn;rw [h] at h1;have e := h1.one h2;simp only [Xs, List.cons.injEq, and_true] at e;obtain ⟨e1, e2, e3, e4, e5, e6⟩ := e;have a := (Zb.ok_is hm);have b := (Zb.ok_is hn);have sa := a.small;have sb := b.small;have ea : Yg m.aj ≤ 128 := by rcases sa.kind with e | e <;> rw [e] <;> decide
 have eb : Yg n.aj ≤ 128 := by rcases sb.kind with e | e <;> rw [e] <;> decide
 have k1 := sa.links; have k2 := sa.size; have k3 := sa.many; have k4 := sa.depth; have k5 := sa.kind;have l1 := sb.links; have l2 := sb.size; have l3 := sb.many; have l4 := sb.depth; have l5 := sb.kind;have j1 : m.aj = n.aj := Jg (y := ZI n.aj) ⟨by omega, by omega, e1⟩ ⟨by omega, by omega, rfl⟩;have j2 : m.ax = n.ax := Jg (y := ZI n.ax) ⟨by omega, by omega, e2⟩ ⟨by omega, by omega, rfl⟩;have j3 : m.am = n.am := Jg (y := ZI n.am) ⟨by omega, by omega, e3⟩ ⟨by omega, by omega, rfl⟩;have j4 := ZbP a.root b.root e4;have j5 : m.ah.aw = n.ah.aw := Jg (y := ZI n.ah.aw) ⟨by omega, by omega, e5⟩ ⟨by omega, by omega, rfl⟩;have j6 : m.ah.ai = n.ah.ai := Jg (y := ZI n.ah.ai) ⟨by omega, by omega, e6⟩ ⟨by omega, by omega, rfl⟩;obtain ⟨_, _, _, ⟨_, _, _⟩⟩ := m;obtain ⟨_, _, _, ⟨_, _, _⟩⟩ := n;simp only at j1 j2 j3 j4 j5 j6;rw [j1, j2, j3, j4, j5, j6]
open Classical in
noncomputable def J2 (s : ByteArray) : Option Zb := if h : ∃ n : Zb, n.ok = true ∧ ZY n = s then some h.choose else none
theorem Zau {s : ByteArray} {n : Zb} (hn : n.ok = true) (h : ZY n = s) : J2 s = some n := by
 have he : ∃ n : Zb, n.ok = true ∧ ZY n = s := ⟨n, hn, h⟩;unfold J2;rw [dif_pos he];have hc := he.choose_spec;rw [Zcu hc.1 hn (hc.2.trans h.symm)]
theorem Zhj {s : ByteArray} (h : ∀ n : Zb, n.ok = true → ZY n = s → False) : J2 s = none := by
 unfold J2;rw [dif_neg fun ⟨n, hn, hs⟩ => h n hn hs]
theorem ZdW {s : ByteArray} {n : Zb} (h : J2 s = some n) : n.ok = true ∧ ZY n = s := by
 unfold J2 at h
 split at h
 ·next he => rw [← Option.some.inj h]; exact he.choose_spec
 ·cases h
theorem Xt {n : Zb} (h : n.ok = true) : Zoq n ∧ Qs (ZI n.aj) = some n.aj.toNat ∧ Qs (ZI n.ax) = some n.ax.toNat ∧ Qs (ZI n.am) = some n.am.toNat ∧ Qs (ZI n.ah.aw) = some n.ah.aw.toNat ∧ Qs (ZI n.ah.ai) = some n.ah.ai.toNat := by
 have sa := (Zb.ok_is h).small;have ea : Yg n.aj ≤ 128 := by rcases sa.kind with e | e <;> rw [e] <;> decide
 have k1 := sa.links; have k2 := sa.size; have k3 := sa.many; have k4 := sa.depth; have k5 := sa.kind;exact ⟨sa, Z6 (by omega), Z6 (by omega), Z6 (by omega), Z6 (by omega), Z6 (by omega)⟩
def Zq.give (s : Zq) (a : Nat) : Zq := { ag := s.ag.set a (s.ag.getD a 0 - 1), au := if s.ag.getD a 0 - 1 = 0 then s.au.set a 0 else s.au }
theorem Zq.give_refs (s : Zq) (a : Nat) : (s.give a).ag.length = s.ag.length := by simp [Zq.give]
theorem Zq.give_last (s : Zq) (a : Nat) : (s.give a).au.length = s.au.length := by unfold Zq.give; dsimp only; split <;> simp
def Yu (rows : List ByteArray) (s : Zq) (a : Nat) : List ByteArray := if s.ag.getD a 0 - 1 = 0 then rows.set a ByteArray.empty else rows
theorem XF (rows : List ByteArray) (s : Zq) (a : Nat) : (Yu rows s a).length = rows.length := by unfold Yu; split <;> simp
def UA (x : List ByteArray × Zq) (p : PtrD) : List ByteArray × Zq := (Yu x.1 x.2 p.aC.toNat, x.2.give p.aC.toNat)
def Yw (x : List ByteArray × Zq) (ps : List PtrD) : List ByteArray × Zq := ps.foldl UA x
theorem Zge (x : List ByteArray × Zq) (ps : List PtrD) (p : PtrD) : Yw x (ps ++ [p]) = UA (Yw x ps) p := by simp [Yw, List.foldl_append]
theorem Zhk (x : List ByteArray × Zq) (ps : List PtrD) : (Yw x ps).1.length = x.1.length ∧ (Yw x ps).2.ag.length = x.2.ag.length ∧ (Yw x ps).2.au.length = x.2.au.length := by
 unfold Yw
 induction ps generalizing x with
 | nil => exact ⟨rfl, rfl, rfl⟩
 | cons p r ih =>
  obtain ⟨h1, h2, h3⟩ := ih (UA x p);exact ⟨h1.trans (XF _ _ _), h2.trans (Zq.give_refs _ _), h3.trans (Zq.give_last _ _)⟩
theorem Zkj (s : Zq) (a i : Nat) (hi : i < s.ag.length) : (s.give a).ag.getD i 0 = s.ag.getD i 0 - if a = i then 1 else 0 := by
 unfold Zq.give;simp only [List.getD, List.getElem?_set]
 by_cases h : a = i
 ·subst h
  simp [hi]
 ·simp [h]
theorem Zgf (x : List ByteArray × Zq) (ps : List PtrD) (hp : ∀ p ∈ ps, 0 ≤ p.aC) (i : Nat) (hi : i < x.2.ag.length) : (Yw x ps).2.ag.getD i 0 = x.2.ag.getD i 0 - (cnt ps i : Int) := by
 unfold Yw
 induction ps generalizing x with
 | nil => simp [cnt]
 | cons p r ih =>
  have h1 := ih (UA x p) (fun q hq => hp q (List.mem_cons_of_mem _ hq)) (by rw [show (UA x p).2.ag.length = x.2.ag.length from Zq.give_refs _ _]; exact hi);rw [List.foldl_cons, h1, show (UA x p).2 = x.2.give p.aC.toNat from rfl, Zkj _ _ _ hi];have h2 : cnt (p :: r) i = (if p.aC = (i : Int) then 1 else 0) + cnt r i := by
   have := Zj [p] r i;rw [List.singleton_append] at this;rw [this]
   congr 1
   by_cases h : p.aC = (i : Int) <;> simp [cnt, h]
  have h0 := hp p List.mem_cons_self;rw [h2]
  by_cases h : p.aC = (i : Int)
  ·rw [if_pos h, if_pos (by omega)]; push_cast; omega
  ·rw [if_neg h, if_neg (by omega)]; push_cast; omega
def Za.nextOf (st : Za) : Za := { ac := (Yw (st.ac, st.aa) st.ak).1, aa := (Yw (st.ac, st.aa) st.ak).2, av := st.av + 1, ak := [], az := st.az, ar := st.ar, aA := st.aA }
end Go.Proofs.YtfhdmfcfcgbgeaaGreatDoor
