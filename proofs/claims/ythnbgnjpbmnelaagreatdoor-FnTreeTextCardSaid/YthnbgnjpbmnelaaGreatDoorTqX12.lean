/- A part of the proof in YthnbgnjpbmnelaaGreatDoorTqX34. -/
import Derived.Lib.AppendIntMem
import Derived.Test.YthnbgnjpbmnelaaGreatDoorTqX11
namespace Go.Proofs.YthnbgnjpbmnelaaGreatDoor
open Go.Proofs.Tryz
open List (length_append length_cons length_map map_cons mem_cons mem_cons_of_mem mem_cons_self)
set_option linter.unusedVariables false
set_option linter.unusedSimpArgs false
set_option maxHeartbeats 1000000
set_option maxRecDepth 100000
open Go.RowKit
def ZaE (w : World) : Prop := Go.Lib.TabIs prog w "internal/strconv.uint64pow10" .u64 Go.Lib.pow10Tab
theorem ZjW {P : Program} {w w' : World} {n : String} {cs : Array Value} (h : w.var? P n = some cs) (hb : Below w.heap.size w w') : w'.var? P n = some cs := by
 unfold World.var? at h ⊢
 cases hg : P.globalNamed n with
 | none => rw [hg] at h; exact h
 | some g =>
  rw [hg] at h;simp only [Option.bind_some] at h ⊢;have hlt : g < w.heap.size := by
   rcases Nat.lt_or_ge g w.heap.size with h' | h'
   ·exact h'
   ·simp [Array.getElem?_eq_none h'] at h
  rw [hb.block g hlt]; exact h
theorem ZaE.below {w w' : World} (h : ZaE w) (hb : Below w.heap.size w w') : ZaE w' := ZjW h hb
theorem ZgR (n : Nat) (hn : n ≤ 9223372036854775807) (w : World) (hT : ZaE w) : Calls prog 93 #[.int .i64 (n : Int)] w fun e w' => e = .returned (.string (Zw n)) ∧ Below w.heap.size w w' := by
 refine (Any.strconv_Itoa Zne (n : Int) (by omega) (by omega) w hT).mono ?_;rintro e w' ⟨rfl, k, os, rfl⟩;refine ⟨?_, Go.Lib.below_grow _ _ (Nat.le_refl _) _ _⟩;rw [Go.Lib.itoa, if_neg (by omega), Int.toNat_natCast]; rfl
def Zpg (b : Nat) (l : List UInt8) (w : World) (f : List Nat) : Prop :=
 ∃ p v, (p = Value.pointer none ∨ p = .pointer (some ⟨b, 0, none⟩)) ∧ w.heap[b]? = some (.cells #[p, v] 180 (0, 0)) ∧ w.ownsRowF 0 5 1 v l.length (Go.Lib.byteCells l) ∧ f = b :: v.ownBlock.toList ∧ v.ownBlock ≠ some b
def bldA (b : Nat) (l : List UInt8) : Asr := ⟨Zpg b l, by
 rintro w w' f _ hb ⟨p, v, hp, hh, ⟨h1, h2⟩, rfl, hne⟩;refine ⟨p, v, hp, (hb b (mem_cons_self ..)).trans hh, ⟨h1, ?_⟩, rfl, hne⟩;rcases h2 with h2 | ⟨g, cap, cur, fz, rfl, h0, hg, rest⟩
 ·exact .inl h2
 ·exact .inr ⟨g, cap, cur, fz, rfl, h0, (hb g (mem_cons_of_mem _ (by simp [Value.ownBlock]))).trans hg, rest⟩⟩
theorem St.bldNew {W w : World} {b : Nat} {F : List Asr} (h : St W (boxA b 2 180 (.agg #[.pointer none, .slice none 0 0]) :: F) w) : St W (bldA b [] :: F) w := by
 refine h.imp fun f hf _ _ => ?_;obtain ⟨rfl, cs, hc, _, _, hh⟩ := hf
 injection hc with hc
 rw [← hc] at hh;exact ⟨_, _, .inl rfl, hh, World.ownsRowF_nil w 0 _ 1, rfl, by simp [Value.ownBlock]⟩
theorem St.bldOf {W w : World} {b : Nat} {l : List UInt8} {F : List Asr} (h : St W (bldA b l :: F) w) : Go.Lib.IsBuilderF 180 5 W.heap.size b (Go.Lib.byteCells l) w := by
 obtain ⟨f, ⟨p, v, hp, hh, ⟨h1, h2⟩, rfl, hne⟩, _, hb⟩ := h.first
 have hA : Go.Lib.BuilderAtF 180 5 W.heap.size b p (Go.Lib.byteCells l) w := by
  refine ⟨(hb b (mem_cons_self ..)).1, v, hh, ⟨?_, ?_⟩, hne⟩
  ·rw [Nat.mul_one]
  ·rw [Go.Lib.byteCells_length]
   rcases h2 with h2 | ⟨g, cap, cur, fz, rfl, _, rest⟩
   ·exact .inl h2
   ·exact .inr ⟨g, cap, cur, fz, rfl, (hb g (mem_cons_of_mem _ (by simp [Value.ownBlock]))).1, rest⟩
 rcases hp with rfl | rfl
 ·exact .inl hA
 ·exact .inr hA
theorem St.bldMk {W w : World} {b : Nat} {l : List UInt8} (hw : Below W.heap.size W w) (h : Go.Lib.IsBuilderF 180 5 W.heap.size b (Go.Lib.byteCells l) w) : St W [bldA b l] w := by
 obtain ⟨p, hp, hB, v, hh, ⟨h1, h2⟩, hne⟩ : ∃ p, (p = Value.pointer none ∨ p = .pointer (some ⟨b, 0, none⟩)) ∧ Go.Lib.BuilderAtF 180 5 W.heap.size b p (Go.Lib.byteCells l) w := by
  rcases h with h | h
  ·exact ⟨_, .inl rfl, h⟩
  ·exact ⟨_, .inr rfl, h⟩
 rw [Go.Lib.byteCells_length] at h1 h2;have hlt : b < w.heap.size := by
  rcases Nat.lt_or_ge b w.heap.size with h' | h'
  ·exact h'
  ·simp [Array.getElem?_eq_none h'] at hh
 refine ⟨hw, b :: v.ownBlock.toList, ⟨b :: v.ownBlock.toList, [], by simp, ⟨p, v, hp, hh, ⟨by rw [Go.Lib.byteCells_length]; exact h1, ?_⟩, rfl, hne⟩, rfl⟩, ?_, ?_⟩
 ·rcases h2 with h2 | ⟨g, cap, cur, fz, hv, _, rest⟩
  ·exact .inl h2
  ·exact .inr ⟨g, cap, cur, fz, hv, Nat.zero_le _, rest⟩
 ·cases hv : v.ownBlock with
  | none => simp
  | some g => rw [hv] at hne; simp; exact fun e => hne (by rw [e])
 ·intro k hk
  rcases mem_cons.1 hk with rfl | hk
  ·exact ⟨hB, hlt⟩
  ·rcases h2 with ⟨rfl, _⟩ | ⟨g, cap, cur, fz, rfl, hg0, hg, _⟩
   ·simp [Value.ownBlock] at hk
   ·simp [Value.ownBlock] at hk
    subst hk;exact ⟨hg0, by
     rcases Nat.lt_or_ge k w.heap.size with h' | h'
     ·exact h'
     ·simp [Array.getElem?_eq_none h'] at hg⟩
theorem Zdr (w0 w : World) (b : Nat) (l : List UInt8) (s : ByteArray) (hl : l.length + s.size ≤ 140737488355328) (hS : St w0 [bldA b l] w) : Calls prog 151 #[.pointer (some ⟨b, 0, none⟩), .string s] w fun e w' => e = .returned (.tuple #[.int .i64 s.size, .nilIface]) ∧ St w0 [bldA b (l ++ s.data.toList)] w' := by
 refine (Any.Builder_WriteString_f Zo4 Zjd w0.heap.size b _ s w hS.bldOf (by rw [Go.Lib.byteCells_length]; exact hl) hS.bel.size).mono ?_;rintro e w' ⟨rfl, h1, h2⟩;refine ⟨rfl, St.bldMk (hS.bel.trans h2) (.inr ?_)⟩;rw [Go.Lib.byteCells_append, ← Go.Lib.strCells_eq]; exact h1
theorem Zig (w0 w : World) (b : Nat) (l : List UInt8) (c : UInt8) (hl : l.length + 1 ≤ 140737488355328) (hS : St w0 [bldA b l] w) : Calls prog 152 #[.pointer (some ⟨b, 0, none⟩), .int .u8 (c.toNat : Int)] w fun e w' => e = .returned .nilIface ∧ St w0 [bldA b (l ++ [c])] w' := by
 refine (Any.Builder_WriteByte_k Zo6 Zoo w0.heap.size b _ (c.toNat : Int) w hS.bldOf (by rw [Go.Lib.byteCells_length]; exact hl) hS.bel.size).mono ?_;rintro e w' ⟨rfl, h1, h2, _⟩;refine ⟨rfl, St.bldMk (hS.bel.trans h2) (.inr ?_)⟩;rw [Go.Lib.byteCells_append]; exact h1
theorem Zih (w0 w : World) (b : Nat) (l : List UInt8) (hS : St w0 [bldA b l] w) : Calls prog 153 #[.pointer (some ⟨b, 0, none⟩)] w fun e w' => e = .returned (.int .i64 (l.length : Int)) ∧ Below w.heap.size w w' := by
 refine (Any.Builder_Len_f Zo7 w0.heap.size b _ w hS.bldOf).mono ?_;rintro e w' ⟨rfl, rfl⟩;exact ⟨by rw [Go.Lib.byteCells_length], Below.refl _ _⟩
theorem Zii (w0 w : World) (b : Nat) (l : List UInt8) (hS : St w0 [bldA b l] w) : Calls prog 154 #[.pointer (some ⟨b, 0, none⟩)] w fun e w' => e = .returned (.string ⟨l.toArray⟩) ∧ St w0 [bldA b l] w' := by
 refine (Any.Builder_String_any_f Zo5 Zjd w0.heap.size b l w hS.bldOf hS.bel.size).mono ?_;rintro e w' ⟨rfl, h1, h2⟩;exact ⟨rfl, St.bldMk (hS.bel.trans h2) h1⟩
theorem ZfT (sep : List UInt8) (r : List (List UInt8)) (B : Nat) (h : ∀ x ∈ r, x.length ≤ B) : (Go.Lib.joinTail sep r).length ≤ r.length * (sep.length + B) := by
 induction r with
 | nil => simp [Go.Lib.joinTail]
 | cons x r ih =>
  have h1 := ih fun y hy => h y (mem_cons_of_mem _ hy)
  have h2 := h x (mem_cons_self ..);have e : Go.Lib.joinTail sep (x :: r) = (sep ++ x) ++ Go.Lib.joinTail sep r := by simp [Go.Lib.joinTail]
  rw [e, length_append, length_append, length_cons, Nat.succ_mul]; omega
def Qz (xs : List ByteArray) (sep : ByteArray) : ByteArray := ⟨(Go.Lib.join (xs.map (·.data.toList)) sep.data.toList).toArray⟩
theorem Zds (xs : List ByteArray) (sep : ByteArray) (h : szs xs) : (Qz xs sep).size ≤ xs.length * (sep.size + 1099511627776) := by
 rw [Zf];show (Go.Lib.join (xs.map (·.data.toList)) sep.data.toList).length ≤ _
 cases xs with
 | nil => simp [Go.Lib.join_nil]
 | cons x r =>
  rw [map_cons, Go.Lib.join_cons, length_append];have h0 := h 0;simp only [List.getD_cons_zero] at h0;have h1 := ZfT sep.data.toList (r.map (·.data.toList)) 1099511627776 fun y hy => by
   obtain ⟨z, hz, rfl⟩ := List.mem_map.1 hy;obtain ⟨i, hi, rfl⟩ := List.getElem_of_mem hz;have := h (i + 1);rw [← Zf]
   simpa [List.getD, hi] using this
  rw [length_map] at h1;rw [length_cons, Nat.succ_mul, Zf sep, ← Zf x]; omega
theorem Zlw (a0 : Option Addr) (n c : Nat) (xs : List ByteArray) (sep : ByteArray) (w : World) (hR : Rd Zt 1 w a0 n xs) (hc : xs.length ≤ c) (hN : xs.length ≤ 100) (hx : szs xs) (hs : sep.size ≤ 100) :
  Calls prog 92 #[.slice a0 n c, .string sep] w fun e w' => e = .returned (.string (Qz xs sep)) ∧ Below w.heap.size w w' := by
 obtain rfl := hR.len;have hz := Zds xs sep hx;rw [Zf] at hz;have hlen : (Go.Lib.join (xs.map (·.data.toList)) sep.data.toList).length ≤ 140737488355328 := by
  refine Nat.le_trans hz ?_;refine Nat.le_trans (Nat.mul_le_mul hN (Nat.add_le_add_right hs _)) (by decide)
 by_cases h0 : xs = []
 ·subst h0
  refine (Any.strings_Join_none Zje Zjd a0 c sep w).mono ?_;rintro e w' ⟨rfl, rfl⟩;exact ⟨rfl, Below.refl _ _⟩
 ·have hpos : 0 < xs.length := List.length_pos_iff.2 h0
  obtain ⟨g, o, r⟩ := hR.opn;have ha := r.ao 0 hpos;subst ha;have hbk : g < w.heap.size := (r.at_ 0 (xs[0]'hpos) (List.getElem?_eq_getElem hpos)).1;exact Any.strings_Join Zje Zjd g o c xs sep w (fun j x hx => by have := r.elem1 (St.start w) hx rfl; simpa using this) hbk (by omega) hc hlen
end Go.Proofs.YthnbgnjpbmnelaaGreatDoor
