/- A part of the proof in YthnbgnjpbmnelaaGreatDoorTqX34. -/
import Derived.Lib.SlBytesConst
import Derived.Test.YthnbgnjpbmnelaaGreatDoorTqX16
namespace Go.Proofs.YthnbgnjpbmnelaaGreatDoor
open Go.Proofs.Tryz
set_option linter.unusedVariables false
set_option linter.unusedSimpArgs false
set_option maxHeartbeats 1000000
set_option maxRecDepth 100000
open Go.RowKit
section
variable {P : Program} {ops : Array Oper} {Q : Exit → Act → World → Prop} {rest : List Oper} {o : Oper} {a : Act} {w W : World} {N : Nat} {l : List (Nat × Value)} {s : List Asr} {t t' e : TypeId} {x y z : Operand} {α : Type} {enc : α → List Value} {size : Nat}
theorem Zbr (ho : o.op = .convert t t' x) {n : Int} {b : UInt8} (hx : a.eval x = .int .i64 n) (hn : 0 ≤ n ∧ n ≤ 255) (hb : b = UInt8.ofNat n.toNat) (hu : P.underlying t = some (.int .i64)) (hu' : P.underlying t' = some (.int .u8)) : Yl P w o a (.int .u8 (b.toNat : Int)) := by
 have hv : (b.toNat : Int) = n := by
  subst hb;rw [UInt8.toNat_ofNat']
  omega
 unfold Yl execOp;simp only [ho, hx];rw [hv];simp [convert, go_sem, run_underlying hu w, run_underlying hu' w, Conv.intToInt];simp [IntKind.wrap, IntKind.bits, IntKind.signed]
 omega
theorem ZlG (m n : Nat) (hm : m < 2 ^ 62) (hn : n < 2 ^ 62) : (Op.intBits .xor .i64 (m : Int) (n : Int)).run P w = .ok (.int .i64 ((m ^^^ n : Nat) : Int)) w := by
 have hx : m ^^^ n < 2 ^ 62 := Nat.xor_lt_two_pow hm hn;have hq : (BitVec.ofInt IntKind.i64.bits (m : Int) ^^^ BitVec.ofInt IntKind.i64.bits (n : Int)).toNat = m ^^^ n := by
  show (BitVec.ofInt 64 (m : Int) ^^^ BitVec.ofInt 64 (n : Int)).toNat = _;rw [BitVec.ofInt_natCast, BitVec.ofInt_natCast, BitVec.toNat_xor, BitVec.toNat_ofNat, BitVec.toNat_ofNat, Nat.mod_eq_of_lt (by omega), Nat.mod_eq_of_lt (by omega)]
 unfold Op.intBits;simp only [hq, Sem.run_pure];rw [Yb (by omega)]
theorem Znh (ho : o.op = .binOp .xor t x y t') {m n : Nat} (hx : a.eval x = .int .i64 (m : Int)) (hy : a.eval y = .int .i64 (n : Int)) (hm : m < 2 ^ 62) (hn : n < 2 ^ 62) : Yl P w o a (.int .i64 ((m ^^^ n : Nat) : Int)) := by
 have hrun := ZlG (P := P) (w := w) m n hm hn;unfold Yl execOp;simp only [ho, hx, hy];simp only [eqGuard, binOp, Sem.run_bind, Sem.run_pure, Result.andThen_ok]
 first | (simp only [hrun, Result.andThen_ok]) | (rw [hrun]; rfl) | (simp [go_sem] at hrun ⊢; exact hrun)
def Zo9 (enc : α → List Value) (size g : Nat) (xs : List α) : Asr := ⟨fun w f => f = [g] ∧ ∃ cur e fr, w.heap[g]? = some (.cells cur e fr) ∧ cur.toList.take (xs.length * size) = xs.flatMap enc, fun w w' f _ hb ⟨e1, cur, e, fr, h1, h2⟩ => ⟨e1, cur, e, fr, (hb g (by rw [e1]; simp)).trans h1, h2⟩⟩
theorem St.rom1 {enc : α → List Value} (he : ∀ x, (enc x).length = 1) (h : St W s w) (i : Nat) {g : Nat} {xs : List α} (hi : s[i]? = some (Zo9 enc 1 g xs)) {j : Nat} {x : α} (hx : xs[j]? = some x) {v : Value} (hv : enc x = [v]) : w.cell? ⟨g, 0 + j * 1, none⟩ = some v := by
 obtain ⟨f, ⟨_, cur, e, fr, h1, h2⟩, _⟩ := h.get i hi;have hj := (List.getElem?_eq_some_iff.1 hx).1;have h3 : (xs.flatMap enc)[j]? = some v := by
  have := Vl enc 1 he (xs.take j);have hd : xs = xs.take j ++ x :: xs.drop (j + 1) := by
   obtain ⟨hl, rfl⟩ := List.getElem?_eq_some_iff.1 hx;rw [← List.drop_eq_getElem_cons hl, List.take_append_drop]
  rw [hd, List.flatMap_append, List.flatMap_cons, hv, List.getElem?_append_right (by rw [this, List.length_take]; omega), this, List.length_take];rw [show j - min j xs.length * 1 = 0 by omega]; rfl
 rw [← h2, List.getElem?_take] at h3
 split at h3
 ·have h4 : cur[j]? = some v := by rw [← Array.getElem?_toList]; exact h3
  show w.cell? ⟨g, 0 + j * 1, none⟩ = some v;rw [show 0 + j * 1 = j by omega];unfold World.cell?;rw [h1]
  simpa using h4
 ·cases h3
theorem ZeA {g n c : Nat} {cur : Array Value} {e1 : TypeId} (h : w.heap[g]? = some (.cells cur e1 (0, 0))) (ht : P.underlying t = some (.slice e)) (he : P.underlying e = some (.int .u8)) :
  ∃ w', (convert t t (.slice (some ⟨g, 0, none⟩) n c)).run P w = .ok (.slice (some ⟨g, 0, none⟩) n c) w' ∧ (∃ fr, w'.heap[g]? = some (.cells cur e1 fr)) ∧ YU g (g + 1) w w' := by
 obtain ⟨hlt, hg⟩ := Array.getElem?_eq_some_iff.1 h;have hsh : w.shape? g = some (e1, cur.size) := by unfold World.shape?; rw [h]
 refine ⟨w.freeze ⟨g, cur.size, none⟩ 1, ?_, ?_, ?_⟩
 ·simp [convert, run_underlying ht, run_underlying he, markStringish, hsh]
 ·unfold World.freeze
  rw [if_neg (by decide)];refine ⟨(cur.size, cur.size + 1), ?_⟩;show (w.heap.modify g _)[g]? = _;rw [Array.getElem?_eq_getElem (by rw [Array.size_modify]; exact hlt), Array.getElem_modify_self, hg]; rfl
 ·unfold World.freeze
  rw [if_neg (by decide)];refine ⟨rfl, rfl, rfl, by simp, fun k hk ho => ?_⟩;show (w.heap.modify g _)[k]? = _;rw [Array.getElem?_modify, if_neg (by omega)]
theorem ZjY {enc : α → List Value} (hg : o.guard = none) (hF : Fr N a l) (ho : o.op = .convert t t x) {d : Nat} (hd : o.dst = some d) (hN : Nat.blt d N = true) {g n cap : Nat} {e1 : TypeId} (hx : a.eval x = .slice (some ⟨g, 0, none⟩) n cap) (ht : P.underlying t = some (.slice e)) (he : P.underlying e = some (.int .u8)) (hS : St W s w) (i : Nat) {xs : List α} (hi : s[i]? = some (Zg enc 1 e1 (.slice (some ⟨g, 0, none⟩) n cap) xs)) (hpos : 0 < xs.length)
  (h : ∀ w' a', Fr N a' ((d, .slice (some ⟨g, 0, none⟩) n cap) :: l) → St W (s.set i (Zo9 enc 1 g xs)) w' → wpList P ops Q rest a' w') : wpList P ops Q (o :: rest) a w := by
 obtain ⟨hn, hc | ⟨h0, g', cur, e2, hgb, h1, h2, h3, h4, hB⟩⟩ := hS.rowBlk i hi
 ·exact absurd hpos (by rw [hc.2]; simp)
 simp only [Option.some.injEq, Addr.mk.injEq, and_true] at e2;subst e2;obtain ⟨w', hr, ⟨fr, hf⟩, hO⟩ := ZeA (P := P) (t := t) (n := n) (c := cap) hgb ht he;refine wpList_plain hg fun K hK => ?_;have hrun : (execOp a.eval o).run P w = .ok (.value (.slice (some ⟨g, 0, none⟩) n cap)) w' := by
  unfold execOp;simp only [ho, hx, Sem.run_bind, hr, Result.andThen_ok, Sem.run_pure]
 unfold Oper.wp;rw [hrun];refine hK _ _ (hd ▸ h w' _ (hF.put (Nat.le_of_ble_eq_true hN) _) ?_);have hlt := hgb;refine hS.mutAt i hi hO.os hO.tape hO.output hO.size fun f ⟨e3, _⟩ _ hf2 => ⟨[g], ⟨rfl, cur, e1, fr, hf, by rw [← hn]; exact h4⟩, by simp, fun b hb => ?_, fun k hk hnk => hO.block k hk ?_⟩
 ·obtain rfl : b = g := by simpa using hb
  have hbl : Value.rowBlock (.slice (some ⟨b, 0, none⟩) n cap) = some b := by simp [Value.rowBlock, h0]
  have hm : b ∈ f := by rw [e3, hbl]; simp
  exact ⟨.inl hm, Nat.lt_of_lt_of_le (hf2 b hm).2 hO.size⟩
 ·have hbl : Value.rowBlock (.slice (some ⟨g, 0, none⟩) n cap) = some g := by simp [Value.rowBlock, h0]
  rw [e3, hbl] at hnk;simp at hnk
  omega
end
def rdA (rb : Nat) (ab : Option Addr) (n cb B : Nat) : Asr := exA fun p : Nat => sepA [boxA rb 2 151 (.agg #[.slice ab n cb, .int .i64 (p : Int)]), pureA (p ≤ B)]
theorem St.rdOpen {W w : World} {F : List Asr} {rb : Nat} {ab : Option Addr} {n cb B : Nat} (h : St W (rdA rb ab n cb B :: F) w) : ∃ p : Nat, p ≤ B ∧ St W (boxA rb 2 151 (.agg #[.slice ab n cb, .int .i64 (p : Int)]) :: F) w := by
 obtain ⟨p, h1⟩ := h.ex;have h2 : St W (boxA rb 2 151 (.agg #[.slice ab n cb, .int .i64 (p : Int)]) :: pureA (p ≤ B) :: F) w := (St.join (r := [_, _]) (s := F)).2 h1;obtain ⟨hp, h3⟩ := St.pure.1 (h2.perm (List.Perm.swap ..));exact ⟨p, hp, h3⟩
theorem St.rdMk {W w : World} {F : List Asr} {rb : Nat} {ab : Option Addr} {n cb B p : Nat} (hp : p ≤ B) (h : St W (boxA rb 2 151 (.agg #[.slice ab n cb, .int .i64 (p : Int)]) :: F) w) : St W (rdA rb ab n cb B :: F) w := by
 refine St.exI p ((St.join (r := [_, _]) (s := F)).1 ?_);exact (St.pure.2 ⟨hp, h⟩).perm (List.Perm.swap ..)
theorem St.rdLe {W w : World} {F : List Asr} {rb : Nat} {ab : Option Addr} {n cb B B' : Nat} (h : St W (rdA rb ab n cb B :: F) w) (hB : B ≤ B') : St W (rdA rb ab n cb B' :: F) w := by
 obtain ⟨p, hp, h1⟩ := h.rdOpen;exact St.rdMk (Nat.le_trans hp hB) h1
def Bx.rdL {W w : World} {F : List Asr} {rb : Nat} {ab : Option Addr} {n cb B : Nat} (h : Bx (St W (rdA rb ab n cb B :: F) w)) (B' : Nat) (hB : B ≤ B' := by omega) : Bx (St W (rdA rb ab n cb B' :: F) w) := ⟨h.out.rdLe hB⟩
theorem ZgW : Ur prog 54 5 1 1 := by
 obtain ⟨i0, hi, hz0, hz1, hz2⟩ := info_parts (P := prog) (e := 5) (z := .int .u8 0) (size := 1) (bytes := 1) (by kernel_rfl);exact ⟨Tryz.underlying54, ⟨i0, _, hi, hz0, hz1, hz2, rfl⟩, by decide⟩
end Go.Proofs.YthnbgnjpbmnelaaGreatDoor
