/- A part of the proof in YthnbgnjpbmnelaaGreatDoorTqX34. -/
import Derived.Laws.BytesArg
import Derived.Test.YthnbgnjpbmnelaaGreatDoorTqX15
namespace Go.Proofs.YthnbgnjpbmnelaaGreatDoor
open List (flatMap_cons mem_singleton replicate)
set_option linter.unusedVariables false
set_option linter.unusedSimpArgs false
set_option maxHeartbeats 1000000
set_option maxRecDepth 100000
open Go.RowKit
def encB (x : UInt8) : List Value := [.int .u8 (x.toNat : Int)]
theorem YN (x : UInt8) : (encB x).length = 1 := rfl
theorem J9 (xs : List UInt8) : ∀ u ∈ xs.flatMap encB, u.oneCell' = true := by
 intro u hu;obtain ⟨x, _, hx⟩ := List.mem_flatMap.1 hu;simp only [encB, mem_singleton] at hx;subst hx; rfl
section
variable {P : Program} {ops : Array Oper} {Q : Exit → Act → World → Prop} {rest : List Oper} {o : Oper} {a : Act} {w W : World} {N : Nat} {l : List (Nat × Value)} {s : List Asr} {α : Type} {enc : α → List Value} {size : Nat} {e : TypeId} {t : TypeId} {x y z : Operand}
theorem JE (ho : o.op = .slice t x none (some y) none) {b : ByteArray} (hx : a.eval x = .string b) {kk : IntKind} {m : Int} (hy : a.eval y = .int kk m) (hu : P.underlying t = some .string) {k : Nat} (hm : m = (k : Int)) (hk : k ≤ b.size) : Yl P w o a (.string (b.extract 0 k)) := by
 subst hm;have h2 : ((k : Int) ≤ (b.size : Int)) := by omega
 unfold Yl execOp;simp only [ho, hx, hy, Option.map_some, Option.map_none, Instr.sliceAt, Instr.slice, Sem.run_bind, run_underlying hu w, Result.andThen_ok];simp [Instr.slice, Instr.sliceBounds, Instr.sliceBound, asIntOf, go_sem, run_underlying hu w, h2];intro hlt; omega
theorem JF (ho : o.op = .slice t x (some y) none none) {b : ByteArray} (hx : a.eval x = .string b) {kk : IntKind} {m : Int} (hy : a.eval y = .int kk m) (hu : P.underlying t = some .string) {k : Nat} (hm : m = (k : Int)) (hk : k ≤ b.size) : Yl P w o a (.string (b.extract k b.size)) := by
 subst hm;have h2 : ((k : Int) ≤ (b.size : Int)) := by omega
 unfold Yl execOp;simp only [ho, hx, hy, Option.map_some, Option.map_none, Instr.sliceAt, Instr.slice, Sem.run_bind, run_underlying hu w, Result.andThen_ok];simp [Instr.slice, Instr.sliceBounds, Instr.sliceBound, asIntOf, go_sem, run_underlying hu w, h2];intro hlt; omega
theorem Jl (ho : o.op = .convert t e x) {e1 : TypeId} {ao : Option Addr} {n cap : Nat} (hx : a.eval x = .slice ao n cap) (hs : P.underlying t = some (.slice e1)) (he : P.underlying e1 = some (.int .u8)) (hd : P.underlying e = some .string) {xs : List UInt8} (hr : Rd encB 1 w ao n xs) : Yl P w o a (.string ⟨xs.toArray⟩) := by
 obtain rfl : n = xs.length := hr.1.symm;unfold Yl execOp;simp only [ho, hx];have hrun : (convert t e (.slice ao xs.length cap)).run P w = .ok (.string ⟨xs.toArray⟩) w := by
  cases ao with
  | none =>
   obtain rfl := Zk4 hr;exact run_convert_bytes_nil w t e1 hs he 0 cap e hd
  | some ad =>
   refine run_convert_bytes_back w t e e1 ad cap xs hs he hd fun j hj => ?_;have := hr.news YN (by decide) (j := j) (u := .int .u8 (xs[j].toNat : Int)) ?_
   ·exact this
   ·have hf : xs.flatMap encB = xs.map fun x => Value.int .u8 (x.toNat : Int) := by
     clear hr hx hj
     induction xs with
     | nil => rfl
     | cons x xs ih => rw [flatMap_cons, ih]; rfl
    rw [hf, List.getElem?_map, List.getElem?_eq_getElem hj]; rfl
 simp only [Sem.run_bind, hrun, Result.andThen_ok, Sem.run_pure]
theorem ZlE (hg : o.guard = none) (hF : Fr N a l) (ho : o.op = .makeSlice t x y) {d : Nat} (hd : o.dst = some d) (hN : Nat.blt d N = true) {bytes : Nat} (hT : Ur P t e 1 bytes) {kl kc : IntKind} {m m' : Int} {n : Nat} (hx : a.eval x = .int kl m) (hy : a.eval y = .int kc m') (hm : m = (n : Int)) (hm' : m' = (n : Int))
  (hb : bytes * n ≤ 281474976710656) (hn : n ≤ maxLen) (z0 : α) {u : Value} (hz : (P.info? e).bind (·.zero) = some u) (he : enc z0 = [u]) (hu : u.cells = #[u]) (hS : St W s w)
  (h : ∀ b a' w', Fr N a' ((d, .slice (some ⟨b, 0, none⟩) n n) :: l) → St W (Zg enc 1 e (.slice (some ⟨b, 0, none⟩) n n) (replicate n z0) :: s) w' → wpList P ops Q rest a' w') : wpList P ops Q (o :: rest) a w := by
 obtain ⟨i0, zz, hi0, hz0, k1, k2, k3⟩ := hT.info;refine wpList_make_full w hg x y t ho w.heap.size e i0 zz 1 hT.ht hi0 hz0 k1 kl kc m m' n hx hy hm hm' (by rw [k2]; exact hb) hn (Nat.le_refl _) fun w' ho' hgr => ?_;rw [hd];refine h _ _ _ (hF.put (Nat.le_of_ble_eq_true hN) _) ?_;obtain rfl : zz = u := by rw [hi0] at hz; simpa [hz0] using hz
 have hc : (madeCells zz.cells (n * 1)).toList = (replicate n z0).flatMap enc := by
  rw [hu, Nat.mul_one]
  apply List.ext_getElem
  ·simp [madeCells, he, List.length_flatMap]
  ·intro i h1 h2
   have hr : ∀ k : Nat, (replicate k z0).flatMap enc = replicate k zz := fun k => by
    induction k with
    | zero => rfl
    | succ k ih => rw [List.replicate_succ, flatMap_cons, ih, he]; rfl
   simp [madeCells, hr, Nat.mod_one]
 rw [hc] at ho';refine hS.add (ns := [_]) (St.ofRow (B1 := w'.heap.size) (RowO.mk (by rw [List.length_replicate]; exact ho') (fun g hg => (ho'.lt g hg).2)) ⟨hgr.os, hgr.tape, hgr.output, hgr.size, fun k hk => hgr.block k hk (by simp)⟩)
end
section
variable {P : Program} {ops : Array Oper} {Q : Exit → Act → World → Prop} {rest : List Oper} {o : Oper} {a : Act} {w W : World} {N : Nat} {l : List (Nat × Value)} {s : List Asr} {t e : TypeId} {x y : Operand} {α : Type} {enc : α → List Value} {size : Nat}
theorem Ze0 (z : List Value) (size n : Nat) (hz : z.length = size) (hs : 0 < size) : (madeCells z.toArray (n * size)).toList = (replicate n z).flatten := by
 apply List.ext_getElem
 ·simp [madeCells, hz]
 ·intro i h1 h2
  have hi : i < n * size := by simpa [madeCells] using h1
  have key : ∀ (n i : Nat) (h : i < (replicate n z).flatten.length), (replicate n z).flatten[i] = z[i % size]'(by rw [hz]; exact Nat.mod_lt _ hs) := by
   intro n
   induction n with
   | zero => intro i h; simp at h
   | succ n ih =>
    intro i h;simp only [List.replicate_succ, List.flatten_cons]
    by_cases hlt : i < size
    ·rw [List.getElem_append_left (by rw [hz]; exact hlt)]
     congr 1
     exact (Nat.mod_eq_of_lt hlt).symm
    ·rw [List.getElem_append_right (by rw [hz]; omega)]
     have e : (i - z.length) % size = i % size := by
      rw [hz]
      conv => rhs; rw [show i = (i - size) + size by omega, Nat.add_mod_right]
     rw [ih]
     congr 1
  rw [key];have hm : i % size < z.length := by rw [hz]; exact Nat.mod_lt _ hs
  simp [madeCells, hz, List.getElem?_eq_getElem hm]
theorem ZlF (hg : o.guard = none) (hF : Fr N a l) (ho : o.op = .makeSlice t x y) {d : Nat} (hd : o.dst = some d) (hN : Nat.blt d N = true) {bytes : Nat} (hT : Ur P t e size bytes) {kl kc : IntKind} {m m' : Int} {n : Nat} (hx : a.eval x = .int kl m) (hy : a.eval y = .int kc m') (hm : m = (n : Int)) (hm' : m' = (n : Int))
  (hb : bytes * n ≤ 281474976710656) (hn : n ≤ maxLen) (z0 : α) {u : Value} (hz : (P.info? e).bind (·.zero) = some u) (hu : u.cells = (enc z0).toArray) (hl : (enc z0).length = size) (hS : St W s w)
  (h : ∀ b a' w', Fr N a' ((d, .slice (some ⟨b, 0, none⟩) n n) :: l) → St W (Zg enc size e (.slice (some ⟨b, 0, none⟩) n n) (replicate n z0) :: s) w' → wpList P ops Q rest a' w') : wpList P ops Q (o :: rest) a w := by
 obtain ⟨i0, zz, hi0, hz0, k1, k2, k3⟩ := hT.info;refine wpList_make_full w hg x y t ho w.heap.size e i0 zz size hT.ht hi0 hz0 k1 kl kc m m' n hx hy hm hm' (by rw [k2]; exact hb) hn (Nat.le_refl _) fun w' ho' hgr => ?_;rw [hd];refine h _ _ _ (hF.put (Nat.le_of_ble_eq_true hN) _) ?_;obtain rfl : zz = u := by rw [hi0] at hz; simpa [hz0] using hz
 have hc : (madeCells zz.cells (n * size)).toList = (replicate n z0).flatMap enc := by
  rw [hu, Ze0 _ _ _ hl hT.pos, List.flatMap, List.map_replicate]
 rw [hc] at ho';refine hS.add (ns := [_]) (St.ofRow (B1 := w'.heap.size) (RowO.mk (by rw [List.length_replicate]; exact ho') (fun g hg => (ho'.lt g hg).2)) ⟨hgr.os, hgr.tape, hgr.output, hgr.size, fun k hk => hgr.block k hk (by simp)⟩)
end
def OnN (R : Act → World → Prop) : Exit → Act → World → Prop
 | .normal, a, w => R a w
 | _, _, _ => False
theorem ZE {R : Act → World → Prop} {a : Act} {w : World} (h : R a w) : OnN R .normal a w := h
theorem ZR {P : Program} {c : Code} {R : Act → World → Prop} {Q : Exit → Act → World → Prop} {a : Act} {w : World} (h : c.wp P (OnN R) a w) (k : ∀ a w, R a w → Q .normal a w) : c.wp P Q a w :=
 wp_mono h fun e a w hq => by
  cases e with
  | normal => exact k a w hq
  | _ => exact hq.elim
end Go.Proofs.YthnbgnjpbmnelaaGreatDoor
