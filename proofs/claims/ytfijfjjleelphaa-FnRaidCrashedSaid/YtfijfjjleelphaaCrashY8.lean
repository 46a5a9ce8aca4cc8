/- A part of the proof in YtfijfjjleelphaaCrashY17. -/
import Derived.ArgAppend
import Derived.BigQuiet
import Derived.BigRegion
import Derived.Deep.AppendLies
import Derived.Deep.MidRow
import Derived.Deep.Quiet
import Derived.Deep.QuietTactic
import Derived.Deep.RegionWith
import Derived.IntWalk
import Derived.Laws.BytesArg
import Derived.Lib.Hide
import Derived.Lib.LazyBuf
import Derived.Orders
import Derived.OrdersHeld
import Derived.Still
import Derived.StillTail
import Derived.StillTailTactics
import Derived.Test.YtfijfjjleelphaaRows
import Derived.WalkKit
import Derived.WalkLawsBesides
import Derived.WalkSpells
import Derived.Test.YtfijfjjleelphaaCrashY7
/- Bytes and texts over abstract frames: texts cut, bytes made, copied, turned to texts. -/
namespace Go.Proofs.Ytfijfjjleelphaa
set_option maxHeartbeats 1000000
set_option maxRecDepth 100000
open Go.RowKit

def encB (x : UInt8) : List Value := [.int .u8 (x.toNat : Int)]
theorem encB_len (x : UInt8) : (encB x).length = 1 := rfl
theorem cells_one_B (xs : List UInt8) : ∀ u ∈ xs.flatMap encB, u.oneCell' = true := by
  intro u hu
  obtain ⟨x, _, hx⟩ := List.mem_flatMap.1 hu
  simp only [encB, List.mem_singleton] at hx
  subst hx; rfl
section
variable {P : Program} {ops : Array Oper} {Q : Exit → Act → World → Prop} {rest : List Oper} {o : Oper} {a : Act} {w W : World} {N : Nat} {l : List (Nat × Value)} {s : List Asr} {α : Type} {enc : α → List Value} {size : Nat} {e : TypeId} {t : TypeId} {x y z : Operand}
/-! ### Texts cut -/
theorem yl_sliceSh (ho : o.op = .slice t x none (some y) none) {b : ByteArray} (hx : a.eval x = .string b) {kk : IntKind} {m : Int} (hy : a.eval y = .int kk m) (hu : P.underlying t = some .string) {k : Nat} (hm : m = (k : Int)) (hk : k ≤ b.size) : Yl P w o a (.string (b.extract 0 k)) := by
  subst hm
  have h2 : ((k : Int) ≤ (b.size : Int)) := by omega
  unfold Yl execOp
  simp only [ho, hx, hy, Option.map_some, Option.map_none, Instr.sliceAt, Instr.slice, Sem.run_bind, run_underlying hu w, Result.andThen_ok]
  simp [Instr.slice, Instr.sliceBounds, Instr.sliceBound, asIntOf, go_sem, run_underlying hu w, h2]
  intro hlt; omega
theorem yl_sliceSl (ho : o.op = .slice t x (some y) none none) {b : ByteArray} (hx : a.eval x = .string b) {kk : IntKind} {m : Int} (hy : a.eval y = .int kk m) (hu : P.underlying t = some .string) {k : Nat} (hm : m = (k : Int)) (hk : k ≤ b.size) : Yl P w o a (.string (b.extract k b.size)) := by
  subst hm
  have h2 : ((k : Int) ≤ (b.size : Int)) := by omega
  unfold Yl execOp
  simp only [ho, hx, hy, Option.map_some, Option.map_none, Instr.sliceAt, Instr.slice, Sem.run_bind, run_underlying hu w, Result.andThen_ok]
  simp [Instr.slice, Instr.sliceBounds, Instr.sliceBound, asIntOf, go_sem, run_underlying hu w, h2]
  intro hlt; omega
/-! ### Bytes to a text -/
theorem yl_convBS (ho : o.op = .convert t e x) {e1 : TypeId} {ao : Option Addr} {n cap : Nat} (hx : a.eval x = .slice ao n cap) (hs : P.underlying t = some (.slice e1)) (he : P.underlying e1 = some (.int .u8)) (hd : P.underlying e = some .string) {xs : List UInt8} (hr : Rd encB 1 w ao n xs) : Yl P w o a (.string ⟨xs.toArray⟩) := by
  obtain rfl : n = xs.length := hr.1.symm
  unfold Yl execOp
  simp only [ho, hx]
  have hrun : (convert t e (.slice ao xs.length cap)).run P w = .ok (.string ⟨xs.toArray⟩) w := by
    cases ao with
    | none =>
      obtain rfl := rd_nil hr
      exact run_convert_bytes_nil w t e1 hs he 0 cap e hd
    | some ad =>
      refine run_convert_bytes_back w t e e1 ad cap xs hs he hd fun j hj => ?_
      have := hr.news encB_len (by decide) (j := j) (u := .int .u8 (xs[j].toNat : Int)) ?_
      · exact this
      · have hf : xs.flatMap encB = xs.map fun x => Value.int .u8 (x.toNat : Int) := by
          clear hr hx hj
          induction xs with
          | nil => rfl
          | cons x xs ih => rw [List.flatMap_cons, ih]; rfl
        rw [hf, List.getElem?_map, List.getElem?_eq_getElem hj]; rfl
  simp only [Sem.run_bind, hrun, Result.andThen_ok, Sem.run_pure]
/-! ### The exclusive or of two bytes -/
theorem yl_xorB (ho : o.op = .binOp .xor t x y e) {m n : UInt8} (hx : a.eval x = .int .u8 (m.toNat : Int)) (hy : a.eval y = .int .u8 (n.toNat : Int)) : Yl P w o a (.int .u8 ((m ^^^ n).toNat : Int)) := by
  unfold Yl execOp
  simp only [ho, hx, hy]
  have hb : ∀ u : UInt8, BitVec.ofInt 8 (u.toNat : Int) = u.toBitVec := fun u => by
    rw [BitVec.ofInt_natCast]
    apply BitVec.eq_of_toNat_eq
    simp
  have hw : ∀ k : Nat, k < 256 → IntKind.u8.wrap (k : Int) = (k : Int) := fun k hk => by
    simp [IntKind.wrap, IntKind.bits, IntKind.signed]; omega
  have hq : (BitVec.ofInt IntKind.u8.bits (m.toNat : Int) ^^^ BitVec.ofInt IntKind.u8.bits (n.toNat : Int)).toNat = (m ^^^ n).toNat := by
    show (BitVec.ofInt 8 (m.toNat : Int) ^^^ BitVec.ofInt 8 (n.toNat : Int)).toNat = _
    rw [hb, hb]; rfl
  have hrun : (Op.intBits .xor .u8 (m.toNat : Int) (n.toNat : Int)).run P w = .ok (.int .u8 ((m ^^^ n).toNat : Int)) w := by
    unfold Op.intBits
    simp only [hq, hw _ (show (m ^^^ n).toNat < 256 from (m ^^^ n).toNat_lt), Sem.run_pure]
  simp only [eqGuard, binOp, Sem.run_bind, Sem.run_pure, Result.andThen_ok]
  first | (simp only [hrun, Result.andThen_ok]) | (rw [hrun]; rfl) | (simp [go_sem] at hrun ⊢; exact hrun)
/-! ### A slice made -/
theorem wl_makeS (hg : o.guard = none) (hF : Fr N a l) (ho : o.op = .makeSlice t x y) {d : Nat} (hd : o.dst = some d) (hN : Nat.blt d N = true) {bytes : Nat} (hT : ElemT P t e 1 bytes) {kl kc : IntKind} {m m' : Int} {n : Nat} (hx : a.eval x = .int kl m) (hy : a.eval y = .int kc m') (hm : m = (n : Int)) (hm' : m' = (n : Int))
    (hb : bytes * n ≤ 281474976710656) (hn : n ≤ maxLen) (z0 : α) {u : Value} (hz : (P.info? e).bind (·.zero) = some u) (he : enc z0 = [u]) (hu : u.cells = #[u]) (hS : St W s w)
    (h : ∀ b a' w', Fr N a' ((d, .slice (some ⟨b, 0, none⟩) n n) :: l) → St W (rowA enc 1 e (.slice (some ⟨b, 0, none⟩) n n) (List.replicate n z0) :: s) w' → wpList P ops Q rest a' w') : wpList P ops Q (o :: rest) a w := by
  obtain ⟨i0, zz, hi0, hz0, k1, k2, k3⟩ := hT.info
  refine wpList_make_full w hg x y t ho w.heap.size e i0 zz 1 hT.ht hi0 hz0 k1 kl kc m m' n hx hy hm hm' (by rw [k2]; exact hb) hn (Nat.le_refl _) fun w' ho' hgr => ?_
  rw [hd]
  refine h _ _ _ (hF.put (Nat.le_of_ble_eq_true hN) _) ?_
  obtain rfl : zz = u := by rw [hi0] at hz; simpa [hz0] using hz
  have hc : (madeCells zz.cells (n * 1)).toList = (List.replicate n z0).flatMap enc := by
    rw [hu, Nat.mul_one]
    apply List.ext_getElem
    · simp [madeCells, he, List.length_flatMap]
    · intro i h1 h2
      have hr : ∀ k : Nat, (List.replicate k z0).flatMap enc = List.replicate k zz := fun k => by
        induction k with
        | zero => rfl
        | succ k ih => rw [List.replicate_succ, List.flatMap_cons, ih, he]; rfl
      simp [madeCells, hr, Nat.mod_one]
  rw [hc] at ho'
  refine hS.add (ns := [_]) (St.ofRow (B1 := w'.heap.size) (RowO.mk (by rw [List.length_replicate]; exact ho') (fun g hg => (ho'.lt g hg).2)) ⟨hgr.os, hgr.tape, hgr.output, hgr.size, fun k hk => hgr.block k hk (by simp)⟩)
/-! ### A text copied into bytes -/
theorem flat_encB (xs : List UInt8) : xs.flatMap encB = xs.map fun x => Value.int .u8 (x.toNat : Int) := by
  induction xs with
  | nil => rfl
  | cons x xs ih => rw [List.flatMap_cons, ih]; rfl
theorem wl_copyBS (hg : o.guard = none) (hF : Fr N a l) {ts : TypeId} (ho : o.op = .call { callee := .builtin .copy, args := #[x, y], argTypes := #[t, ts] }) {d : Nat} (hd : o.dst = some d) (hN : Nat.blt d N = true) {g n cap : Nat} (hx : a.eval x = .slice (some ⟨g, 0, none⟩) n cap) {b : ByteArray} (hy : a.eval y = .string b)
    (hu : elemOf? P t = some (e, 1)) (hS : St W s w) (i : Nat) {xs : List UInt8} (hi : s[i]? = some (rowA encB 1 e (.slice (some ⟨g, 0, none⟩) n cap) xs)) (hpos : 0 < n)
    (h : ∀ w' a', Fr N a' ((d, .int .i64 ((Nat.min b.size n : Nat) : Int)) :: l) → St W (s.set i (rowA encB 1 e (.slice (some ⟨g, 0, none⟩) n cap) (b.data.toList.take n ++ xs.drop b.size))) w' → wpList P ops Q rest a' w') : wpList P ops Q (o :: rest) a w := by
  obtain ⟨rfl, hc | ⟨h0, g', cur, e1, hgb, h1, h2, h3, h4, hB⟩⟩ := hS.rowBlk i hi
  · rw [hc.2] at hpos; exact absurd hpos (Nat.lt_irrefl _)
  simp only [Option.some.injEq, Addr.mk.injEq, and_true] at e1
  subst e1
  unfold elemOf? at hu
  split at hu
  · rename_i e' hu'
    split at hu
    · rename_i inf hq
      simp only [Option.some.injEq, Prod.mk.injEq] at hu
      obtain ⟨rfl, hz⟩ := hu
      obtain ⟨m, hm⟩ : ∃ m, m = Nat.min b.size xs.length := ⟨_, rfl⟩
      obtain ⟨ds, hds⟩ : ∃ ds : List UInt8, ds = b.data.toList.take m := ⟨_, rfl⟩
      have hm' : m = min b.size xs.length := hm
      have hbs : b.size = b.data.toList.length := by show b.data.size = _; rw [Array.length_toList]
      have hmb : m ≤ b.size ∧ m ≤ xs.length := by rw [hm]; exact ⟨Nat.min_le_left _ _, Nat.min_le_right _ _⟩
      have hdl : ds.length = m := by rw [hds, List.length_take, ← hbs]; omega
      have hvl : (ds.flatMap encB).length = m := by rw [flat_encB, List.length_map, hdl]
      have hg2 : w.heap[g]? = some (.cells cur.toList.toArray e' (0, 0)) := by simpa using hgb
      obtain ⟨k1, k2, k3⟩ := blk_setCells (t := e') (ds.flatMap encB) 0 w cur.toList hg2 (by rw [hvl]; simp; omega)
      have hfc : (Builtin.firstCells 1 m (.string b)).run P w = .ok (ds.flatMap encB).toArray w := by
        have hx1 : ((b.extract 0 m).data.map fun z => Value.int .u8 z.toNat) = (ds.flatMap encB).toArray := by
          apply Array.toList_inj.1
          rw [Array.toList_map, ByteArray.data_extract, Array.toList_extract, List.extract_eq_take_drop, flat_encB, hds]
          simp
        simp only [Builtin.firstCells, Sem.run_pure, hx1]
      have hst := run_storeCells_cells (P := P) g 0 (ds.flatMap encB) 0 w (by
        intro j hj; rw [hvl] at hj
        rw [blk_cell hgb]
        simp [Array.getElem?_eq_getElem (show j < cur.size by omega)]) (by intro j hj; exact blk_frozen hgb _) (cells_one_B ds)
      have hrun : (execOp a.eval o).run P w = .ok (.value (.int .i64 (m : Int))) (w.setCells g 0 (ds.flatMap encB)) := by
        unfold execOp
        simp only [ho, resolve, List.map_toArray, List.map_cons, List.map_nil, hx, hy, Sem.run_bind, Sem.run_pure, Result.andThen_ok, invoke, builtin]
        simp only [Builtin.copy_, List.getElem?_toArray, List.getElem?_cons_zero, List.getElem?_cons_succ, Sem.run_bind, run_underlying hu' w, Result.andThen_ok, Builtin.lenOf, Sem.run_pure, run_sizeOf hq w, hz, ← hm, hfc, hst, goInt]
      refine wpList_plain hg fun K hK => ?_
      unfold Oper.wp
      rw [hrun]
      rw [← hm] at h
      refine hK _ _ (hd ▸ h _ _ (hF.put (Nat.le_of_ble_eq_true hN) _) ?_)
      have hyl : (b.data.toList.take xs.length ++ xs.drop b.size).length = xs.length := by
        rw [List.length_append, List.length_take, List.length_drop, ← hbs]; omega
      have := hS.rowTo (ys := b.data.toList.take xs.length ++ xs.drop b.size) i hi h0 k1 (by rw [List.size_toArray, splice_len _ _ _ (by rw [hvl]; simp; omega)]; simpa using h3) (by rw [hyl]; exact h1) ?_ k2
      · rw [hyl] at this; exact this
      · rw [hyl, Nat.mul_one, List.flatMap_append]
        rw [Nat.mul_one] at h4
        have hdt : ds = b.data.toList.take xs.length := by
          rw [hds, hm']
          rcases Nat.le_total b.size xs.length with hle | hle
          · rw [Nat.min_eq_left hle, List.take_of_length_le (by omega), List.take_of_length_le (by omega)]
          · rw [Nat.min_eq_right hle]
        have hdr : (xs.drop b.size).flatMap encB = (cur.toList.take xs.length).drop m := by
          rw [h4, flat_encB, flat_encB, ← List.map_drop]
          congr 1
          rcases Nat.le_total b.size xs.length with hle | hle
          · rw [hm', Nat.min_eq_left hle]
          · rw [hm', Nat.min_eq_right hle, List.drop_of_length_le (by omega), List.drop_of_length_le (by omega)]
        rw [hdr, ← hdt]
        unfold splice
        rw [List.take_zero, List.nil_append, List.toList_toArray, List.take_append, hvl, List.take_of_length_le (by rw [hvl]; omega), List.drop_take, Nat.zero_add]
    · cases hu
  · cases hu
end
end Go.Proofs.Ytfijfjjleelphaa

/- Rows of elements of many cells: made, a field of an element written. No program in sight. -/
namespace Go.Proofs.Ytfijfjjleelphaa
set_option maxHeartbeats 1000000
set_option maxRecDepth 100000
open Go.RowKit
/-! ### The orders of a region come together -/
def OnN (R : Act → World → Prop) : Exit → Act → World → Prop
  | .normal, a, w => R a w
  | _, _, _ => False
theorem on_mk {R : Act → World → Prop} {a : Act} {w : World} (h : R a w) : OnN R .normal a w := h
theorem wp_join {P : Program} {c : Code} {R : Act → World → Prop} {Q : Exit → Act → World → Prop} {a : Act} {w : World} (h : c.wp P (OnN R) a w) (k : ∀ a w, R a w → Q .normal a w) : c.wp P Q a w :=
  wp_mono h fun e a w hq => by
    cases e with
    | normal => exact k a w hq
    | _ => exact hq.elim
end Go.Proofs.Ytfijfjjleelphaa
