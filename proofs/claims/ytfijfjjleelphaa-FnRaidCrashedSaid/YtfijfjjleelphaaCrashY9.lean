/- A part of the proof in YtfijfjjleelphaaCrashY17. -/
import Derived.ArgAppend
import Derived.BigQuiet
import Derived.BigRegion
import Derived.Deep.AppendLies
import Derived.Deep.MidRow
import Derived.Deep.Quiet
import Derived.Deep.QuietTactic
import Derived.Deep.RegionWith
import Derived.IntWalk
import Derived.Laws.BytesArg
import Derived.Lib.Hide
import Derived.Lib.LazyBuf
import Derived.Lib.SlBytesConst
import Derived.Orders
import Derived.OrdersHeld
import Derived.Still
import Derived.StillTail
import Derived.StillTailTactics
import Derived.Test.YtfijfjjleelphaaRows
import Derived.WalkKit
import Derived.WalkLawsBesides
import Derived.WalkSpells
import Derived.Test.YtfijfjjleelphaaCrashY8
/- Laws for the draws: numbers and bytes, bytes of a constant; the reader of a code, as a thing. -/
namespace Go.Proofs.Ytfijfjjleelphaa
set_option maxHeartbeats 1000000
set_option maxRecDepth 100000
open Go.RowKit
section
variable {P : Program} {ops : Array Oper} {Q : Exit → Act → World → Prop} {rest : List Oper} {o : Oper} {a : Act} {w W : World} {N : Nat} {l : List (Nat × Value)} {s : List Asr} {t t' e : TypeId} {x y z : Operand} {α : Type} {enc : α → List Value} {size : Nat}
theorem yl_toU8 (ho : o.op = .convert t t' x) {n : Int} {b : UInt8} (hx : a.eval x = .int .i64 n) (hn : 0 ≤ n ∧ n ≤ 255) (hb : b = UInt8.ofNat n.toNat) (hu : P.underlying t = some (.int .i64)) (hu' : P.underlying t' = some (.int .u8)) : Yl P w o a (.int .u8 (b.toNat : Int)) := by
  have hv : (b.toNat : Int) = n := by
    subst hb
    rw [UInt8.toNat_ofNat']
    omega
  unfold Yl execOp
  simp only [ho, hx]
  rw [hv]
  simp [convert, go_sem, run_underlying hu w, run_underlying hu' w, Conv.intToInt]
  simp [IntKind.wrap, IntKind.bits, IntKind.signed]
  omega
theorem xor_bits (m n : Nat) (hm : m < 2 ^ 62) (hn : n < 2 ^ 62) : (Op.intBits .xor .i64 (m : Int) (n : Int)).run P w = .ok (.int .i64 ((m ^^^ n : Nat) : Int)) w := by
  have hx : m ^^^ n < 2 ^ 62 := Nat.xor_lt_two_pow hm hn
  have hq : (BitVec.ofInt IntKind.i64.bits (m : Int) ^^^ BitVec.ofInt IntKind.i64.bits (n : Int)).toNat = m ^^^ n := by
    show (BitVec.ofInt 64 (m : Int) ^^^ BitVec.ofInt 64 (n : Int)).toNat = _
    rw [BitVec.ofInt_natCast, BitVec.ofInt_natCast, BitVec.toNat_xor, BitVec.toNat_ofNat, BitVec.toNat_ofNat, Nat.mod_eq_of_lt (by omega), Nat.mod_eq_of_lt (by omega)]
  unfold Op.intBits
  simp only [hq, Sem.run_pure]
  rw [i64w (by omega)]
theorem yl_xorI (ho : o.op = .binOp .xor t x y t') {m n : Nat} (hx : a.eval x = .int .i64 (m : Int)) (hy : a.eval y = .int .i64 (n : Int)) (hm : m < 2 ^ 62) (hn : n < 2 ^ 62) : Yl P w o a (.int .i64 ((m ^^^ n : Nat) : Int)) := by
  have hrun := xor_bits (P := P) (w := w) m n hm hn
  unfold Yl execOp
  simp only [ho, hx, hy]
  simp only [eqGuard, binOp, Sem.run_bind, Sem.run_pure, Result.andThen_ok]
  first | (simp only [hrun, Result.andThen_ok]) | (rw [hrun]; rfl) | (simp [go_sem] at hrun ⊢; exact hrun)
/-! ### A row that may be marked, to be read -/
def romA (enc : α → List Value) (size g : Nat) (xs : List α) : Asr := ⟨fun w f => f = [g] ∧ ∃ cur e fr, w.heap[g]? = some (.cells cur e fr) ∧ cur.toList.take (xs.length * size) = xs.flatMap enc, fun w w' f _ hb ⟨e1, cur, e, fr, h1, h2⟩ => ⟨e1, cur, e, fr, (hb g (by rw [e1]; simp)).trans h1, h2⟩⟩
theorem St.rom1 {enc : α → List Value} (he : ∀ x, (enc x).length = 1) (h : St W s w) (i : Nat) {g : Nat} {xs : List α} (hi : s[i]? = some (romA enc 1 g xs)) {j : Nat} {x : α} (hx : xs[j]? = some x) {v : Value} (hv : enc x = [v]) : w.cell? ⟨g, 0 + j * 1, none⟩ = some v := by
  obtain ⟨f, ⟨_, cur, e, fr, h1, h2⟩, _⟩ := h.get i hi
  have hj := (List.getElem?_eq_some_iff.1 hx).1
  have h3 : (xs.flatMap enc)[j]? = some v := by
    have := flat_len enc 1 he (xs.take j)
    have hd : xs = xs.take j ++ x :: xs.drop (j + 1) := by
      obtain ⟨hl, rfl⟩ := List.getElem?_eq_some_iff.1 hx
      rw [← List.drop_eq_getElem_cons hl, List.take_append_drop]
    rw [hd, List.flatMap_append, List.flatMap_cons, hv, List.getElem?_append_right (by rw [this, List.length_take]; omega), this, List.length_take]
    rw [show j - min j xs.length * 1 = 0 by omega]; rfl
  rw [← h2, List.getElem?_take] at h3
  split at h3
  · have h4 : cur[j]? = some v := by rw [← Array.getElem?_toList]; exact h3
    show w.cell? ⟨g, 0 + j * 1, none⟩ = some v
    rw [show 0 + j * 1 = j by omega]
    unfold World.cell?
    rw [h1]
    simpa using h4
  · cases h3
theorem run_conv_mark {g n c : Nat} {cur : Array Value} {e1 : TypeId} (h : w.heap[g]? = some (.cells cur e1 (0, 0))) (ht : P.underlying t = some (.slice e)) (he : P.underlying e = some (.int .u8)) :
    ∃ w', (convert t t (.slice (some ⟨g, 0, none⟩) n c)).run P w = .ok (.slice (some ⟨g, 0, none⟩) n c) w' ∧ (∃ fr, w'.heap[g]? = some (.cells cur e1 fr)) ∧ Outside g (g + 1) w w' := by
  obtain ⟨hlt, hg⟩ := Array.getElem?_eq_some_iff.1 h
  have hsh : w.shape? g = some (e1, cur.size) := by unfold World.shape?; rw [h]
  refine ⟨w.freeze ⟨g, cur.size, none⟩ 1, ?_, ?_, ?_⟩
  · simp [convert, run_underlying ht, run_underlying he, markStringish, hsh]
  · unfold World.freeze
    rw [if_neg (by decide)]
    refine ⟨(cur.size, cur.size + 1), ?_⟩
    show (w.heap.modify g _)[g]? = _
    rw [Array.getElem?_eq_getElem (by rw [Array.size_modify]; exact hlt), Array.getElem_modify_self, hg]; rfl
  · unfold World.freeze
    rw [if_neg (by decide)]
    refine ⟨rfl, rfl, rfl, by simp, fun k hk ho => ?_⟩
    show (w.heap.modify g _)[k]? = _
    rw [Array.getElem?_modify, if_neg (by omega)]
theorem wl_convSl {enc : α → List Value} (hg : o.guard = none) (hF : Fr N a l) (ho : o.op = .convert t t x) {d : Nat} (hd : o.dst = some d) (hN : Nat.blt d N = true) {g n cap : Nat} {e1 : TypeId} (hx : a.eval x = .slice (some ⟨g, 0, none⟩) n cap) (ht : P.underlying t = some (.slice e)) (he : P.underlying e = some (.int .u8)) (hS : St W s w) (i : Nat) {xs : List α} (hi : s[i]? = some (rowA enc 1 e1 (.slice (some ⟨g, 0, none⟩) n cap) xs)) (hpos : 0 < xs.length)
    (h : ∀ w' a', Fr N a' ((d, .slice (some ⟨g, 0, none⟩) n cap) :: l) → St W (s.set i (romA enc 1 g xs)) w' → wpList P ops Q rest a' w') : wpList P ops Q (o :: rest) a w := by
  obtain ⟨hn, hc | ⟨h0, g', cur, e2, hgb, h1, h2, h3, h4, hB⟩⟩ := hS.rowBlk i hi
  · exact absurd hpos (by rw [hc.2]; simp)
  simp only [Option.some.injEq, Addr.mk.injEq, and_true] at e2
  subst e2
  obtain ⟨w', hr, ⟨fr, hf⟩, hO⟩ := run_conv_mark (P := P) (t := t) (n := n) (c := cap) hgb ht he
  refine wpList_plain hg fun K hK => ?_
  have hrun : (execOp a.eval o).run P w = .ok (.value (.slice (some ⟨g, 0, none⟩) n cap)) w' := by
    unfold execOp
    simp only [ho, hx, Sem.run_bind, hr, Result.andThen_ok, Sem.run_pure]
  unfold Oper.wp
  rw [hrun]
  refine hK _ _ (hd ▸ h w' _ (hF.put (Nat.le_of_ble_eq_true hN) _) ?_)
  have hlt := hgb
  refine hS.mutAt i hi hO.os hO.tape hO.output hO.size fun f ⟨e3, _⟩ _ hf2 => ⟨[g], ⟨rfl, cur, e1, fr, hf, by rw [← hn]; exact h4⟩, by simp, fun b hb => ?_, fun k hk hnk => hO.block k hk ?_⟩
  · obtain rfl : b = g := by simpa using hb
    have hbl : Value.rowBlock (.slice (some ⟨b, 0, none⟩) n cap) = some b := by simp [Value.rowBlock, h0]
    have hm : b ∈ f := by rw [e3, hbl]; simp
    exact ⟨.inl hm, Nat.lt_of_lt_of_le (hf2 b hm).2 hO.size⟩
  · have hbl : Value.rowBlock (.slice (some ⟨g, 0, none⟩) n cap) = some g := by simp [Value.rowBlock, h0]
    rw [e3, hbl] at hnk
    simp at hnk
    omega
end
/-! ### The reader of a code -/
/-- The reader's box: its code, and how far it is: at most so far. -/
def rdA (rb : Nat) (ab : Option Addr) (n cb B : Nat) : Asr := exA fun p : Nat => sepA [boxA rb 2 137 (.agg #[.slice ab n cb, .int .i64 (p : Int)]), pureA (p ≤ B)]
theorem St.rdOpen {W w : World} {F : List Asr} {rb : Nat} {ab : Option Addr} {n cb B : Nat} (h : St W (rdA rb ab n cb B :: F) w) : ∃ p : Nat, p ≤ B ∧ St W (boxA rb 2 137 (.agg #[.slice ab n cb, .int .i64 (p : Int)]) :: F) w := by
  obtain ⟨p, h1⟩ := h.ex
  have h2 : St W (boxA rb 2 137 (.agg #[.slice ab n cb, .int .i64 (p : Int)]) :: pureA (p ≤ B) :: F) w := (St.join (r := [_, _]) (s := F)).2 h1
  obtain ⟨hp, h3⟩ := St.pure.1 (h2.perm (List.Perm.swap ..))
  exact ⟨p, hp, h3⟩
theorem St.rdMk {W w : World} {F : List Asr} {rb : Nat} {ab : Option Addr} {n cb B p : Nat} (hp : p ≤ B) (h : St W (boxA rb 2 137 (.agg #[.slice ab n cb, .int .i64 (p : Int)]) :: F) w) : St W (rdA rb ab n cb B :: F) w := by
  refine St.exI p ((St.join (r := [_, _]) (s := F)).1 ?_)
  exact (St.pure.2 ⟨hp, h⟩).perm (List.Perm.swap ..)
theorem St.rdLe {W w : World} {F : List Asr} {rb : Nat} {ab : Option Addr} {n cb B B' : Nat} (h : St W (rdA rb ab n cb B :: F) w) (hB : B ≤ B') : St W (rdA rb ab n cb B' :: F) w := by
  obtain ⟨p, hp, h1⟩ := h.rdOpen
  exact St.rdMk (Nat.le_trans hp hB) h1
end Go.Proofs.Ytfijfjjleelphaa

/- The laws' helpers over waiting writes. -/
namespace Go.Proofs.Ytfijfjjleelphaa
set_option maxHeartbeats 1000000
set_option maxRecDepth 100000
open Go.RowKit

structure WaitD where
  fAt : Int
  fText : ByteArray
def WaitD.cells (x : WaitD) : List Value := [.int .i64 x.fAt, .string x.fText]
theorem WaitD.cells_len (x : WaitD) : x.cells.length = 2 := rfl
theorem WaitD.at_ {w : World} {b o : Nat} {x : WaitD} (h : w.rangeAt b o x.cells) :
    w.cell? ⟨b, o, none⟩ = some (.int .i64 x.fAt) ∧ w.cell? ⟨b, o + 1, none⟩ = some (.string x.fText) :=
  ⟨h 0 _ rfl, h 1 _ rfl⟩

theorem Try.infoWaitS : (Try.prog.info? 144).map (fun i => (i.zero, i.size, i.bytes)) = some (some (.agg #[.int .i64 0, .string ByteArray.empty]), 2, 24) := by kernel_rfl
end Go.Proofs.Ytfijfjjleelphaa

/- The laws' helpers over disks. -/
namespace Go.Proofs.Ytfijfjjleelphaa
set_option maxHeartbeats 1000000
set_option maxRecDepth 100000
open Go.RowKit

structure DiskD where
  fCells : List ByteArray
  fWaits : List WaitD
  fGone : Bool
def DiskD.Reads (w : World) (v : Value) (x : DiskD) : Prop := ∃ (a0 : Option Addr) (c0 : Nat) (a1 : Option Addr) (c1 : Nat), v = .agg #[.slice a0 x.fCells.length c0, .slice a1 x.fWaits.length c1, .bool x.fGone] ∧ Rd encS 1 w a0 x.fCells.length x.fCells ∧ Rd WaitD.cells 2 w a1 x.fWaits.length x.fWaits
def DiskD.Own (w : World) (B B1 : Nat) (v : Value) (x : DiskD) : Prop := ∃ (a0 : Option Addr) (c0 : Nat) (a1 : Option Addr) (c1 : Nat), v = .agg #[.slice a0 x.fCells.length c0, .slice a1 x.fWaits.length c1, .bool x.fGone] ∧ RowO encS 1 9 w B B1 (.slice a0 x.fCells.length c0) x.fCells ∧ RowO WaitD.cells 2 144 w B B1 (.slice a1 x.fWaits.length c1) x.fWaits ∧ Apart (.slice a0 x.fCells.length c0) (.slice a1 x.fWaits.length c1)
theorem DiskD.Reads.below {w w' : World} {v : Value} {x : DiskD} (h : DiskD.Reads w v x) (hb : Below w.heap.size w w') : DiskD.Reads w' v x := by
  obtain ⟨a0, c0, a1, c1, rfl, r0, r1⟩ := h
  exact ⟨a0, c0, a1, c1, rfl, r0.below hb, r1.below hb⟩
theorem DiskD.Own.rd {w : World} {B B1 : Nat} {v : Value} {x : DiskD} (h : DiskD.Own w B B1 v x) : DiskD.Reads w v x := by
  obtain ⟨a0, c0, a1, c1, rfl, r0, r1, p0_1⟩ := h
  obtain ⟨u0, e0, k0, d0⟩ := r0.rd encS_len
  simp only [Value.slice.injEq, true_and] at k0
  obtain ⟨rfl, rfl⟩ := k0
  obtain ⟨u1, e1, k1, d1⟩ := r1.rd WaitD.cells_len
  simp only [Value.slice.injEq, true_and] at k1
  obtain ⟨rfl, rfl⟩ := k1
  exact ⟨_, _, _, _, rfl, d0, d1⟩
theorem DiskD.Own.below {w : World} {B B1 : Nat} {v : Value} {x : DiskD} (h : DiskD.Own w B B1 v x) {w' : World} {C : Nat} (hb : Below C w w') (hC : w.heap.size ≤ C) : DiskD.Own w' B B1 v x := by
  obtain ⟨a0, c0, a1, c1, rfl, r0, r1, p0_1⟩ := h
  exact ⟨a0, c0, a1, c1, rfl, r0.below hb hC, r1.below hb hC, p0_1⟩
theorem DiskD.Own.mono {w : World} {B B1 : Nat} {v : Value} {x : DiskD} (h : DiskD.Own w B B1 v x) {B' B1' : Nat} (hB : B' ≤ B) (hB1 : B1 ≤ B1') : DiskD.Own w B' B1' v x := by
  obtain ⟨a0, c0, a1, c1, rfl, r0, r1, p0_1⟩ := h
  exact ⟨a0, c0, a1, c1, rfl, r0.mono hB hB1, r1.mono hB hB1, p0_1⟩
theorem DiskD.Own.set {w : World} {B B1 : Nat} {v : Value} {x : DiskD} (h : DiskD.Own w B B1 v x) {p : Addr} (hp : p.block < B) (u : Value) : DiskD.Own (w.setCell p u) B B1 v x := by
  obtain ⟨a0, c0, a1, c1, rfl, r0, r1, p0_1⟩ := h
  exact ⟨a0, c0, a1, c1, rfl, r0.set hp u, r1.set hp u, p0_1⟩
end Go.Proofs.Ytfijfjjleelphaa

/- Disks and columns: plain. -/
namespace Go.Proofs.Ytfijfjjleelphaa
set_option maxHeartbeats 1000000
set_option maxRecDepth 100000
open Go.RowKit
theorem ba_ext {a b : ByteArray} (h : a.data.toList = b.data.toList) : a = b := by
  cases a; cases b
  congr
  exact Array.toList_inj.1 h
theorem size_list (a : ByteArray) : a.size = a.data.toList.length := by show a.data.size = _; rw [Array.length_toList]
theorem list_extract (a : ByteArray) (i j : Nat) : (a.extract i j).data.toList = (a.data.toList.drop i).take (j - i) := by
  rw [ByteArray.data_extract, Array.toList_extract, List.extract_eq_take_drop]
theorem list_append (a b : ByteArray) : (a ++ b).data.toList = a.data.toList ++ b.data.toList := by simp
theorem get_list (a : ByteArray) (i : Nat) : a.get! i = a.data.toList.getD i 0 := by
  cases a with | mk d =>
  show d[i]! = d.toList.getD i 0
  rw [List.getD_eq_getElem?_getD, Array.getElem?_toList]
  cases h : d[i]? <;> simp [getElem!_def, h] <;> rfl
def half (n : Nat) : Nat := (n + 1) / 2
/-- The exclusive or of two texts, so many bytes. -/
def xorL (a b : List UInt8) (n : Nat) : List UInt8 := (List.range n).map fun i => a.getD i 0 ^^^ b.getD i 0
def xorB (a b : ByteArray) (n : Nat) : ByteArray := ⟨(xorL a.data.toList b.data.toList n).toArray⟩
theorem xorB_list (a b : ByteArray) (n : Nat) : (xorB a b n).data.toList = xorL a.data.toList b.data.toList n := rfl
theorem xorL_len (a b : List UInt8) (n : Nat) : (xorL a b n).length = n := by simp [xorL]
theorem xorB_size (a b : ByteArray) (n : Nat) : (xorB a b n).size = n := by rw [size_list, xorB_list, xorL_len]
theorem xor_back (x y : UInt8) : (x ^^^ y) ^^^ y = x := by
  rw [UInt8.xor_assoc, UInt8.xor_self, UInt8.xor_zero]
theorem xorL_get (a b : List UInt8) (n i : Nat) (hi : i < n) : (xorL a b n).getD i 0 = a.getD i 0 ^^^ b.getD i 0 := by
  simp [xorL, List.getD, hi]
theorem xorL_back (a b : List UInt8) (n : Nat) (ha : a.length = n) : xorL (xorL a b n) b n = a := by
  apply List.ext_getElem
  · rw [xorL_len, ha]
  · intro i h1 h2
    rw [xorL_len] at h1
    have : (xorL (xorL a b n) b n).getD i 0 = a.getD i 0 := by rw [xorL_get _ _ _ _ h1, xorL_get _ _ _ _ h1, xor_back]
    simpa [List.getD, h1, h2, xorL_len, ha] using this
theorem xorL_back1 (a b : List UInt8) (n m : Nat) (hb : b.length = m) (hm : m ≤ n) : (xorL (xorL a b n) a n).take m = b := by
  apply List.ext_getElem
  · rw [List.length_take, xorL_len, hb]; omega
  · intro i h1 h2
    have hi : i < n := by rw [hb] at h2; omega
    have : (xorL (xorL a b n) a n).getD i 0 = b.getD i 0 := by
      rw [xorL_get _ _ _ _ hi, xorL_get _ _ _ _ hi, UInt8.xor_comm (a.getD i 0), xor_back]
    rw [List.getElem_take]
    simpa [List.getD, hi, h2, xorL_len] using this
/-- The columns of a block. -/
def col0 (t : ByteArray) : ByteArray := t.extract 0 (half t.size)
def col1 (t : ByteArray) : ByteArray := t.extract (half t.size) t.size
def col2 (t : ByteArray) : ByteArray := xorB (col0 t) (col1 t) (half t.size)
theorem half_bounds (n : Nat) (h : 1 ≤ n) : half n ≤ n ∧ n - half n ≤ half n := by unfold half; omega
theorem col0_size (t : ByteArray) (h : 1 ≤ t.size) : (col0 t).size = half t.size := by
  have := half_bounds t.size h
  rw [size_list]; unfold col0; rw [list_extract, List.drop_zero, List.length_take, ← size_list]; omega
theorem col1_size (t : ByteArray) (h : 1 ≤ t.size) : (col1 t).size = t.size - half t.size := by
  have := half_bounds t.size h
  rw [size_list]; unfold col1; rw [list_extract, List.length_take, List.length_drop, ← size_list]; omega
theorem col2_size (t : ByteArray) : (col2 t).size = half t.size := xorB_size _ _ _
theorem col_join (t : ByteArray) (h : 1 ≤ t.size) : col0 t ++ col1 t = t := by
  have := half_bounds t.size h
  apply ba_ext
  rw [list_append]
  unfold col0 col1
  rw [list_extract, list_extract, List.drop_zero, Nat.sub_zero, List.take_of_length_le (l := List.drop _ _) (by rw [List.length_drop, ← size_list]; omega), List.take_append_drop]
/-- What is read of columns, by a way. -/
def joinB (c0 c1 c2 : ByteArray) (size : Nat) (lost : Int) : Option ByteArray :=
  if lost = -1 ∧ c0.size = half size ∧ c1.size = size - half size then some (c0 ++ c1)
  else if lost = 0 ∧ c1.size = size - half size ∧ c2.size = half size then some (xorB c2 c1 (half size) ++ c1)
  else if lost = 1 ∧ c0.size = half size ∧ c2.size = half size then some (c0 ++ (xorB c2 c0 (half size)).extract 0 (size - half size))
  else none
theorem join_none (t : ByteArray) (h : 1 ≤ t.size) (c2 : ByteArray) : joinB (col0 t) (col1 t) c2 t.size (-1) = some t := by
  unfold joinB
  rw [if_pos ⟨rfl, col0_size t h, col1_size t h⟩, col_join t h]
theorem join_zero (t : ByteArray) (h : 1 ≤ t.size) (c0 : ByteArray) : joinB c0 (col1 t) (col2 t) t.size 0 = some t := by
  unfold joinB
  rw [if_neg (by omega), if_pos ⟨rfl, col1_size t h, col2_size t⟩]
  have e : xorB (col2 t) (col1 t) (half t.size) = col0 t := by
    apply ba_ext
    rw [xorB_list]
    unfold col2
    rw [xorB_list]
    exact xorL_back _ _ _ (by rw [← size_list, col0_size t h])
  rw [e, col_join t h]
theorem join_one (t : ByteArray) (h : 1 ≤ t.size) (c1 : ByteArray) : joinB (col0 t) c1 (col2 t) t.size 1 = some t := by
  have hb := half_bounds t.size h
  unfold joinB
  rw [if_neg (by omega), if_neg (by omega), if_pos ⟨rfl, col0_size t h, col2_size t⟩]
  have e : (xorB (col2 t) (col0 t) (half t.size)).extract 0 (t.size - half t.size) = col1 t := by
    apply ba_ext
    rw [list_extract, xorB_list, List.drop_zero, Nat.sub_zero]
    unfold col2
    rw [xorB_list]
    exact xorL_back1 _ _ _ _ (by rw [← size_list, col1_size t h]) hb.2
  rw [e, col_join t h]
/-- What a cell has, waiting or not. -/
def lookW : List WaitD → Nat → Option ByteArray
  | [], _ => none
  | w :: ws, n => match lookW ws n with
    | some t => some t
    | none => if w.fAt = (n : Int) then some w.fText else none
theorem lookW_cons (w : WaitD) (ws : List WaitD) (n : Nat) : lookW (w :: ws) n = (match lookW ws n with | some t => some t | none => if w.fAt = (n : Int) then some w.fText else none) := rfl
def DiskD.look (d : DiskD) (n : Nat) : ByteArray := (lookW d.fWaits n).getD (d.fCells.getD n ByteArray.empty)
theorem lookW_append (ws : List WaitD) (w : WaitD) (n : Nat) : lookW (ws ++ [w]) n = if w.fAt = (n : Int) then some w.fText else lookW ws n := by
  induction ws with
  | nil => simp [lookW]
  | cons v ws ih =>
    rw [List.cons_append, lookW_cons, ih, lookW_cons]
    by_cases h : w.fAt = (n : Int)
    · simp [h]
    · simp only [if_neg h]
def setW (cs : List ByteArray) (w : WaitD) : List ByteArray := cs.set w.fAt.toNat w.fText
def DiskD.flush (d : DiskD) : DiskD := { fCells := d.fWaits.foldl setW d.fCells, fWaits := [], fGone := d.fGone }
theorem foldl_look (ws : List WaitD) : ∀ (cs : List ByteArray) (n : Nat), (∀ w ∈ ws, 0 ≤ w.fAt ∧ w.fAt < cs.length) → n < cs.length → (ws.foldl setW cs).getD n ByteArray.empty = (lookW ws n).getD (cs.getD n ByteArray.empty) := by
  induction ws with
  | nil => intro cs n _ _; rfl
  | cons w ws ih =>
    intro cs n hw hn
    have hl : (setW cs w).length = cs.length := by simp [setW]
    rw [List.foldl_cons, ih (setW cs w) n (fun v hv => by rw [hl]; exact hw v (by simp [hv])) (by rw [hl]; exact hn)]
    rw [lookW_cons]
    have h0 := hw w (by simp)
    cases lookW ws n with
    | some t => rfl
    | none =>
      simp only [Option.getD_none]
      by_cases h : w.fAt = (n : Int)
      · rw [if_pos h]
        have : w.fAt.toNat = n := by omega
        simp [setW, this, List.getD, hn]
      · rw [if_neg h]
        have : w.fAt.toNat ≠ n := by omega
        simp [setW, List.getD, List.getElem?_set_ne this]
theorem flush_look (d : DiskD) (n : Nat) (hw : ∀ w ∈ d.fWaits, 0 ≤ w.fAt ∧ w.fAt < d.fCells.length) (hn : n < d.fCells.length) : d.flush.look n = d.look n := by
  unfold DiskD.look DiskD.flush
  simp only [lookW, Option.getD_none]
  exact foldl_look _ _ _ hw hn
theorem flush_len (ws : List WaitD) : ∀ cs : List ByteArray, (ws.foldl setW cs).length = cs.length := by
  induction ws with
  | nil => intro cs; rfl
  | cons w ws ih => intro cs; rw [List.foldl_cons, ih]; simp [setW]
end Go.Proofs.Ytfijfjjleelphaa
