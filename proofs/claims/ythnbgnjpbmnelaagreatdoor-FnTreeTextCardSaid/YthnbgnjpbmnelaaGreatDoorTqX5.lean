/- A part of the proof in YthnbgnjpbmnelaaGreatDoorTqX34. -/
import Derived.IntWalk
import Derived.Still
import Derived.StillTail
import Derived.Test.YthnbgnjpbmnelaaGreatDoorTqX4
namespace Go.Proofs.YthnbgnjpbmnelaaGreatDoor
open List (flatMap_cons length_set map_cons mem_cons)
open Option (getD_some)
set_option linter.unusedVariables false
set_option linter.unusedSimpArgs false
set_option maxHeartbeats 1000000
set_option maxRecDepth 100000
open Go.RowKit
def lk : List (Nat × Value) → Nat → Option Value
 | [], _ => none
 | (j, v) :: r, k => bif Nat.beq j k then some v else lk r k
structure Fr (N : Nat) (a : Act) (l : List (Nat × Value)) : Prop where
  sz : a.tmps.size = N
  df : a.defers = []
  at_ : ∀ k v, lk l k = some v → a.tmps[k]? = some v
def evO (l : List (Nat × Value)) : Operand → Option Value
 | .tmp k => lk l k
 | .const v => some v
 | .func f => some (.func (.func f) #[] #[])
 | .global g => some (.pointer (some ⟨g, 0, none⟩))
theorem Fr.ev {N : Nat} {a : Act} {l : List (Nat × Value)} (h : Fr N a l) {x : Operand} {v : Value} (hx : evO l x = some v) : a.eval x = v := by
 cases x with
 | tmp k => simp only [Act.eval, Array.getD_eq_getD_getElem?, h.at_ k v hx, getD_some]
 | const u => exact Option.some.inj hx
 | func f => exact Option.some.inj hx
 | global g => exact Option.some.inj hx
theorem Fr.put {N : Nat} {a : Act} {l : List (Nat × Value)} (h : Fr N a l) {d : Nat} (hd : d < N) (v : Value) : Fr N (a.put (some d) v) ((d, v) :: l) := by
 refine ⟨by rw [Zk5]; exact h.sz, by rw [Zh5]; exact h.df, fun k u hu => ?_⟩;unfold lk at hu
 cases hb : Nat.beq d k with
 | true =>
  rw [hb] at hu;obtain rfl := Nat.eq_of_beq_eq_true hb;obtain rfl := Option.some.inj hu;have := h.sz;simp [Act.put, Array.getElem?_setIfInBounds, this, hd]
 | false =>
  rw [hb] at hu;rw [Zm1 a d v k (fun e => by subst e; simp at hb)];exact h.at_ k u hu
theorem Fr.sub {N : Nat} {a : Act} {l l' : List (Nat × Value)} (h : Fr N a l) (hs : ∀ p ∈ l', lk l p.1 = some p.2) : Fr N a l' := by
 refine ⟨h.sz, h.df, fun k v hv => h.at_ k v ?_⟩;have key : ∀ l' : List (Nat × Value), (∀ p ∈ l', lk l p.1 = some p.2) → lk l' k = some v → lk l k = some v := by
  intro l'
  induction l' with
  | nil => intro _ hv; cases hv
  | cons p r ih =>
   obtain ⟨j, u⟩ := p;intro hs hv;unfold lk at hv
   cases hb : Nat.beq j k with
   | true =>
    rw [hb] at hv;obtain rfl := Nat.eq_of_beq_eq_true hb;rw [hs (j, u) (by simp)]; exact hv
   | false =>
    rw [hb] at hv;exact ih (fun p hp => hs p (by simp [hp])) hv
 exact key l' hs hv
theorem Fr.start {tmps : Array Value} {l : List (Nat × Value)} {N : Nat} (hN : tmps.size = N) (hl : ∀ p ∈ l, tmps[p.1]? = some p.2) : Fr N { tmps := tmps, defers := [] } l := by
 refine ⟨hN, rfl, fun k v hv => ?_⟩;have key : ∀ l : List (Nat × Value), (∀ p ∈ l, tmps[p.1]? = some p.2) → lk l k = some v → tmps[k]? = some v := by
  intro l
  induction l with
  | nil => intro _ hv; cases hv
  | cons p r ih =>
   obtain ⟨j, u⟩ := p;intro hs hv;unfold lk at hv
   cases hb : Nat.beq j k with
   | true =>
    rw [hb] at hv;obtain rfl := Nat.eq_of_beq_eq_true hb;obtain rfl := Option.some.inj hv;exact hs (j, u) (by simp)
   | false =>
    rw [hb] at hv;exact ih (fun p hp => hs p (by simp [hp])) hv
 exact key l hl hv
theorem Fr.yield {N : Nat} {a : Act} {l : List (Nat × Value)} (h : Fr N a l) {ops : Array Oper} {g d : Nat} (hg : (ops[g]?).bind (·.dst) = some d) {b : Bool} (hb : lk l d = some (.bool b)) : yielded ops a.tmps g = some b := by
 simp [yielded, hg, h.at_ d _ hb]
theorem J1 {o : Oper} {y : Nat → Option Bool} (hg : o.guard = none) : Region.wanted o y = true := by simp [Region.wanted, hg]
theorem Fr.want {N : Nat} {a : Act} {l : List (Nat × Value)} (h : Fr N a l) {o : Oper} {ops : Array Oper} {g d : Nat} {b : Bool} (ho : o.guard = some (g, b)) (hg : (ops[g]?).bind (·.dst) = some d) (hb : lk l d = some (.bool b)) : Region.wanted o (yielded ops a.tmps) = true := by
 simp [Region.wanted, ho, h.yield hg hb]
theorem Fr.skip {N : Nat} {a : Act} {l : List (Nat × Value)} (h : Fr N a l) {o : Oper} {ops : Array Oper} {g d : Nat} {b c : Bool} (ho : o.guard = some (g, b)) (hg : (ops[g]?).bind (·.dst) = some d) (hb : lk l d = some (.bool c)) (hc : (c == b) = false) : Region.wanted o (yielded ops a.tmps) = false := by
 have : ¬ c = b := by simpa using hc
 simp [Region.wanted, ho, h.yield hg hb, this]
def Yl (P : Program) (w : World) (o : Oper) (a : Act) (v : Value) : Prop := (execOp a.eval o).run P w = .ok (.value v) w
section
variable {P : Program} {w : World} {o : Oper} {a : Act} {x y z : Operand} {t t' : TypeId}
theorem YV (ho : o.op = .move x) {v : Value} (hx : a.eval x = v) : Yl P w o a v := by simp [Yl, execOp, ho, hx]
theorem ZeN (ho : o.op = .assign x) {v : Value} (hx : a.eval x = v) : Yl P w o a v := by simp [Yl, execOp, ho, hx]
theorem ZjO (ho : o.op = .pick z x y) (hz : a.eval z = .bool true) {v : Value} (hx : a.eval x = v) : Yl P w o a v := by simp [Yl, execOp, ho, hx, hz, asBool]
theorem ZjP (ho : o.op = .pick z x y) (hz : a.eval z = .bool false) {v : Value} (hy : a.eval y = v) : Yl P w o a v := by simp [Yl, execOp, ho, hy, hz, asBool]
theorem Zol (ho : o.op = .unOp .not t x) {b : Bool} (hx : a.eval x = .bool b) : Yl P w o a (.bool !b) := by simp [Yl, execOp, ho, hx, Op.unary]
theorem Qh (ho : o.op = .nilCheck x) {p : Addr} (hx : a.eval x = .pointer (some p)) : Yl P w o a (.pointer (some p)) := by simp [Yl, execOp, ho, hx]
theorem Zh6 {i : Nat} (ho : o.op = .extract x i) {vs : Array Value} (hx : a.eval x = .tuple vs) {v : Value} (hv : vs[i]? = some v) : Yl P w o a v := by simp [Yl, execOp, ho, hx, Instr.extract, hv]
section
variable {k : IntKind} {m n : Int}
theorem Zm2 (ho : o.op = .binOp .eql t x y t') (hx : a.eval x = .int k m) (hy : a.eval y = .int k n) : Yl P w o a (.bool (m == n)) := by simp [Yl, execOp, ho, hx, hy, eqGuard, binOp, Op.intCmp]
theorem Zm3 (ho : o.op = .binOp .neq t x y t') (hx : a.eval x = .int k m) (hy : a.eval y = .int k n) : Yl P w o a (.bool (m != n)) := by simp [Yl, execOp, ho, hx, hy, eqGuard, binOp, Op.intCmp]
theorem Zm4 (ho : o.op = .binOp .lss t x y t') (hx : a.eval x = .int k m) (hy : a.eval y = .int k n) : Yl P w o a (.bool (decide (m < n))) := by simp [Yl, execOp, ho, hx, hy, eqGuard, binOp, Op.intCmp]
theorem Zm5 (ho : o.op = .binOp .leq t x y t') (hx : a.eval x = .int k m) (hy : a.eval y = .int k n) : Yl P w o a (.bool (decide (m ≤ n))) := by simp [Yl, execOp, ho, hx, hy, eqGuard, binOp, Op.intCmp]
theorem Zm6 (ho : o.op = .binOp .gtr t x y t') (hx : a.eval x = .int k m) (hy : a.eval y = .int k n) : Yl P w o a (.bool (decide (n < m))) := by simp [Yl, execOp, ho, hx, hy, eqGuard, binOp, Op.intCmp]
theorem Zm7 (ho : o.op = .binOp .geq t x y t') (hx : a.eval x = .int k m) (hy : a.eval y = .int k n) : Yl P w o a (.bool (decide (n ≤ m))) := by simp [Yl, execOp, ho, hx, hy, eqGuard, binOp, Op.intCmp]
theorem YO (ho : o.op = .binOp .add t x y t') (hx : a.eval x = .int k m) (hy : a.eval y = .int k n) {r : Int} (hr : k.wrap (m + n) = r) : Yl P w o a (.int k r) := by simp [Yl, execOp, ho, hx, hy, eqGuard, binOp, Op.intArith, hr]
theorem ZJ (ho : o.op = .binOp .sub t x y t') (hx : a.eval x = .int k m) (hy : a.eval y = .int k n) {r : Int} (hr : k.wrap (m - n) = r) : Yl P w o a (.int k r) := by simp [Yl, execOp, ho, hx, hy, eqGuard, binOp, Op.intArith, hr]
theorem Xm (ho : o.op = .binOp .mul t x y t') (hx : a.eval x = .int k m) (hy : a.eval y = .int k n) {r : Int} (hr : k.wrap (m * n) = r) : Yl P w o a (.int k r) := by simp [Yl, execOp, ho, hx, hy, eqGuard, binOp, Op.intArith, hr]
theorem J2 (ho : o.op = .binOp .quo t x y t') (hx : a.eval x = .int k m) (hy : a.eval y = .int k n) (hn : n ≠ 0) {r : Int} (hr : k.wrap (m.tdiv n) = r) : Yl P w o a (.int k r) := by simp [Yl, execOp, ho, hx, hy, eqGuard, binOp, Op.intDiv, hn, hr]
theorem Qx (ho : o.op = .binOp .rem t x y t') (hx : a.eval x = .int k m) (hy : a.eval y = .int k n) (hn : n ≠ 0) {r : Int} (hr : m.tmod n = r) : Yl P w o a (.int k r) := by simp [Yl, execOp, ho, hx, hy, eqGuard, binOp, Op.intDiv, hn, hr]
end
section
variable {m n : ByteArray}
theorem Yq (ho : o.op = .binOp .eql t x y t') (hx : a.eval x = .string m) (hy : a.eval y = .string n) : Yl P w o a (.bool (m.toList == n.toList)) := by simp [Yl, execOp, ho, hx, hy, eqGuard, binOp, Op.stringOp]
theorem Xn (ho : o.op = .binOp .neq t x y t') (hx : a.eval x = .string m) (hy : a.eval y = .string n) : Yl P w o a (.bool !(m.toList == n.toList)) := by simp [Yl, execOp, ho, hx, hy, eqGuard, binOp, Op.stringOp]
theorem ZB (ho : o.op = .binOp .add t x y t') (hx : a.eval x = .string m) (hy : a.eval y = .string n) (hs : m.size + n.size ≤ 9223372036854775807) : Yl P w o a (.string (m ++ n)) := by
 have : ¬ (((m.size + n.size : Nat) : Int) > IntKind.i64.max) := by show ¬ (_ > (9223372036854775807 : Int)); omega
 simp [Yl, execOp, ho, hx, hy, eqGuard, binOp, Op.stringOp, this] <;> first | omega | skip
end
def Jv (P : Program) (t : TypeId) (i : Nat) : Option Nat :=
 match P.underlying t with
 | some (.struct fs) => match fs[i]? with
  | some f => match P.info? f.type with
   | some inf => if inf.size = 0 then none else some f.offset
   | none => none
  | none => none
 | _ => none
def Yv (P : Program) (t : TypeId) : Option (TypeId × Nat) :=
 match P.underlying t with
 | some (.slice e) => match P.info? e with
  | some inf => some (e, inf.size)
  | none => none
 | _ => none
theorem Zbd {i : Nat} (ho : o.op = .fieldAddr t x i) {b k : Nat} (hx : a.eval x = .pointer (some ⟨b, k, none⟩)) {j : Nat} (hj : Jv P t i = some j) : Yl P w o a (.pointer (some ⟨b, k + j, none⟩)) := by
 unfold Jv at hj
 split at hj
 ·rename_i fs hu
  split at hj
  ·rename_i f hf
   split at hj
   ·rename_i inf hq
    split at hj
    ·cases hj
    ·rename_i hz
     obtain rfl := Option.some.inj hj;unfold Yl execOp;simp only [ho, hx, Instr.fieldAt, Sem.run_bind, run_underlying hu w, Result.andThen_ok, hf, Instr.sureAddr, Sem.run_pure];simp [fieldPlace, sizeOf, typeInfo, go_sem, hq, hz, Addr.add_mid]
   ·cases hj
  ·cases hj
 ·cases hj
theorem ZY (ho : o.op = .indexAddr t x y) {g off len cap : Nat} (hx : a.eval x = .slice (some ⟨g, off, none⟩) len cap) {k : IntKind} {m : Int} (hy : a.eval y = .int k m) {e : TypeId} {i size : Nat} (hu : Yv P t = some (e, size)) (hm : m = (i : Int)) (hi : i < len) : Yl P w o a (.pointer (some ⟨g, off + i * size, none⟩)) := by
 subst hm;unfold Yv at hu
 split at hu
 ·rename_i e' hu'
  split at hu
  ·rename_i inf hq
   obtain ⟨rfl, rfl⟩ := Prod.mk.inj (Option.some.inj hu);have h0 : (0 : Int) ≤ (i : Int) ∧ (i : Int) < (len : Int) := ⟨by omega, by omega⟩;unfold Yl execOp;simp only [ho, hx, hy, Instr.indexAt, Sem.run_bind, asIntOf, Sem.run_pure, run_underlying hu' w, Result.andThen_ok, if_pos h0];simp [sizeOf, typeInfo, go_sem, hq, Addr.add_mid, h0]
  ·cases hu
 ·cases hu
theorem QV (ho : o.op = .indexAddr t x y) {ao : Option Addr} {len cap : Nat} (hx : a.eval x = .slice ao len cap) {k : IntKind} {m : Int} (hy : a.eval y = .int k m) {e : TypeId} {i size : Nat} (hu : Yv P t = some (e, size)) (hm : m = (i : Int)) (hi : i < len) {g off : Nat} (hao : ao = some ⟨g, off, none⟩) : Yl P w o a (.pointer (some ⟨g, off + i * size, none⟩)) := by
 subst hao;exact ZY ho hx hy hu hm hi
theorem YG (ho : o.op = .index t x y) {s : ByteArray} (hx : a.eval x = .string s) {k : IntKind} {m : Int} (hy : a.eval y = .int k m) (hu : P.underlying t = some .string) {i : Nat} (hm : m = (i : Int)) (hi : i < s.size) : Yl P w o a (.int .u8 ((s.get! i).toNat : Int)) := by
 subst hm;have h1 : s[((i : Nat) : Int).toNat]? = some (s.get! i) := by
  simp only [Int.toNat_natCast];rw [getElem?_pos s i hi]
  congr 1
  simp [ByteArray.get!, hi]
  rfl
 have h0 : (0 : Int) ≤ (i : Int) := by omega
 unfold Yl execOp;simp only [ho, hx, hy, Instr.index, Sem.run_bind, asIntOf, Sem.run_pure, Result.andThen_ok, run_underlying hu w, if_pos h0, h1]
theorem Uq (ho : o.op = .convert t t' x) {n : Int} (hx : a.eval x = .int .u8 n) (hn : 0 ≤ n ∧ n ≤ 255) (hu : P.underlying t = some (.int .u8)) (hu' : P.underlying t' = some (.int .i64)) : Yl P w o a (.int .i64 n) := by
 unfold Yl execOp;simp only [ho, hx];simp [convert, go_sem, run_underlying hu w, run_underlying hu' w];exact IntWalk.i64_in _ (by omega)
theorem ZI (ho : o.op = .call { callee := .builtin .len, args := #[x], argTypes := #[t] }) {s : ByteArray} (hx : a.eval x = .string s) (hu : P.underlying t = some .string) : Yl P w o a (.int .i64 s.size) := by
 unfold Yl execOp;simp only [ho, resolve, List.map_toArray, map_cons, List.map_nil, hx, Sem.run_bind, Sem.run_pure, Result.andThen_ok, invoke, builtin, Builtin.len_, List.getElem?_toArray, List.getElem?_cons_zero, run_underlying hu w];simp [Builtin.len_, go_sem, run_underlying hu w, goInt]
theorem Zm8 (ho : o.op = .call { callee := .builtin .len, args := #[x], argTypes := #[t] }) {ao : Option Addr} {n cap : Nat} (hx : a.eval x = .slice ao n cap) {e : TypeId} {size : Nat} (hu : Yv P t = some (e, size)) : Yl P w o a (.int .i64 n) := by
 unfold Yv at hu
 split at hu
 ·rename_i e' hu'
  unfold Yl execOp;simp only [ho, resolve, List.map_toArray, map_cons, List.map_nil, hx, Sem.run_bind, Sem.run_pure, Result.andThen_ok, invoke, builtin];simp [Builtin.len_, go_sem, run_underlying hu' w, goInt]
 ·cases hu
def Yx (P : Program) (t : TypeId) : Bool :=
 (match P.underlying t with
 | some (.struct _) => false
 | some (.array _ _) => false
 | some _ => true
 | none => false) && (match P.info? t with
  | some inf => decide (inf.size = 1)
  | none => false)
def XH (P : Program) (t : TypeId) (n : Nat) : Bool :=
 (match P.underlying t with
 | some (.struct _) => true
 | some (.array _ _) => true
 | _ => false) && (match P.info? t with
  | some inf => decide (inf.size = n)
  | none => false)
theorem ZfM {P : Program} {t : TypeId} (h : Yx P t = true) (w : World) : (isAgg t).run P w = .ok false w := by
 unfold Yx at h;rw [Bool.and_eq_true] at h;obtain ⟨h, _⟩ := h
 cases hu : P.underlying t with
 | none => rw [hu] at h; cases h
 | some d =>
  rw [hu] at h;unfold isAgg;rw [Sem.run_bind, run_underlying hu w]
  cases d <;> first | (simp at h; done) | simp
theorem ZgE {P : Program} {t : TypeId} (h : Yx P t = true) : (P.info? t).map (·.size) = some 1 := by
 unfold Yx at h;rw [Bool.and_eq_true] at h;obtain ⟨_, h⟩ := h
 cases hq : P.info? t with
 | none => rw [hq] at h; cases h
 | some inf => rw [hq] at h; simpa using h
theorem X9 {P : Program} {t : TypeId} {n : Nat} (h : XH P t n = true) : (∃ d, P.underlying t = some d ∧ d.isRow = true) ∧ (P.info? t).map (·.size) = some n := by
 unfold XH at h;rw [Bool.and_eq_true] at h;obtain ⟨h1, h2⟩ := h
 constructor
 ·cases hu : P.underlying t with
  | none => rw [hu] at h1; cases h1
  | some d =>
   rw [hu] at h1;refine ⟨d, rfl, ?_⟩
   cases d <;> first | (simp at h1; done) | rfl
 ·cases hq : P.info? t with
  | none => rw [hq] at h2; cases h2
  | some inf => rw [hq] at h2; simpa using h2
theorem J3 (ho : o.op = .load t x) {p : Addr} (hx : a.eval x = .pointer (some p)) {v : Value} (hc : w.cell? p = some v) (hs : Yx P t = true) : Yl P w o a v := by
 unfold Yl execOp;simp only [ho, hx, Instr.loadAt, Instr.sureAddr, loadVar, Sem.run_bind, Sem.run_pure, Result.andThen_ok, ZfM hs w];simp [go_sem, hc]
theorem Vq (ho : o.op = .load t x) {b k : Nat} (hx : a.eval x = .pointer (some ⟨b, k, none⟩)) {cs : List Value} (hc : w.rangeAt b k cs) (hs : XH P t cs.length = true) : Yl P w o a (.agg cs.toArray) := by
 obtain ⟨⟨d, hu, hd⟩, hi⟩ := X9 hs;unfold Yl execOp;simp only [ho, hx, Sem.run_bind, run_loadAt_mid w b k t cs d hc hu hd hi, Result.andThen_ok, Sem.run_pure]
def Zh7 (P : Program) (t : TypeId) (parts : List (Nat × Value)) : Option (Array Value) :=
 match P.info? t with
 | none => none
 | some inf => match inf.zero with
  | none => none
  | some z => match P.underlying t with
   | some (.struct fs) => match fs.toList.mapM (fun f => (P.info? f.type).map fun g => (f.offset, g.size)) with
    | some places => Instr.fill (places.toArray[·]?) z.cells parts
    | none => none
   | _ => none
theorem Jw {P : Program} {t : TypeId} {g : TypeInfo} (hq : P.info? t = some g) (w : World) : (sizeOf t).run P w = .ok g.size w := by
 simp [sizeOf, typeInfo, go_sem, hq]
theorem Zdj {P : Program} {t : TypeId} {g : TypeInfo} (hq : P.info? t = some g) {z : Value} (hz : g.zero = some z) (w : World) : (zeroValue t).run P w = .ok z w := by
 simp [zeroValue, typeInfo, go_sem, hq, hz]
theorem Zdk {P : Program} (w : World) : ∀ (fs : List Field) (places : List (Nat × Nat)), fs.mapM (fun f => (P.info? f.type).map fun g => (f.offset, g.size)) = some places →
  (fs.mapM (fun f => do pure (f.offset, ← sizeOf f.type)) : Sem (List (Nat × Nat))).run P w = .ok places w
 | [], places, h => by
  obtain rfl : [] = places := by simpa using h
  simp
 | f :: fs, places, h => by
  rw [List.mapM_cons] at h
  cases hq : P.info? f.type with
  | none => rw [hq] at h; cases h
  | some g =>
   rw [hq] at h
   cases hr : fs.mapM (fun f => (P.info? f.type).map fun g => (f.offset, g.size)) with
   | none => rw [hr] at h; cases h
   | some ps =>
    rw [hr] at h;obtain rfl : (f.offset, g.size) :: ps = places := by simpa using h
    rw [List.mapM_cons];simp only [Sem.run_bind, Jw hq w, Result.andThen_ok, Sem.run_pure, Zdk w fs ps hr]
theorem Zk7 {N : Nat} {l : List (Nat × Value)} (hF : Fr N a l) {ps0 : Array (Nat × Operand)} (ho : o.op = .build t ps0) {ps : List (Nat × Value)} (hp : ps0.toList.mapM (fun p => (evO l p.2).map fun v => (p.1, v)) = some ps) {cs : Array Value} (hb : Zh7 P t ps = some cs) : Yl P w o a (.agg cs) := by
 have hps : (ps0.map fun (i, x) => (i, a.eval x)).toList = ps := by
  rw [Array.toList_map];have key : ∀ (ys : List (Nat × Operand)) (vs : List (Nat × Value)), ys.mapM (fun p => (evO l p.2).map fun v => (p.1, v)) = some vs → ys.map (fun (i, x) => (i, a.eval x)) = vs := by
   intro ys
   induction ys with
   | nil => intro vs hv; simpa using hv
   | cons y r ih =>
    obtain ⟨yi, yx⟩ := y;intro vs hv;rw [List.mapM_cons] at hv
    cases h1 : evO l yx with
    | none => rw [h1] at hv; cases hv
    | some v =>
     rw [h1] at hv
     cases h2 : r.mapM (fun p => (evO l p.2).map fun v => (p.1, v)) with
     | none => rw [h2] at hv; cases hv
     | some us =>
      rw [h2] at hv;obtain rfl : (yi, v) :: us = vs := by simpa using hv
      rw [map_cons, ih us h2];show (yi, a.eval yx) :: us = _;rw [hF.ev h1]
  exact key _ _ hp
 unfold Zh7 at hb
 split at hb
 ·cases hb
 ·rename_i inf hq
  split at hb
  ·cases hb
  ·rename_i z hz
   split at hb
   ·rename_i fs hu
    split at hb
    ·rename_i places hpl
     have hrun := Zdk (P := P) w fs.toList places hpl;unfold Yl execOp;simp only [ho];unfold Instr.build;rw [hps];have hm : (fs.mapM (fun f => do pure (f.offset, ← sizeOf f.type)) : Sem (Array (Nat × Nat))).run P w = .ok places.toArray w := by
      have := Array.mapM_eq_mapM_toList (m := Sem) (f := fun f : Field => do pure (f.offset, ← sizeOf f.type)) (xs := fs);rw [this];simp only [map_eq_pure_bind, Sem.run_bind, hrun, Result.andThen_ok, Sem.run_pure]
     simp only [Sem.run_bind, Zdj hq hz w, Result.andThen_ok, run_underlying hu w, hm, hb, Sem.run_pure]
    ·cases hb
   ·cases hb
end
section
variable {P : Program} {ops : Array Oper} {Q : Exit → Act → World → Prop} {rest : List Oper} {o : Oper} {a : Act} {w W : World} {N : Nat} {l : List (Nat × Value)} {s : List Asr}
theorem Zb2 (cs : List Value) (h : (cs.all fun u => u.oneCell') = true) {n : Nat} (hn : cs.length = n) : Cells n (.agg cs.toArray) := ⟨cs, rfl, hn, fun u hu => List.all_eq_true.1 h u hu⟩
theorem ZoW (hg : o.guard = none) (hF : Fr N a l) {d : Nat} (hd : o.dst = some d) (hN : Nat.blt d N = true) {v : Value} (hy : Yl P w o a v) (h : ∀ a', Fr N a' ((d, v) :: l) → wpList P ops Q rest a' w) : wpList P ops Q (o :: rest) a w := by
 refine wpList_plain hg fun K hK => ?_;unfold Oper.wp;rw [show (execOp a.eval o).run P w = _ from hy];exact hK _ _ (hd ▸ h _ (hF.put (Nat.le_of_ble_eq_true hN) v))
theorem ZoX (hF : Fr N a l) {g dg d : Nat} {b : Bool} (hgd : o.guard = some (g, b)) (hgo : (ops[g]?).bind (·.dst) = some dg) (hgv : lk l dg = some (.bool b)) (hd : o.dst = some d) (hN : Nat.blt d N = true) {v : Value} (hy : Yl P w o a v) (h : ∀ a', Fr N a' ((d, v) :: l) → wpList P ops Q rest a' w) : wpList P ops Q (o :: rest) a w := by
 refine wpList_step fun K hK => ?_;rw [if_pos (hF.want hgd hgo hgv)];unfold Oper.wp;rw [show (execOp a.eval o).run P w = _ from hy];exact hK _ _ (hd ▸ h _ (hF.put (Nat.le_of_ble_eq_true hN) v))
theorem ZeO {t : TypeId} {inf : TypeInfo} (hq : P.info? t = some inf) {z : Value} (hz : inf.zero = some z) (w : World) : (Instr.alloc t true (.tuple #[])).run P w = .ok (.pointer (some ⟨w.heap.size, 0, none⟩)) (w.alloc (.cells z.cells t)) := by
 simp [Instr.alloc, zeroValue, typeInfo, newVar, newRow, go_sem, hq, hz]
def ZeP (P : Program) (t : TypeId) : Option (List Value) := (P.info? t).bind fun inf => inf.zero.map fun z => z.cells.toList
theorem Zk8 (hg : o.guard = none) (hF : Fr N a l) {t : TypeId} (ho : o.op = .alloc t) {d : Nat} (hd : o.dst = some d) (hN : Nat.blt d N = true) {Z : List Value} (hZ : ZeP P t = some Z) (h1 : (Z.all fun u => u.oneCell') = true) (hS : St W s w)
  (h : ∀ a' w' b, Fr N a' ((d, .pointer (some ⟨b, 0, none⟩)) :: l) → St W (boxA b Z.length t (.agg Z.toArray) :: s) w' → wpList P ops Q rest a' w') : wpList P ops Q (o :: rest) a w := by
 unfold ZeP at hZ
 cases hq : P.info? t with
 | none => rw [hq] at hZ; cases hZ
 | some inf =>
  rw [hq] at hZ;simp only [Option.bind_some] at hZ
  cases hz : inf.zero with
  | none => rw [hz] at hZ; cases hZ
  | some z =>
   rw [hz] at hZ;have hZ : z.cells.toList = Z := by simpa using hZ
   have hr := ZeO (P := P) hq hz w;rw [← Array.toArray_toList (xs := z.cells), hZ] at hr;refine wpList_plain hg fun K hK => ZcA t ho Z.toArray hr (hK _ _ (hd ▸ h _ _ _ (hF.put (Nat.le_of_ble_eq_true hN) _) (hS.alloc Z t h1)))
theorem Zk9 (hg : o.guard = none) (hF : Fr N a l) {t : TypeId} {x : Operand} (ho : o.op = .box t x) {v : Value} (hx : a.eval x = v) {Z : List Value} (hv : v.cells = Z.toArray) {d : Nat} (hd : o.dst = some d) (hN : Nat.blt d N = true) (h1 : (Z.all fun u => u.oneCell') = true) (hS : St W s w)
  (h : ∀ a' w' b, Fr N a' ((d, .pointer (some ⟨b, 0, none⟩)) :: l) → St W (boxA b Z.length t (.agg Z.toArray) :: s) w' → wpList P ops Q rest a' w') : wpList P ops Q (o :: rest) a w := by
 refine wpList_plain hg fun K hK => ?_;have hr : (execOp a.eval o).run P w = .ok (.value (.pointer (some ⟨w.heap.size, 0, none⟩))) (w.alloc (.cells Z.toArray t)) := by
  unfold execOp;simp only [ho, hx, Instr.box, newVar, hv];simp [newRow, go_sem]
 unfold Oper.wp;rw [hr];exact hK _ _ (hd ▸ h _ _ _ (hF.put (Nat.le_of_ble_eq_true hN) _) (hS.alloc Z t h1))
theorem Zla (hg : o.guard = none) (hF : Fr N a l) {t : TypeId} (ho : o.op = .buildSlice t 0 #[]) {d : Nat} (hd : o.dst = some d) (hN : Nat.blt d N = true) {e : TypeId} {size : Nat} (hu : Yv P t = some (e, size)) (hS : St W s w)
  (h : ∀ a' w' b, Fr N a' ((d, .slice (some ⟨b, 0, none⟩) 0 0) :: l) → St W s w' → wpList P ops Q rest a' w') : wpList P ops Q (o :: rest) a w := by
 unfold Yv at hu
 split at hu
 ·rename_i e' hu'
  split at hu
  ·rename_i inf hq
   refine wpList_plain hg fun K hK => ?_;have hr : (execOp a.eval o).run P w = .ok (.value (.slice (some ⟨w.heap.size, 0, none⟩) 0 0)) (w.alloc (.cells #[] e')) := by
    unfold execOp;simp only [ho, Instr.buildSlice, Sem.run_bind, run_underlying hu' w, Result.andThen_ok, Jw hq w];simp [Instr.fill, newRow, go_sem]
   unfold Oper.wp;rw [hr];exact hK _ _ (hd ▸ h _ _ _ (hF.put (Nat.le_of_ble_eq_true hN) _) (hS.later ((Below.refl _ _).alloc (Nat.le_refl _) _)))
  ·cases hu
 ·cases hu
theorem ZgF (hg : o.guard = none) (hF : Fr N a l) {t : TypeId} {x y : Operand} (ho : o.op = .store t x y) (hd : o.dst = none) {b n : Nat} {T : TypeId} {u v : Value} (hx : a.eval x = .pointer (some ⟨b, 0, none⟩)) (hy : a.eval y = v) (hS : St W s w) (i : Nat) (hi : s[i]? = some (boxA b n T u)) (hv : Cells n v) (hn : XH P t n = true)
  (h : ∀ w', St W (s.set i (boxA b n T v)) w' → wpList P ops Q rest a w') : wpList P ops Q (o :: rest) a w := by
 refine wpList_plain hg fun K hK => Zba t x y ho b n T u v hx hy (hS.box i hi) hv (X9 hn).2 fun w' hB hO _ => ?_;rw [hd];exact hK _ _ (h w' (hS.putBox i hi hB hO))
theorem ZaB {t : TypeId} (hs : Yx P t = true) {p : Addr} {u v : Value} (hc : w.cell? p = some u) (hf : w.frozen? p = false) (hv : v.oneCell' = true) : (Instr.storeAt t (.pointer (some p)) v).run P w = .ok () (w.setCell p v) := by
 have h1 : v.cells.size = 1 ∧ v.cells.toList = [v] := by
  cases v <;> first | (simp [Value.oneCell'] at hv; done) | exact ⟨rfl, rfl⟩
 have hsz := ZgE hs
 cases hq : P.info? t with
 | none => rw [hq] at hsz; cases hsz
 | some inf =>
  rw [hq] at hsz;have hsz : inf.size = 1 := by simpa using hsz
  simp only [Instr.storeAt, Instr.sureAddr, storeVar, h1.1, h1.2];simp [sizeOf, typeInfo, go_sem, hq, hsz, storeCells];rw [run_store P w p v _ hv, hc];simp [hf]
theorem ZeQ (hg : o.guard = none) {t : TypeId} {x y : Operand} (ho : o.op = .store t x y) (hd : o.dst = none) {p : Addr} {u v : Value} (hx : a.eval x = .pointer (some p)) (hy : a.eval y = v) (hs : Yx P t = true) (hc : w.cell? p = some u) (hf : w.frozen? p = false) (hv : v.oneCell' = true)
  (h : wpList P ops Q rest a (w.setCell p v)) : wpList P ops Q (o :: rest) a w := by
 refine wpList_plain hg fun K hK => ?_;have hr : (execOp a.eval o).run P w = .ok .skip (w.setCell p v) := by
  unfold execOp;simp only [ho, hx, hy];simp [Sem.run_bind, ZaB hs hc hf hv]
 unfold Oper.wp;rw [hr];show K (a.put o.dst undef) _;rw [hd];exact hK _ _ h
theorem ZjQ (hg : o.guard = none) {t : TypeId} {x y : Operand} (ho : o.op = .store t x y) (hd : o.dst = none) {b k n : Nat} {T : TypeId} {A : Array Value} {v : Value} (hx : a.eval x = .pointer (some ⟨b, k, none⟩)) (hy : a.eval y = v) (hs : Yx P t = true) (hS : St W s w) (i : Nat) (hi : s[i]? = some (boxA b n T (.agg A))) (hk : Nat.blt k A.size = true) (hv : v.oneCell' = true)
  (h : ∀ w', St W (s.set i (boxA b n T (.agg (A.setIfInBounds k v)))) w' → wpList P ops Q rest a w') : wpList P ops Q (o :: rest) a w := by
 have hk : k < A.size := Nat.le_of_ble_eq_true hk;exact ZeQ hg ho hd hx hy hs ((hS.box i hi).cell k |>.trans (Array.getElem?_eq_getElem hk)) ((hS.box i hi).frozen k) hv (h _ (hS.putField i hi k hv))
theorem Zi3 (hg : o.guard = none) (hF : Fr N a l) {f : FuncId} {xs : Array Operand} {ts : Array TypeId} (ho : o.op = .call { callee := .value (.func f), args := xs, argTypes := ts }) (hc : ∀ (args : Array Value) (w : World), (callFunc f args).run P w = .ok (.enter f args) w)
  {args : Array Value} (hx : xs.toList.mapM (evO l) = some args.toList) {R : Ending → World → Prop} (hR : Calls P f args w R) {d : Nat} (hd : o.dst = some d) (hN : Nat.blt d N = true)
  (h : ∀ e w', R e w' → ∃ v, e = .returned v ∧ ∀ a', Fr N a' ((d, v) :: l) → wpList P ops Q rest a' w') : wpList P ops Q (o :: rest) a w := by
 have he : xs.map a.eval = args := by
  have key : ∀ (ys : List Operand) (vs : List Value), ys.mapM (evO l) = some vs → ys.map a.eval = vs := by
   intro ys
   induction ys with
   | nil => intro vs hv; simpa using hv
   | cons y r ih =>
    intro vs hv;rw [List.mapM_cons] at hv
    cases h1 : evO l y with
    | none => rw [h1] at hv; cases hv
    | some v =>
     rw [h1] at hv
     cases h2 : r.mapM (evO l) with
     | none => rw [h2] at hv; cases hv
     | some us =>
      rw [h2] at hv;obtain rfl : v :: us = vs := by simpa using hv
      rw [map_cons, hF.ev h1, ih us h2]
  apply Array.toList_inj.1
  rw [Array.toList_map];exact key _ _ hx
 refine wpList_plain hg fun K hK => UW f xs ts ho hc ?_;rw [he];refine hR.mono fun e w' hr => ?_;obtain ⟨v, hv, hk⟩ := h e w' hr;exact ⟨v, hv, hK _ _ (hd ▸ hk _ (hF.put (Nat.le_of_ble_eq_true hN) v))⟩
theorem Box.sub {w : World} {b n : Nat} {t : TypeId} {A : Array Value} (h : Box w b n t (.agg A)) (k m : Nat) : w.rangeAt b k ((A.toList.drop k).take m) := fun j v hv => by
 rw [h.cell (k + j)];rw [List.getElem?_take] at hv
 split at hv
 ·rw [List.getElem?_drop] at hv
  simpa using hv
 ·cases hv
end
section
variable {P : Program} {K : Act → World → Prop} {Q : Exit → Act → World → Prop} {a : Act} {w : World}
theorem YW (h : K a w) : Exit.then K Q .normal a w := h
theorem Zlb {i : Nat} (h : Q .normal a w) : Exit.inBlock i Q .normal a w := h
theorem ZcB (h : Q .ret a w) : Exit.then K Q .ret a w := h
theorem ZfN {i : Nat} (h : Q .normal a w) : Exit.inBlock i Q (.exit i) a w := by simpa [Exit.inBlock] using h
def ZfO (P : Program) (a : Act) (w : World) : ResultVar → Value → Prop
 | .tmp t, v => a.tmps.getD t undef = v
 | .cell k t, v => ∃ p, a.tmps.getD k undef = .pointer (some p) ∧ (loadVar t p).run P w = .ok v w
theorem Fr.res {N : Nat} {l : List (Nat × Value)} (h : Fr N a l) {k : Nat} {v : Value} (hk : lk l k = some v) : ZfO P a w (.tmp k) v := h.ev (x := .tmp k) hk
theorem Fr.resBox {N : Nat} {l : List (Nat × Value)} (h : Fr N a l) {k t b n : Nat} (hk : lk l k = some (.pointer (some ⟨b, 0, none⟩))) {T : TypeId} {v : Value} (hb : Box w b n T v) (ht : XH P t n = true) : ZfO P a w (.cell k t) v := by
 obtain ⟨⟨d, hu, hd⟩, hi⟩ := X9 ht;exact ⟨_, h.ev (x := .tmp k) hk, Zc0 hb t d hu hd hi⟩
def Zi4 (tmps : Array Value) : ResultVar → Sem Value
 | .tmp t => pure (tmps.getD t undef)
 | .cell k t => do loadVar t (← asAddr (tmps.getD k undef))
theorem Jx (fn : Func) (tmps : Array Value) : results fn tmps = (do let vs ← fn.results.mapM (Zi4 tmps); pure (if h : vs.size = 1 then vs[0] else .tuple vs)) := by
 unfold results
 congr 1
theorem Ji {r : ResultVar} {v : Value} (h : ZfO P a w r v) : (Zi4 a.tmps r).run P w = .ok v w := by
 cases r with
 | tmp t =>
  have h : a.tmps.getD t undef = v := h;simp only [Zi4, Sem.run_pure, h]
 | cell k t =>
  obtain ⟨p, h1, h2⟩ := h;simp only [Zi4, h1, asAddr, Sem.run_bind, Sem.run_pure, Result.andThen_ok, h2]
theorem Zi5 {fn : Func} {R : Ending → World → Prop} {N : Nat} {l : List (Nat × Value)} (hF : Fr N a l) (hr : fn.results = #[]) (h : R (.returned (.tuple #[])) w) : bodyPost P fn R .ret a w :=
 ⟨hF.df, _, by rw [Jx, hr]; simp, h⟩
theorem Zi6 {fn : Func} {R : Ending → World → Prop} {N : Nat} {l : List (Nat × Value)} (hF : Fr N a l) (hr : fn.results = #[]) (h : R (.returned (.tuple #[])) w) : bodyPost P fn R .normal a w :=
 ⟨hF.df, _, by rw [Jx, hr]; simp, h⟩
theorem ZA {fn : Func} {R : Ending → World → Prop} {N : Nat} {l : List (Nat × Value)} (hF : Fr N a l) {r1 : ResultVar} {v1 : Value} (hr : fn.results = #[r1]) (h1 : ZfO P a w r1 v1) (h : R (.returned v1) w) : bodyPost P fn R .ret a w :=
 ⟨hF.df, _, by rw [Jx, hr]; simp [Ji h1], h⟩
theorem Z7 {fn : Func} {R : Ending → World → Prop} {N : Nat} {l : List (Nat × Value)} (hF : Fr N a l) {r1 r2 : ResultVar} {v1 v2 : Value} (hr : fn.results = #[r1, r2]) (h1 : ZfO P a w r1 v1) (h2 : ZfO P a w r2 v2) (h : R (.returned (.tuple #[v1, v2])) w) : bodyPost P fn R .ret a w :=
 ⟨hF.df, _, by rw [Jx, hr]; simp [Ji h1, Ji h2], h⟩
theorem Zv {fn : Func} {R : Ending → World → Prop} {N : Nat} {l : List (Nat × Value)} (hF : Fr N a l) {r1 r2 r3 : ResultVar} {v1 v2 v3 : Value} (hr : fn.results = #[r1, r2, r3]) (h1 : ZfO P a w r1 v1) (h2 : ZfO P a w r2 v2) (h3 : ZfO P a w r3 v3) (h : R (.returned (.tuple #[v1, v2, v3])) w) : bodyPost P fn R .ret a w :=
 ⟨hF.df, _, by rw [Jx, hr]; simp [Ji h1, Ji h2, Ji h3], h⟩
theorem UX {N : Nat} {l : List (Nat × Value)} (hF : Fr N a l) {k : Nat} {x y : Code} (hk : lk l k = some (.bool true)) (h : x.wp P Q a w) : (Code.cond (.tmp k) x y).wp P Q a w := wp_cond_true (hF.ev (x := .tmp k) hk) h
theorem Vr {N : Nat} {l : List (Nat × Value)} (hF : Fr N a l) {k : Nat} {x y : Code} (hk : lk l k = some (.bool false)) (h : y.wp P Q a w) : (Code.cond (.tmp k) x y).wp P Q a w := wp_cond_false (hF.ev (x := .tmp k) hk) h
theorem Fr.know {N : Nat} {l : List (Nat × Value)} (hF : Fr N a l) {k : Nat} {t c : Bool} (hk : lk l k = some (.bool t)) (hc : t = c) : Fr N a ((k, .bool c) :: l) := by
 subst hc;refine ⟨hF.sz, hF.df, fun j v hv => ?_⟩;unfold lk at hv
 cases hb : Nat.beq k j with
 | true =>
  rw [hb] at hv;obtain rfl := Nat.eq_of_beq_eq_true hb;obtain rfl := Option.some.inj hv;exact hF.at_ _ _ hk
 | false =>
  rw [hb] at hv;exact hF.at_ j v hv
theorem Fr.cases {G : Prop} {N : Nat} {l : List (Nat × Value)} (hF : Fr N a l) (k : Nat) {t : Bool} (hk : lk l k = some (.bool t)) (h1 : t = true → Fr N a ((k, .bool true) :: l) → G) (h2 : t = false → Fr N a ((k, .bool false) :: l) → G) : G := by
 cases t with
 | true => exact h1 rfl (hF.know hk rfl)
 | false => exact h2 rfl (hF.know hk rfl)
def Zlc (l : List (Nat × Value)) : List (Nat × Value) → Prop
 | [] => True
 | p :: r => lk l p.1 = some p.2 ∧ Zlc l r
theorem Fr.less {N : Nat} {l : List (Nat × Value)} (h : Fr N a l) (l' : List (Nat × Value)) (hs : Zlc l l') : Fr N a l' :=
 h.sub fun p hp => by
  induction l' with
  | nil => cases hp
  | cons q r ih =>
   rcases mem_cons.1 hp with rfl | hp
   ·exact hs.1
   ·exact ih hs.2 hp
def Zh8 (args : Array Value) : List (Nat × Value) → Prop
 | [] => True
 | p :: r => args[p.1]? = some p.2 ∧ Zh8 args r
theorem ZeR {f : FuncId} {fn : Func} {c : Code} {args : Array Value} {R : Ending → World → Prop} (hf : P.funcs[f]? = some fn) (hb : fn.body = some c) {N : Nat} (hN : fn.ntmps = N) {l : List (Nat × Value)} (hl : ∀ p ∈ l, args[p.1]? = some p.2) (hs : args.size ≤ N)
  (h : ∀ a, Fr N a l → c.wp P (bodyPost P fn R) a w) : Calls P f args w R := by
 refine calls_of_wp hf hb (h _ (Fr.start ?_ fun p hp => ?_))
 ·subst hN; simp; omega
 ·have h1 := hl p hp
  have h2 : p.1 < args.size := (Array.getElem?_eq_some_iff.1 h1).1;rw [Array.getElem?_append_left h2]; exact h1
theorem ZcC {args : Array Value} : ∀ {l : List (Nat × Value)}, Zh8 args l → ∀ p ∈ l, args[p.1]? = some p.2
 | [], _, _, hp => by cases hp
 | q :: r, h, p, hp => by
  rcases mem_cons.1 hp with rfl | hp
  ·exact h.1
  ·exact ZcC h.2 p hp
theorem Zld {p : Nat → Prop} (h : ∃ n, p n) : ∃ n, p n ∧ ∀ m, p m → n ≤ m := by
 obtain ⟨n, hn⟩ := h
 induction n using Nat.strongRecOn with
 | _ n ih =>
  by_cases hx : ∃ m, m < n ∧ p m
  ·obtain ⟨m, hm, hp⟩ := hx
   exact ih m hm hp
  ·exact ⟨n, hn, fun m hm => Nat.le_of_not_lt fun hlt => hx ⟨m, hlt, hm⟩⟩
theorem Zs {c : Code} {ι : Type} (I : ι → Act → World → Prop) (μ : ι → Nat) (i0 : ι) (h0 : I i0 a w)
  (round : ∀ i a w, I i a w → c.wp P (Exit.then (fun a' w' => ∃ j, I j a' w' ∧ μ j < μ i) Q) a w) : (Code.loop c).wp P Q a w := by
 classical
 have hex : ∀ {a w} {i}, I i a w → ∃ n i, I i a w ∧ μ i = n := fun {a w i} h => ⟨μ i, i, h, rfl⟩
 refine wp_loop (fun a w => ∃ i, I i a w) (fun a w => if h : ∃ n i, I i a w ∧ μ i = n then Classical.choose (Zld h) else 0) ⟨i0, h0⟩ fun a w ⟨i, hi⟩ => ?_;have hx := hex hi;obtain ⟨⟨i1, h1, e1⟩, _⟩ := Classical.choose_spec (Zld hx);refine wp_mono (round i1 a w h1) fun e a' w' hq => ?_
 cases e with
 | normal =>
  obtain ⟨j, hj, hlt⟩ := hq;refine ⟨⟨j, hj⟩, ?_⟩;have hx' := hex hj;simp only [dif_pos hx, dif_pos hx'];have := (Classical.choose_spec (Zld hx')).2 (μ j) ⟨j, hj, rfl⟩
  omega
 | _ => exact hq
theorem XI {f : FuncId} {fn : Func} {c : Code} {args : Array Value} {R : Ending → World → Prop} (hf : P.funcs[f]? = some fn) (hb : fn.body = some c) {N : Nat} (hN : fn.ntmps = N) (l : List (Nat × Value)) (hl : Zh8 args l) (hs : Nat.ble args.size N = true)
  (h : ∀ a, Fr N a l → c.wp P (bodyPost P fn R) a w) : Calls P f args w R :=
 ZeR hf hb hN (ZcC hl) (Nat.le_of_ble_eq_true hs) h
theorem Qy {m n : Int} (hm : 0 ≤ m) (_hn : 0 < n) : m.tmod n = m % n := Int.tmod_eq_emod_of_nonneg hm
theorem J4 {m n : Int} (hm : 0 ≤ m) (hn : 0 < n) (hb : m ≤ 9223372036854775807) : IntKind.i64.wrap (m.tdiv n) = m / n := by
 rw [Int.tdiv_eq_ediv_of_nonneg hm];have h1 : 0 ≤ m / n := Int.ediv_nonneg hm (by omega);have h2 : m / n ≤ m := Int.ediv_le_self n hm;exact IntWalk.i64_in _ (by omega)
theorem Yb {x : Int} (h : -9223372036854775808 ≤ x ∧ x ≤ 9223372036854775807) : IntKind.i64.wrap x = x := IntWalk.i64_in _ h
end
section
variable {α : Type} {enc : α → List Value} {size : Nat} {e : TypeId} {W w : World} {s : List Asr}
theorem Zle (he : ∀ x, (enc x).length = size) (xs : List α) (j : Nat) (hj : j < xs.length) (x : α) : Xx (xs.flatMap enc) (j * size) (enc x) = (xs.set j x).flatMap enc := by
 unfold Xx;rw [ZjI enc size he, he, show j * size + size = (j + 1) * size by rw [Nat.add_mul]; omega, Zb1 enc size he, List.set_eq_take_append_cons_drop, if_pos hj, List.flatMap_append, flatMap_cons]
 simp
structure Rg {α : Type} (enc : α → List Value) (size : Nat) (W : World) (ao : Option Addr) (n g off : Nat) (xs : List α) : Prop where
  len : n = xs.length
  ao : ∀ j, j < n → ao = some ⟨g, off, none⟩
  at_ : ∀ j x, xs[j]? = some x → g < W.heap.size ∧ W.rangeAt g (off + j * size) (enc x)
theorem St.rdOf (h : St W s w) (he : ∀ x, (enc x).length = size) (i : Nat) {ao : Option Addr} {n cap : Nat} {xs : List α} (hi : s[i]? = some (Zg enc size e (.slice ao n cap) xs)) : Rd enc size w ao xs.length xs := by
 obtain ⟨_, _, e1, r⟩ := h.rdS he i hi;simp only [Value.slice.injEq] at e1;obtain ⟨rfl, rfl, rfl⟩ := e1;exact r
theorem Rd.opn {ao : Option Addr} {n : Nat} {xs : List α} (h : Rd enc size W ao n xs) : ∃ g off, Rg enc size W ao n g off xs := by
 by_cases h0 : 0 < xs.length
 ·obtain ⟨b, off, x, _, e1, hlt, _⟩ := h.at_ 0 h0
  refine ⟨b, off, h.len.symm, fun _ _ => e1, fun j x hx => ?_⟩;obtain ⟨b', off', y, hy, e2, _, hr⟩ := h.at_ j (List.getElem?_eq_some_iff.1 hx).1;rw [e1] at e2;simp only [Option.some.injEq, Addr.mk.injEq, and_true] at e2;obtain ⟨rfl, rfl⟩ := e2;obtain rfl := Option.some.inj (hx.symm.trans hy);exact ⟨hlt, hr⟩
 ·exact ⟨0, 0, h.len.symm, fun j hj => absurd hj (by have := h.len; omega), fun j x hx => absurd (List.getElem?_eq_some_iff.1 hx).1 (by omega)⟩
theorem Rg.elem {ao : Option Addr} {n g off : Nat} {xs : List α} (h : Rg enc size W ao n g off xs) (hS : St W s w) {j : Nat} {x : α} (hx : xs[j]? = some x) : w.rangeAt g (off + j * size) (enc x) :=
 Ye (h.at_ j x hx).2 hS.bel (h.at_ j x hx).1
theorem Rg.elem1 {enc : α → List Value} {ao : Option Addr} {n g off : Nat} {xs : List α} (h : Rg enc 1 W ao n g off xs) (hS : St W s w) {j : Nat} {x : α} (hx : xs[j]? = some x) {v : Value} (hv : enc x = [v]) : w.cell? ⟨g, off + j * 1, none⟩ = some v := by
 have := h.elem hS hx 0 v (by rw [hv]; rfl)
 simpa using this
theorem Zh {xs : List α} {d : α} {j : Nat} (h : j < xs.length) : xs[j]? = some (xs.getD j d) := by
 rw [List.getElem?_eq_getElem h]; simp [List.getD, h]
theorem St.elem (he : ∀ x, (enc x).length = size) (h : St W s w) (i : Nat) {g off n cap : Nat} {xs : List α} (hi : s[i]? = some (Zg enc size e (.slice (some ⟨g, off, none⟩) n cap) xs)) {j : Nat} {x : α} (hx : xs[j]? = some x) : w.rangeAt g (off + j * size) (enc x) := by
 obtain ⟨ao, cap', hv, hr⟩ := h.rdS he i hi;simp only [Value.slice.injEq] at hv;obtain ⟨rfl, rfl, rfl⟩ := hv;obtain ⟨b, o, y, hy, e1, _, hrg⟩ := hr.at_ j (List.getElem?_eq_some_iff.1 hx).1;simp only [Option.some.injEq, Addr.mk.injEq, and_true] at e1;obtain ⟨rfl, rfl⟩ := e1;obtain rfl := Option.some.inj (hx.symm.trans hy);exact hrg
theorem St.elem1 {enc : α → List Value} (he : ∀ x, (enc x).length = 1) (h : St W s w) (i : Nat) {g off n cap : Nat} {xs : List α} (hi : s[i]? = some (Zg enc 1 e (.slice (some ⟨g, off, none⟩) n cap) xs)) {j : Nat} {x : α} (hx : xs[j]? = some x) {v : Value} (hv : enc x = [v]) : w.cell? ⟨g, off + j * 1, none⟩ = some v := by
 have := h.elem he i hi hx 0 v (by rw [hv]; rfl)
 simpa using this
theorem St.rowOpen (h : St W s w) (i : Nat) {ao : Option Addr} {n cap : Nat} {xs : List α} (hi : s[i]? = some (Zg enc size e (.slice ao n cap) xs)) (hp : 0 < xs.length) :
  ∃ g, ao = some ⟨g, 0, none⟩ ∧ n = xs.length ∧ Value.rowBlock (.slice ao n cap) = some g ∧ w.ownsRow W.heap.size e size (.slice (some ⟨g, 0, none⟩) n cap) n (xs.flatMap enc) ∧ g < w.heap.size := by
 have hr := h.row i hi;obtain ⟨_, _, hv, _⟩ := id hr;simp only [Value.slice.injEq] at hv;obtain ⟨_, rfl, _⟩ := hv;obtain ⟨g, rfl, _, h2, _, h4, h5⟩ := hr.opn hp;exact ⟨g, rfl, rfl, h4, h5, h2⟩
theorem St.putRow (he : ∀ x, (enc x).length = size) (h : St W s w) (i : Nat) {g n cap : Nat} {xs : List α} (hi : s[i]? = some (Zg enc size e (.slice (some ⟨g, 0, none⟩) n cap) xs)) {j : Nat} (hj : j < xs.length) (x : α) :
  St W (s.set i (Zg enc size e (.slice (some ⟨g, 0, none⟩) n cap) (xs.set j x))) (w.setCells g (j * size) (enc x)) := by
 obtain ⟨g', e1, rfl, hb, ho, hlt⟩ := h.rowOpen i hi (by omega);simp only [Option.some.injEq, Addr.mk.injEq, and_true] at e1;subst e1;have hfl := Vl enc size he xs;have hj2 : j * size + size ≤ xs.length * size := by rw [← Nat.succ_mul]; exact Nat.mul_le_mul_right size hj
 obtain ⟨h1, h2⟩ := Zam (enc x) (j * size) w _ ho (by rw [he, hfl]; exact hj2);rw [Zle he xs j hj x] at h1;refine h.mutRow i hi (B := W.heap.size) ⟨_, cap, by rw [length_set], .inr (by rw [length_set]; exact h1), fun g' hg' => ?_⟩ (by rw [hb]; exact h2) fun g' hg' => .inl hg';rw [hb] at hg';obtain rfl := Option.some.inj hg';exact Nat.lt_of_lt_of_le hlt h2.size
section
variable {P : Program} {ops : Array Oper} {Q : Exit → Act → World → Prop} {rest : List Oper} {o : Oper} {a : Act}
theorem Yc {enc : α → List Value} (he : ∀ x, (enc x).length = 1) (hg : o.guard = none) {t : TypeId} {x y : Operand} (ho : o.op = .store t x y) (hd : o.dst = none) {g n cap j : Nat} {v : Value} (hx : a.eval x = .pointer (some ⟨g, 0 + j * 1, none⟩)) (hy : a.eval y = v) (hs : Yx P t = true) (hS : St W s w) (i : Nat) {xs : List α}
  (hi : s[i]? = some (Zg enc 1 e (.slice (some ⟨g, 0, none⟩) n cap) xs)) (hj : j < xs.length) {z : α} (hz : enc z = [v]) (hv : v.oneCell' = true)
  (h : ∀ w', St W (s.set i (Zg enc 1 e (.slice (some ⟨g, 0, none⟩) n cap) (xs.set j z))) w' → wpList P ops Q rest a w') : wpList P ops Q (o :: rest) a w := by
 obtain ⟨g', e1, rfl, hb, hw, hlt⟩ := hS.rowOpen i hi (by omega);simp only [Option.some.injEq, Addr.mk.injEq, and_true] at e1;subst e1;have e0 : 0 + j * 1 = j := by omega
 have hc := hS.elem he i hi (List.getElem?_eq_getElem hj);rw [e0] at hx hc;have hc0 : w.cell? ⟨g, j, none⟩ = some ((enc xs[j])[0]'(by rw [he]; omega)) := by
  have := hc 0 _ (List.getElem?_eq_getElem (by rw [he]; omega))
  simpa using this
 have hp := hS.putRow he i hi hj z;rw [hz, show j * 1 = j by omega] at hp;exact ZeQ hg ho hd hx hy hs hc0 (hw.frozenAt j) hv (h _ hp)
theorem ZaC (he : ∀ x, (enc x).length = size) (hg : o.guard = none) {t : TypeId} {x y : Operand} (ho : o.op = .store t x y) (hd : o.dst = none) {g n cap j : Nat} {A : Array Value} (hx : a.eval x = .pointer (some ⟨g, 0 + j * size, none⟩)) (hy : a.eval y = .agg A) (hs : XH P t size = true) (hS : St W s w) (i : Nat) {xs : List α}
  (hi : s[i]? = some (Zg enc size e (.slice (some ⟨g, 0, none⟩) n cap) xs)) (hj : j < xs.length) {z : α} (hz : A.toList = enc z) (hv : A.all (·.oneCell') = true)
  (h : ∀ w', St W (s.set i (Zg enc size e (.slice (some ⟨g, 0, none⟩) n cap) (xs.set j z))) w' → wpList P ops Q rest a w') : wpList P ops Q (o :: rest) a w := by
 obtain ⟨g', e1, rfl, hb, hw, hlt⟩ := hS.rowOpen i hi (by omega);simp only [Option.some.injEq, Addr.mk.injEq, and_true] at e1;subst e1;rw [Nat.zero_add] at hx;have hfl := Vl enc size he xs;have hj2 : j * size + size ≤ xs.length * size := by rw [← Nat.succ_mul]; exact Nat.mul_le_mul_right size hj
 have hsz : A.size = size := by rw [← Array.length_toList, hz, he]
 refine wpList_plain hg fun K hK => wp_store_mid t x y ho g (j * size) A hx hy (by rw [hsz]; exact Zh1 hw _ _ (by rw [hfl]; exact hj2)) (by rw [hsz]; exact (X9 hs).2) hv ?_;rw [hd, hz];exact hK _ _ (h _ (hS.putRow he i hi hj z))
end
end
end Go.Proofs.YthnbgnjpbmnelaaGreatDoor
