/- A part of the proof in YtfhdmfcfcgbgeaaGreatDoorNhX7. -/
import Derived.ArgAppend
import Derived.BigQuiet
import Derived.BigRegion
import Derived.Deep.AppendLies
import Derived.Deep.MidRow
import Derived.Deep.Quiet
import Derived.Deep.QuietTactic
import Derived.Deep.RegionHeld3
import Derived.Deep.RegionWith
import Derived.IntWalk
import Derived.Lib.Hide
import Derived.Lib.LazyBuf
import Derived.Orders
import Derived.OrdersHeld
import Derived.Shelf.Strconv.Atoi
import Derived.Shelf.Strconv.AtoiErr
import Derived.Shelf.Strconv.Itoa3
import Derived.Shelf.Strings.BuilderF
import Derived.Shelf.Strings.BuilderK
import Derived.Shelf.Strings.OnBuilder
import Derived.Still
import Derived.StillTail
import Derived.StillTailTactics
import Derived.Test.YtfhdmfcfcgbgeaaGreatDoorRows
import Derived.WalkKit
import Derived.WalkLawsBesides
import Derived.WalkSpells
namespace Go.Proofs.YtfhdmfcfcgbgeaaGreatDoor
open Go.Proofs.Tryz
set_option linter.unusedVariables false
set_option linter.unusedSimpArgs false
set_option maxHeartbeats 1000000
set_option maxRecDepth 100000
open Go.RowKit
theorem ZS {a b : Bool} (h : a = b) : Ending.returned (.bool a) = .returned (.bool b) := by rw [h]
theorem Zoo {W w1 : World} (hb : Below W.heap.size W w1) : (∀ b o, b < W.heap.size → w1.cell? ⟨b, o, none⟩ = W.cell? ⟨b, o, none⟩) ∧ (∀ b o, b < W.heap.size → w1.frozen? ⟨b, o, none⟩ = W.frozen? ⟨b, o, none⟩) :=
 ⟨fun b o h => hb.cell (p := ⟨b, o, none⟩) h, fun b o h => hb.frozen (p := ⟨b, o, none⟩) h⟩
section
variable {α : Type}
theorem VB (enc : α → List Value) (size : Nat) (he : ∀ x, (enc x).length = size) (xs : List α) : (xs.flatMap enc).length = xs.length * size := by
 induction xs with
 | nil => simp
 | cons x r ih => simp [List.flatMap_cons, he, ih, Nat.add_mul, Nat.add_comm]
theorem Zck (enc : α → List Value) (size : Nat) (he : ∀ x, (enc x).length = size) (xs : List α) (i : Nat) : (xs.flatMap enc).drop (i * size) = (xs.drop i).flatMap enc := by
 induction xs generalizing i with
 | nil => simp
 | cons x r ih =>
  cases i with
  | zero => simp
  | succ i =>
   rw [List.flatMap_cons, List.drop_append, he, show (i + 1) * size - size = i * size by rw [Nat.add_mul]; omega, ih];rw [List.drop_of_length_le (by rw [he, Nat.add_mul]; omega)]
   simp
theorem ZjV (enc : α → List Value) (size : Nat) (he : ∀ x, (enc x).length = size) (xs : List α) (i : Nat) : (xs.flatMap enc).take (i * size) = (xs.take i).flatMap enc := by
 induction xs generalizing i with
 | nil => simp
 | cons x r ih =>
  cases i with
  | zero => simp
  | succ i =>
   rw [List.flatMap_cons, List.take_append, he, show (i + 1) * size - size = i * size by rw [Nat.add_mul]; omega, ih];rw [List.take_of_length_le (by rw [he, Nat.add_mul]; omega)]
   simp
theorem Zk8 (enc : α → List Value) (size : Nat) (he : ∀ x, (enc x).length = size) (xs : List α) (i : Nat) (h : i < xs.length) (j : Nat) (v : Value) (hv : (enc xs[i])[j]? = some v) : (xs.flatMap enc)[i * size + j]? = some v := by
 rw [← List.getElem?_drop, Zck enc size he, List.drop_eq_getElem_cons h, List.flatMap_cons, List.getElem?_append_left (List.getElem?_eq_some_iff.1 hv).1, hv]
end
structure Rd {α : Type} (enc : α → List Value) (size : Nat) (w : World) (ao : Option Addr) (len : Nat) (xs : List α) : Prop where
  len : xs.length = len
  at_ : ∀ i (_ : i < xs.length), ∃ b off x, xs[i]? = some x ∧ ao = some ⟨b, off, none⟩ ∧ b < w.heap.size ∧ w.rangeAt b (off + i * size) (enc x)
theorem Yn {B : Nat} {w w' : World} {b o : Nat} {cs : List Value} (h : w.rangeAt b o cs) (hb : Below B w w') (hB : b < B) : w'.rangeAt b o cs :=
 fun j v hv => (hb.cell (p := ⟨b, o + j, none⟩) hB).trans (h j v hv)
theorem Rd.below {α : Type} {enc : α → List Value} {size : Nat} {w w' : World} {ao : Option Addr} {len : Nat} {xs : List α} (h : Rd enc size w ao len xs) (hb : Below w.heap.size w w') : Rd enc size w' ao len xs :=
 ⟨h.len, fun i hi => by
  obtain ⟨b, off, x, hx, e, hlt, hr⟩ := h.at_ i hi;exact ⟨b, off, x, hx, e, Nat.lt_of_lt_of_le hlt hb.size, Yn hr hb hlt⟩⟩
theorem XT {w : World} {B : Nat} {e : TypeId} {size : Nat} {v : Value} {n : Nat} {xs : List Value} (h : w.ownsRow B e size v n xs) : ∃ ao cap, v = .slice ao n cap ∧ n ≤ cap ∧ cap ≤ maxLen ∧ (0 < n → ∃ g, ao = some ⟨g, 0, none⟩ ∧ B ≤ g ∧ g < w.heap.size) := by
 rcases h.2 with ⟨rfl, rfl⟩ | ⟨g, cap, cur, rfl, hB, hg, hn, hc, _⟩
 ·exact ⟨none, 0, rfl, Nat.le_refl _, Nat.zero_le _, fun h => absurd h (Nat.lt_irrefl _)⟩
 ·exact ⟨_, cap, rfl, hn, hc, fun _ => ⟨g, rfl, hB, (Array.getElem?_eq_some_iff.1 hg).1⟩⟩
theorem Zm5 {α : Type} {enc : α → List Value} {size : Nat} (he : ∀ x, (enc x).length = size) {w : World} {B : Nat} {e : TypeId} {ao : Option Addr} {n cap : Nat} {xs : List α} (h : w.ownsRow B e size (.slice ao n cap) xs.length (xs.flatMap enc)) :
  n = xs.length ∧ Rd enc size w ao n xs := by
 rcases h.2 with ⟨hv, hn⟩ | ⟨g, cap', cur, hv, hB, hg, hn, hc, hs, ht⟩
 ·simp only [Value.slice.injEq] at hv
  obtain ⟨rfl, rfl, rfl⟩ := hv;exact ⟨hn.symm, hn, fun i hi => by omega⟩
 ·simp only [Value.slice.injEq] at hv
  obtain ⟨rfl, rfl, rfl⟩ := hv;refine ⟨rfl, rfl, fun i hi => ⟨g, 0, xs[i], List.getElem?_eq_getElem hi, rfl, (Array.getElem?_eq_some_iff.1 hg).1, fun j u hu => ?_⟩⟩;have := Zk8 enc size he xs i hi j u hu;rw [← ht, List.getElem?_take] at this;rw [Nat.zero_add, cell_of_row w g _ cur e (0, 0) hg]
  split at this
  ·simpa using this
  ·cases this
theorem U8 {w w' : World} {B C : Nat} {e : TypeId} {size : Nat} {v : Value} {n : Nat} {xs : List Value} (h : w.ownsRow B e size v n xs) (hb : Below C w w') (hC : w.heap.size ≤ C) : w'.ownsRow B e size v n xs := by
 refine ⟨h.1, ?_⟩;rcases h.2 with hn | ⟨g, cap, cur, rfl, hB, hg, rest⟩
 ·exact .inl hn
 ·have := (Array.getElem?_eq_some_iff.1 hg).1
  exact .inr ⟨g, cap, cur, rfl, hB, (hb.block g (by omega)).trans hg, rest⟩
theorem ZjW {w : World} {B B' : Nat} {e : TypeId} {size : Nat} {v : Value} {n : Nat} {xs : List Value} (h : w.ownsRow B e size v n xs) (hB : B' ≤ B) : w.ownsRow B' e size v n xs := by
 refine ⟨h.1, ?_⟩;rcases h.2 with hn | ⟨g, cap, cur, rfl, hBg, rest⟩
 ·exact .inl hn
 ·exact .inr ⟨g, cap, cur, rfl, Nat.le_trans hB hBg, rest⟩
def XN (xs : List Value) (o : Nat) (vs : List Value) : List Value := xs.take o ++ vs ++ xs.drop (o + vs.length)
theorem ZcP (xs : List Value) (o : Nat) (v : Value) (vs : List Value) (h : o + (vs.length + 1) ≤ xs.length) : XN (xs.set o v) (o + 1) vs = XN xs o (v :: vs) := by
 unfold XN;have e1 : (xs.set o v).take (o + 1) = xs.take o ++ [v] := by
  rw [List.take_succ_eq_append_getElem (by simp; omega)];simp [List.take_set];exact List.set_eq_of_length_le (by rw [List.length_take]; omega)
 have e2 : (xs.set o v).drop (o + 1 + vs.length) = xs.drop (o + (vs.length + 1)) := by
  rw [List.drop_set_of_lt (by omega)]
  congr 1; omega
 rw [e1, e2]
 simp
theorem ZaD {B : Nat} {e : TypeId} {size : Nat} {g n cap : Nat} : ∀ (vs : List Value) (o : Nat) (w : World) (xs : List Value), w.ownsRow B e size (.slice (some ⟨g, 0, none⟩) n cap) n xs → o + vs.length ≤ xs.length →
  (w.setCells g o vs).ownsRow B e size (.slice (some ⟨g, 0, none⟩) n cap) n (XN xs o vs) ∧ w.grownBy (w.setCells g o vs) (some g)
 | [], o, w, xs, h, _ => by
  refine ⟨?_, ⟨rfl, rfl, rfl, Nat.le_refl _, fun _ _ _ => rfl⟩⟩;have : XN xs o [] = xs := by unfold XN; simp
  rw [this]; exact h
 | v :: vs, o, w, xs, h, hl => by
  simp only [List.length_cons] at hl;obtain ⟨h1, h2⟩ := h.stored o v;obtain ⟨h3, h4⟩ := ZaD vs (o + 1) _ (xs.set o v) h1 (by simp; omega);rw [ZcP xs o v vs hl] at h3;exact ⟨h3, ⟨h4.os.trans h2.os, h4.tape.trans h2.tape, h4.output.trans h2.output, Nat.le_trans h2.size h4.size, fun k hk hne => (h4.block k (Nat.lt_of_lt_of_le hk h2.size) hne).trans (h2.block k hk hne)⟩⟩
theorem Zic {w : World} {B : Nat} {e : TypeId} {size : Nat} {g n cap : Nat} {xs : List Value} (h : w.ownsRow B e size (.slice (some ⟨g, 0, none⟩) n cap) n xs) (o m : Nat) (hm : o + m ≤ xs.length) : w.there g o m := fun j hj =>
 ⟨by rw [h.cellAt (o + j) (by rw [← h.1]; omega), List.getElem?_eq_getElem (by omega)]; rfl, h.frozenAt _⟩
def tot {α : Type} (f : α → Nat) : List α → Nat
 | [] => 0
 | x :: r => f x + tot f r
def ZG (n : Int) : List Value := [.int .i64 n]
theorem Zp (n : Int) : (ZG n).length = 1 := rfl
def Zu (s : ByteArray) : List Value := [.string s]
theorem Zf (s : ByteArray) : (Zu s).length = 1 := rfl
theorem ZP (B : Nat) (w : World) (n : Nat) : Below B w (w.drewN n) := ⟨rfl, rfl, rfl, Nat.le_refl _, fun _ _ => rfl⟩
theorem Zm {w : World} {b : Nat} {cs : Array Value} {t : TypeId} {fr : Nat × Nat} (h : w.heap[b]? = some (.cells cs t fr)) (i : Nat) : w.cell? ⟨b, i, none⟩ = cs[i]? := by simp [World.cell?, h]
theorem ZaQ {w : World} {b : Nat} {cs : Array Value} {t : TypeId} (h : w.heap[b]? = some (.cells cs t (0, 0))) (i : Nat) : w.frozen? ⟨b, i, none⟩ = false := by simp [World.frozen?, h]
theorem XD (w : World) (o : Obj) (n : Nat) (hn : n = w.heap.size) : (w.alloc o).heap[n]? = some o := by subst hn; exact heap_alloc_new w o
theorem ZeT {w : World} {b : Nat} {x : Obj} (h : w.heap[b]? = some x) (o : Obj) : (w.alloc o).heap[b]? = some x := by
 rw [Below.heap_alloc w o b (Array.getElem?_eq_some_iff.1 h).1]; exact h
theorem Zjf {w : World} {b i : Nat} {cs : Array Value} {t : TypeId} (h : w.heap[b]? = some (.cells cs t (0, 0))) (v : Value) : (w.setCell ⟨b, i, none⟩ v).heap[b]? = some (.cells (cs.setIfInBounds i v) t (0, 0)) := by
 rw [setCell_eq_setRow w b i cs t (0, 0) v h];exact setRow_heap w b _ _ t _ h
theorem Ja {w : World} {b : Nat} {x : Obj} (h : w.heap[b]? = some x) {p : Addr} (hp : b ≠ p.block) (v : Value) : (w.setCell p v).heap[b]? = some x := (Below.heap_setCell w p v b hp).trans h
theorem VC {w : World} {b : Nat} {x : Obj} (h : w.heap[b]? = some x) : b < w.heap.size := (Array.getElem?_eq_some_iff.1 h).1
theorem Z0 {w w' : World} {C b : Nat} {x : Obj} (h : w.heap[b]? = some x) (hb : Below C w w') (hC : w.heap.size ≤ C) : w'.heap[b]? = some x := (hb.block b (Nat.lt_of_lt_of_le (VC h) hC)).trans h
theorem ZjX {w w' : World} {b : Nat} {x : Obj} {row : Option Nat} (h : w.heap[b]? = some x) (hg : w.grownBy w' row) (hr : some b ≠ row) : w'.heap[b]? = some x := (hg.block b (VC h) hr).trans h
def RdS {α : Type} (enc : α → List Value) (size : Nat) (w : World) (v : Value) (xs : List α) : Prop := ∃ ao cap, v = .slice ao xs.length cap ∧ Rd enc size w ao xs.length xs
def Value.rowBlock : Value → Option Nat
 | .slice (some a) _ cap => if cap = 0 then none else some a.block
 | _ => none
theorem X6 {v : Value} {g : Nat} (h : Value.rowBlock v = some g) : v.ownBlock = some g := by
 unfold Value.rowBlock at h
 split at h
 ·split at h
  ·cases h
  ·exact h
 ·cases h
theorem Ju {ao : Option Addr} {n cap : Nat} (h : cap ≠ 0) : Value.rowBlock (.slice ao n cap) = (Value.slice ao n cap).ownBlock := by
 cases ao with
 | none => rfl
 | some a => simp [Value.rowBlock, Value.ownBlock, h]
theorem Jb (ao : Option Addr) (n : Nat) : Value.rowBlock (.slice ao n 0) = none := by
 cases ao <;> simp [Value.rowBlock]
def RowO {α : Type} (enc : α → List Value) (size : Nat) (e : TypeId) (w : World) (B B1 : Nat) (v : Value) (xs : List α) : Prop :=
 ∃ ao cap, v = .slice ao xs.length cap ∧ ((cap = 0 ∧ xs = []) ∨ w.ownsRow B e size v xs.length (xs.flatMap enc)) ∧ ∀ g, Value.rowBlock v = some g → g < B1
theorem RowO.mk {α : Type} {enc : α → List Value} {size : Nat} {e : TypeId} {w : World} {B B1 : Nat} {v : Value} {xs : List α} (ho : w.ownsRow B e size v xs.length (xs.flatMap enc)) (hg : ∀ g, v.ownBlock = some g → g < B1) : RowO enc size e w B B1 v xs := by
 obtain ⟨ao, cap, rfl, _⟩ := XT ho;exact ⟨ao, cap, rfl, .inr ho, fun g h => hg g (X6 h)⟩
theorem RowO.empty {α : Type} (enc : α → List Value) (size : Nat) (e : TypeId) (w : World) (B B1 : Nat) (ao : Option Addr) : RowO enc size e w B B1 (.slice ao 0 0) ([] : List α) :=
 ⟨ao, 0, rfl, .inl ⟨rfl, rfl⟩, fun g h => by rw [Jb] at h; cases h⟩
theorem RowO.rd {α : Type} {enc : α → List Value} {size : Nat} (he : ∀ x, (enc x).length = size) {e : TypeId} {w : World} {B B1 : Nat} {v : Value} {xs : List α} (h : RowO enc size e w B B1 v xs) : RdS enc size w v xs := by
 obtain ⟨ao, cap, rfl, ho | ho, _⟩ := h
 ·obtain ⟨rfl, rfl⟩ := ho
  exact ⟨ao, 0, rfl, ⟨rfl, fun i hi => absurd hi (Nat.not_lt_zero _)⟩⟩
 ·exact ⟨ao, cap, rfl, (Zm5 he ho).2⟩
theorem RowO.by {α : Type} {enc : α → List Value} {size : Nat} {e : TypeId} {w w' : World} {B B1 : Nat} {v : Value} {xs : List α} (h : RowO enc size e w B B1 v xs)
  (hk : (Value.rowBlock v = v.ownBlock) → w.ownsRow B e size v xs.length (xs.flatMap enc) → w'.ownsRow B e size v xs.length (xs.flatMap enc)) : RowO enc size e w' B B1 v xs := by
 obtain ⟨ao, cap, rfl, ho | ho, hg⟩ := h
 ·exact ⟨ao, cap, rfl, .inl ho, hg⟩
 ·by_cases h0 : cap = 0
  ·obtain ⟨ao', cap', hv, hle, _⟩ := XT ho
   simp only [Value.slice.injEq, true_and] at hv;obtain ⟨rfl, rfl⟩ := hv;refine ⟨ao, cap, rfl, .inl ⟨h0, List.length_eq_zero_iff.1 (by omega)⟩, hg⟩
  ·exact ⟨ao, cap, rfl, .inr (hk (Ju h0) ho), hg⟩
theorem RowO.mono {α : Type} {enc : α → List Value} {size : Nat} {e : TypeId} {w : World} {B B1 B' B1' : Nat} {v : Value} {xs : List α} (h : RowO enc size e w B B1 v xs) (hB : B' ≤ B) (hB1 : B1 ≤ B1') : RowO enc size e w B' B1' v xs := by
 obtain ⟨ao, cap, rfl, ho, hg⟩ := h;exact ⟨ao, cap, rfl, ho.imp id fun ho => ZjW ho hB, fun g h => Nat.lt_of_lt_of_le (hg g h) hB1⟩
theorem RowO.lt {α : Type} {enc : α → List Value} {size : Nat} {e : TypeId} {w : World} {B B1 : Nat} {v : Value} {xs : List α} (h : RowO enc size e w B B1 v xs) : ∀ g, Value.rowBlock v = some g → B ≤ g ∧ g < B1 ∧ g < w.heap.size := by
 obtain ⟨ao, cap, rfl, ho | ho, hb⟩ := h
 ·obtain ⟨rfl, _⟩ := ho
  intro g hg;rw [Jb] at hg; cases hg
 ·exact fun g hg => ⟨(ho.lt g (X6 hg)).1, hb g hg, (ho.lt g (X6 hg)).2⟩
structure Y5 (B B1 : Nat) (w w' : World) : Prop where
  os : w'.os = w.os
  tape : w'.tape = w.tape
  output : w'.output = w.output
  size : w.heap.size ≤ w'.heap.size
  block : ∀ k, k < w.heap.size → (k < B ∨ B1 ≤ k) → w'.heap[k]? = w.heap[k]?
theorem Y5.refl (B B1 : Nat) (w : World) : Y5 B B1 w w := ⟨rfl, rfl, rfl, Nat.le_refl _, fun _ _ _ => rfl⟩
theorem Y5.trans {B B1 : Nat} {a b c : World} (h : Y5 B B1 a b) (k : Y5 B B1 b c) : Y5 B B1 a c :=
 ⟨k.os.trans h.os, k.tape.trans h.tape, k.output.trans h.output, Nat.le_trans h.size k.size, fun i hi ho => (k.block i (Nat.lt_of_lt_of_le hi h.size) ho).trans (h.block i hi ho)⟩
theorem Zk9 (w : World) (o : Obj) : (w.alloc o).heap.size = w.heap.size + 1 := by simp
theorem Zla (w : World) (a : Addr) (u : Value) : (w.setCell a u).heap.size = w.heap.size := by simp [World.setCell]
structure PtrD where
  aC : Int
  al : Int
  am : Int
  aB : Int
  aq : Int
abbrev pL (p : PtrD) : List Value := [.int .i64 p.aC, .int .i64 p.al, .int .i64 p.am, .int .i64 p.aB, .int .i64 p.aq]
abbrev pV (p : PtrD) : Value := .agg #[.int .i64 p.aC, .int .i64 p.al, .int .i64 p.am, .int .i64 p.aB, .int .i64 p.aq]
def PtrD.cells (x : PtrD) : List Value := [.int .i64 x.aC, .int .i64 x.al, .int .i64 x.am, .int .i64 x.aB, .int .i64 x.aq]
theorem PtrD.cells_len (x : PtrD) : x.cells.length = 5 := rfl
theorem PtrD.at_ {w : World} {b o : Nat} {x : PtrD} (h : w.rangeAt b o x.cells) :
  w.cell? ⟨b, o, none⟩ = some (.int .i64 x.aC) ∧ w.cell? ⟨b, o + 1, none⟩ = some (.int .i64 x.al) ∧ w.cell? ⟨b, o + 2, none⟩ = some (.int .i64 x.am) ∧ w.cell? ⟨b, o + 3, none⟩ = some (.int .i64 x.aB) ∧ w.cell? ⟨b, o + 4, none⟩ = some (.int .i64 x.aq) :=
 ⟨h 0 _ rfl, h 1 _ rfl, h 2 _ rfl, h 3 _ rfl, h 4 _ rfl⟩
def inB (n lo hi : Int) : Bool := decide (lo ≤ n) && decide (n ≤ hi)
theorem Zs {n lo hi : Int} (h : inB n lo hi = true) : lo ≤ n ∧ n ≤ hi := by simpa [inB] using h
theorem XU {n lo hi : Int} (h : lo ≤ n) (k : n ≤ hi) : inB n lo hi = true := by simp [inB, h, k]
theorem Yb (a b c : Int) (w : World) :
  Calls prog 25 #[.int .i64 a, .int .i64 b, .int .i64 c] w fun e w' => e = .returned (.bool (inB a b c)) ∧ w = w' := by
 by_cases h1 : b ≤ a
 ·have H : Hid (inB a b c = decide (a ≤ c)) := by show _ = _; simp [inB, h1]
  go_enter func25, ntmps25
  go_wp2
  all_goals (go_ret; exact ⟨ZS H.out.symm, rfl⟩)
 ·have H : Hid (inB a b c = false) := by show _ = _; simp [inB, h1]
  go_enter func25, ntmps25
  go_wp2
  all_goals (go_ret; exact ⟨ZS H.out.symm, rfl⟩)
theorem Qq (a b c : Int) (w : World) :
  Calls prog 18 #[.int .i64 a, .int .i64 b, .int .i64 c] w fun e w' => e = .returned (.bool (inB a b c)) ∧ w = w' := by
 by_cases h1 : b ≤ a
 ·have H : Hid (inB a b c = decide (a ≤ c)) := by show _ = _; simp [inB, h1]
  go_enter func18, ntmps18
  go_wp2
  all_goals (go_ret; exact ⟨ZS H.out.symm, rfl⟩)
 ·have H : Hid (inB a b c = false) := by show _ = _; simp [inB, h1]
  go_enter func18, ntmps18
  go_wp2
  all_goals (go_ret; exact ⟨ZS H.out.symm, rfl⟩)
theorem X7 (a : Int) (w : World) :
  Calls prog 48 #[.int .i64 a] w fun e w' => e = .returned (.bool (inB a 8 63)) ∧ w = w' := by
 go_enter func48, ntmps48
 go_wp2_with fail
 refine (Yb _ _ _ _).mono ?_;rintro e w' ⟨rfl, rfl⟩
 go_wp2
 go_ret
 exact ⟨rfl, rfl⟩
theorem ZjY (a : Int) (w : World) :
  Calls prog 45 #[.int .i64 a] w fun e w' => e = .returned (.bool (inB a 8 63)) ∧ w = w' := by
 go_enter func45, ntmps45
 go_wp2_with fail
 refine (Qq _ _ _ _).mono ?_;rintro e w' ⟨rfl, rfl⟩
 go_wp2
 go_ret
 exact ⟨rfl, rfl⟩
def PtrD.hole (p : PtrD) : Bool := p.aC == 0 && p.al == 0 && p.am == 0 && p.aB == 0 && p.aq == 0
def PtrD.ok (p : PtrD) : Bool := p.hole || inB p.aC 8 63 && inB p.al 1 900 && inB p.am 1 128 && inB p.aB 0 99460728 && inB p.aq 0 2
theorem ZA (p : PtrD) (w : World) :
  Calls prog 26 #[.agg #[.int .i64 p.aC, .int .i64 p.al, .int .i64 p.am, .int .i64 p.aB, .int .i64 p.aq]] w fun e w' => e = .returned (.bool p.hole) ∧ Below w.heap.size w w' := by
 go_enter func26, ntmps26
 go_wp2
 all_goals
  go_ret
  refine ⟨ZS ?_, (Below.refl _ _).alloc (Nat.le_refl _) _⟩;unfold PtrD.hole;simp [*]
theorem Jv (p : PtrD) (w : World) :
  Calls prog 21 #[.agg #[.int .i64 p.aC, .int .i64 p.al, .int .i64 p.am, .int .i64 p.aB, .int .i64 p.aq]] w fun e w' => e = .returned (.bool p.hole) ∧ Below w.heap.size w w' := by
 go_enter func21, ntmps21
 go_wp2
 all_goals
  go_ret
  refine ⟨ZS ?_, (Below.refl _ _).alloc (Nat.le_refl _) _⟩;unfold PtrD.hole;simp [*]
theorem ZR (p : PtrD) (w : World) :
  Calls prog 24 #[.agg #[.int .i64 p.aC, .int .i64 p.al, .int .i64 p.am, .int .i64 p.aB, .int .i64 p.aq]] w fun e w' => e = .returned (.bool p.ok) ∧ Below w.heap.size w w' := by
 go_enter func24, ntmps24
 go_wp2_with (first | (go_at_call 26; refine (ZA p _).mono ?_; rintro e w1 ⟨rfl, hb1⟩; obtain ⟨hc1, _⟩ := Zoo hb1) | (go_at_call 48; refine (X7 _ _).mono ?_; rintro e w' ⟨rfl, rfl⟩) | (go_at_call 25; refine (Yb _ _ _ _).mono ?_; rintro e w' ⟨rfl, rfl⟩))
 all_goals
  go_ret
  refine ⟨ZS ?_, ((Below.refl _ _).alloc (Nat.le_refl _) _).trans (hb1.mono (by simp))⟩;unfold PtrD.ok;simp [*]
theorem Uz (p : PtrD) (w : World) :
  Calls prog 20 #[.agg #[.int .i64 p.aC, .int .i64 p.al, .int .i64 p.am, .int .i64 p.aB, .int .i64 p.aq]] w fun e w' => e = .returned (.bool p.ok) ∧ Below w.heap.size w w' := by
 go_enter func20, ntmps20
 go_wp2_with (first | (go_at_call 21; refine (Jv p _).mono ?_; rintro e w1 ⟨rfl, hb1⟩; obtain ⟨hc1, _⟩ := Zoo hb1) | (go_at_call 45; refine (ZjY _ _).mono ?_; rintro e w' ⟨rfl, rfl⟩) | (go_at_call 18; refine (Qq _ _ _ _).mono ?_; rintro e w' ⟨rfl, rfl⟩))
 all_goals
  go_ret
  refine ⟨ZS ?_, ((Below.refl _ _).alloc (Nat.le_refl _) _).trans (hb1.mono (by simp))⟩;unfold PtrD.ok;simp [*]
theorem Tryz.infoIntS : (Tryz.prog.info? 3).map (fun i => (i.zero, i.size, i.bytes)) = some (some (.int .i64 0), 1, 8) := by kernel_rfl
theorem Tryz.infoStringS : (Tryz.prog.info? 9).map (fun i => (i.zero, i.size, i.bytes)) = some (some (.string ByteArray.empty), 1, 16) := by kernel_rfl
structure Zq where
  ag : List Int
  au : List Int
def Zq.Reads (w : World) (v : Value) (x : Zq) : Prop := ∃ (a0 : Option Addr) (c0 : Nat) (a1 : Option Addr) (c1 : Nat), v = .agg #[.slice a0 x.ag.length c0, .slice a1 x.au.length c1] ∧ Rd ZG 1 w a0 x.ag.length x.ag ∧ Rd ZG 1 w a1 x.au.length x.au
structure Zq.Fit (x : Zq) : Prop where
  f0 : x.ag.length ≤ 1048576
  f1 : x.au.length ≤ 1048576
def Qh (i : Nat) (r l : Int) : Bool := inB l 0 900 && (inB r 0 l && ((r != 0 || l == 0) && (inB i 8 63 || decide (r ≤ 0))))
def Jo (s : Zq) (k : Nat) : Bool := (List.range k).all fun i => Qh i (s.ag.getD i 0) (s.au.getD i 0)
theorem ZgN (s : Zq) (k : Nat) : Jo s (k + 1) = (Jo s k && Qh k (s.ag.getD k 0) (s.au.getD k 0)) := by
 simp [Jo, List.range_succ]
theorem ZeU {s : Zq} {k m : Nat} (h : Jo s m = true) (hk : k < m) : Qh k (s.ag.getD k 0) (s.au.getD k 0) = true := by
 simp only [Jo, List.all_eq_true] at h;exact h k (List.mem_range.2 hk)
theorem Zid {s : Zq} {k m : Nat} (hk : k < m) (h : Qh k (s.ag.getD k 0) (s.au.getD k 0) = false) : Jo s m = false := by
 cases hm : Jo s m with
 | false => rfl
 | true => rw [ZeU hm hk] at h; cases h
def Zq.ok (s : Zq) : Bool := s.ag.length == 64 && s.au.length == 64 && Jo s 64
theorem U9 {α : Type} {xs : List α} {k : Nat} {x d : α} (h : xs[k]? = some x) : xs.getD k d = x := by simp [List.getD, h]
theorem Vs (v : Value) (s : Zq) (w : World) (hr : Zq.Reads w v s) (hf : s.Fit) :
  Calls prog 111 #[v] w fun e w' => e = .returned (.bool s.ok) ∧ Below w.heap.size w w' := by
 obtain ⟨a0, c0, a1, c1, rfl, r0, r1⟩ := hr;have hf0 := hf.f0;have hf1 := hf.f1;have hb0 : Below w.heap.size w (w.alloc (.cells #[.slice a0 s.ag.length c0, .slice a1 s.au.length c1] 41)) := (Below.refl _ _).alloc (Nat.le_refl _) _;have hA0 := XD w (.cells #[.slice a0 s.ag.length c0, .slice a1 s.au.length c1] 41) _ rfl
 by_cases h0 : s.ag.length = 64
 rotate_left
 ·have H : Hid (s.ok = false) := by show _ = _; simp [Zq.ok, h0]
  go_enter func111, ntmps111
  go_wp2
  go_ret
  exact ⟨ZS H.out.symm, hb0⟩
 have H0 := Lib.hid h0;have hl0 := h0;rw [h0] at r0 hb0 hA0 ⊢;clear h0
 by_cases h1 : s.au.length = 64
 rotate_left
 ·have H : Hid (s.ok = false) := by show _ = _; simp [Zq.ok, h1]
  go_enter func111, ntmps111
  go_wp2
  go_ret
  exact ⟨ZS H.out.symm, hb0⟩
 have H : Hid (s.ok = Jo s 64) := by show _ = _; simp [Zq.ok, hl0, h1]
 rw [h1] at r1 hb0 hA0 ⊢;have H1 := Lib.hid h1;clear h1 hl0 hf0 hf1 hf
 go_enter func111, ntmps111
 go_wp2
 go_loopw [3] (fun i wr => ∃ k : Nat, k ≤ 64 ∧ i = .int .i64 k ∧ Jo s k = true ∧ Below w.heap.size w wr ∧ wr.heap[w.heap.size]? = some (.cells #[.slice a0 64 c0, .slice a1 64 c1] 41 (0, 0))) (fun i _ => 64 - (intOf i).toNat)
 case atStart => exact ⟨0, by omega, rfl, rfl, hb0, hA0⟩
 case round =>
  obtain ⟨k, hk, rfl, hok, hb, hA⟩ := hrel;have HOK := Lib.hid hok;clear hok
  by_cases hlt : k < 64
  ·obtain ⟨b, off, r, hx0, rfl, hbl, hrg⟩ := r0.at_ k (by rw [H0.out]; exact hlt)
   have d0 := (Yn hrg hb hbl) 0 _ rfl;simp only [Nat.mul_one, Nat.add_zero] at d0;obtain ⟨b2, off2, l, hx1, rfl, hbl2, hrg2⟩ := r1.at_ k (by rw [H1.out]; exact hlt);have d1 := (Yn hrg2 hb hbl2) 0 _ rfl;simp only [Nat.mul_one, Nat.add_zero] at d1;have hg0 : s.ag.getD k 0 = r := U9 hx0;have hg1 : s.au.getD k 0 = l := U9 hx1;have p0 : wr.cell? ⟨w.heap.size, 0, none⟩ = some (.slice (some ⟨b, off, none⟩) 64 c0) := Zm hA 0;have p1 : wr.cell? ⟨w.heap.size, 1, none⟩ = some (.slice (some ⟨b2, off2, none⟩) 64 c1) := Zm hA 1;have hlast : Hid (Qh k r l = false → s.ok = false) := fun h => by rw [H.out]; exact Zid hlt (by rw [hg0, hg1]; exact h)
   have hnext : Hid (Qh k r l = true → Jo s (k + 1) = true) := fun h => by rw [ZgN, HOK.out, hg0, hg1, h]; rfl
   have HA := Lib.hid hA;clear hx0 hx1 hg0 hg1 hrg hrg2 hA hA0 hb0
   by_cases g1 : inB l 0 900 = true
   rotate_left
   ·have g1' : inB l 0 900 = false := by simpa using g1
    have HR : Hid (Qh k r l = false) := by show _ = _; simp [Qh, g1']
    clear g1
    go_wp2_with fail
    go_quiet ((first | (go_at_call 25; exact Calls.quiet_of_same ((Yb _ _ _ _).mono fun _ _ ⟨h1, h2⟩ => ⟨h1, h2.symm⟩)) | (go_at_call 48; exact Calls.quiet_of_same ((X7 _ _).mono fun _ _ ⟨h1, h2⟩ => ⟨h1, h2.symm⟩))))
    go_wp2
    go_ret
    exact ⟨ZS (hlast.out HR.out).symm, hb.trans (ZP _ _ _)⟩
   have hl := Zs g1
   by_cases g2 : inB r 0 l = true
   rotate_left
   ·have g2' : inB r 0 l = false := by simpa using g2
    have HR : Hid (Qh k r l = false) := by show _ = _; simp [Qh, g2']
    clear g2
    go_wp2_with fail
    go_quiet ((first | (go_at_call 25; exact Calls.quiet_of_same ((Yb _ _ _ _).mono fun _ _ ⟨h1, h2⟩ => ⟨h1, h2.symm⟩)) | (go_at_call 48; exact Calls.quiet_of_same ((X7 _ _).mono fun _ _ ⟨h1, h2⟩ => ⟨h1, h2.symm⟩))))
    go_wp2
    go_ret
    exact ⟨ZS (hlast.out HR.out).symm, hb.trans (ZP _ _ _)⟩
   have hr2 := Zs g2
   by_cases g3 : r = 0
   ·subst g3
    by_cases g4 : l = 0
    ·subst g4
     cases g5 : inB (k : Int) 8 63
     ·have HR : Hid (Qh k 0 0 = true) := by show _ = _; simp [Qh, g1, g2]
      go_wp2_with fail
      go_quiet ((first | (go_at_call 25; exact Calls.quiet_of_same ((Yb _ _ _ _).mono fun _ _ ⟨h1, h2⟩ => ⟨h1, h2.symm⟩)) | (go_at_call 48; exact Calls.quiet_of_same ((X7 _ _).mono fun _ _ ⟨h1, h2⟩ => ⟨h1, h2.symm⟩))))
      go_wp2
      go_roundw
      case rel => exact ⟨k + 1, by omega, by go_num, hnext.out HR.out, hb.trans (ZP _ _ _), HA.out⟩
      case measure => simp [intOf]; omega
     ·have HR : Hid (Qh k 0 0 = true) := by show _ = _; simp [Qh, g1, g2]
      go_wp2_with fail
      go_quiet ((first | (go_at_call 25; exact Calls.quiet_of_same ((Yb _ _ _ _).mono fun _ _ ⟨h1, h2⟩ => ⟨h1, h2.symm⟩)) | (go_at_call 48; exact Calls.quiet_of_same ((X7 _ _).mono fun _ _ ⟨h1, h2⟩ => ⟨h1, h2.symm⟩))))
      go_wp2
      go_roundw
      case rel => exact ⟨k + 1, by omega, by go_num, hnext.out HR.out, hb.trans (ZP _ _ _), HA.out⟩
      case measure => simp [intOf]; omega
    ·have g4' : ((l : Int) != 0) = true := by simpa using g4
     have HR : Hid (Qh k 0 l = false) := by show _ = _; simp [Qh, g4]
     clear g4
     go_wp2_with fail
     go_quiet ((first | (go_at_call 25; exact Calls.quiet_of_same ((Yb _ _ _ _).mono fun _ _ ⟨h1, h2⟩ => ⟨h1, h2.symm⟩)) | (go_at_call 48; exact Calls.quiet_of_same ((X7 _ _).mono fun _ _ ⟨h1, h2⟩ => ⟨h1, h2.symm⟩))))
     go_wp2
     go_ret
     exact ⟨ZS (hlast.out HR.out).symm, hb.trans (ZP _ _ _)⟩
   ·have g3' : ((r : Int) == 0) = false := by simpa using g3
    have g6 : 0 < r := by omega
    cases g5 : inB (k : Int) 8 63
    ·have HR : Hid (Qh k r l = false) := by show _ = _; simp [Qh, g5]; omega
     clear g3
     go_wp2_with fail
     go_quiet ((first | (go_at_call 25; exact Calls.quiet_of_same ((Yb _ _ _ _).mono fun _ _ ⟨h1, h2⟩ => ⟨h1, h2.symm⟩)) | (go_at_call 48; exact Calls.quiet_of_same ((X7 _ _).mono fun _ _ ⟨h1, h2⟩ => ⟨h1, h2.symm⟩))))
     go_wp2
     go_ret
     exact ⟨ZS (hlast.out HR.out).symm, hb.trans (ZP _ _ _)⟩
    ·have HR : Hid (Qh k r l = true) := by show _ = _; simp [Qh, g1, g2, g5, g3]
     clear g3
     go_wp2_with fail
     go_quiet ((first | (go_at_call 25; exact Calls.quiet_of_same ((Yb _ _ _ _).mono fun _ _ ⟨h1, h2⟩ => ⟨h1, h2.symm⟩)) | (go_at_call 48; exact Calls.quiet_of_same ((X7 _ _).mono fun _ _ ⟨h1, h2⟩ => ⟨h1, h2.symm⟩))))
     go_wp2
     go_roundw
     case rel => exact ⟨k + 1, by omega, by go_num, hnext.out HR.out, hb.trans (ZP _ _ _), HA.out⟩
     case measure => simp [intOf]; omega
  ·have hk' : k = 64 := by omega
   subst hk'
   go_wp2
   go_ret
   exact ⟨ZS (by rw [H.out, HOK.out]), hb⟩
def ZfW (i : Nat) (r l : Int) : Bool := inB r 0 900 && (inB l r 900 && ((r != 0 || l == 0) && (decide (r ≤ 0) || !decide ((i : Int) < 8))))
theorem ZeV {i : Nat} {r l : Int} (hi : i < 64 := by omega) : Qh i r l = ZfW i r l := by
 unfold Qh ZfW inB;rw [Bool.eq_iff_iff]
 simp
 omega
structure Za where
  ac : List ByteArray
  aa : Zq
  av : Int
  ak : List PtrD
  az : Int
  ar : List PtrD
  aA : Bool
abbrev sL (a0 : Option Addr) (c0 : Nat) (a1 : Option Addr) (c1 : Nat) (a2 : Option Addr) (c2 : Nat) (a4 : Option Addr) (c4 : Nat) (a6 : Option Addr) (c6 : Nat) (st : Za) : List Value := [.slice a0 st.ac.length c0, .slice a1 st.aa.ag.length c1, .slice a2 st.aa.au.length c2, .int .i64 st.av, .slice a4 st.ak.length c4, .int .i64 st.az, .slice a6 st.ar.length c6, .bool st.aA]
abbrev sV (a0 : Option Addr) (c0 : Nat) (a1 : Option Addr) (c1 : Nat) (a2 : Option Addr) (c2 : Nat) (a4 : Option Addr) (c4 : Nat) (a6 : Option Addr) (c6 : Nat) (st : Za) : Value := .agg #[.slice a0 st.ac.length c0, .slice a1 st.aa.ag.length c1, .slice a2 st.aa.au.length c2, .int .i64 st.av, .slice a4 st.ak.length c4, .int .i64 st.az, .slice a6 st.ar.length c6, .bool st.aA]
def Za.Reads (w : World) (v : Value) (x : Za) : Prop := ∃ (a0 : Option Addr) (c0 : Nat) (a1 : Option Addr) (c1 : Nat) (a2 : Option Addr) (c2 : Nat) (a4 : Option Addr) (c4 : Nat) (a6 : Option Addr) (c6 : Nat), v = .agg #[.slice a0 x.ac.length c0, .slice a1 x.aa.ag.length c1, .slice a2 x.aa.au.length c2, .int .i64 x.av, .slice a4 x.ak.length c4, .int .i64 x.az, .slice a6 x.ar.length c6, .bool x.aA] ∧ Rd Zu 1 w a0 x.ac.length x.ac ∧ Rd ZG 1 w a1 x.aa.ag.length x.aa.ag ∧ Rd ZG 1 w a2 x.aa.au.length x.aa.au ∧ Rd PtrD.cells 5 w a4 x.ak.length x.ak ∧ Rd PtrD.cells 5 w a6 x.ar.length x.ar
structure Za.Fit (x : Za) : Prop where
  f0 : x.ac.length ≤ 1048576
  f1 : x.aa.ag.length ≤ 1048576
  f2 : x.aa.au.length ≤ 1048576
  f4 : x.ak.length ≤ 1048576
  f6 : x.ar.length ≤ 1048576
def cnt (ps : List PtrD) (i : Nat) : Nat := (ps.filter fun p => p.aC == (i : Int)).length
theorem VD (ps : List PtrD) (p : PtrD) (i : Nat) : cnt (ps ++ [p]) i = cnt ps i + if p.aC = (i : Int) then 1 else 0 := by
 unfold cnt;rw [List.filter_append, List.length_append]
 by_cases h : p.aC = (i : Int) <;> simp [h]
theorem Zlb (ps : List PtrD) (i : Nat) : cnt ps i ≤ ps.length := List.length_filter_le _ _
theorem Zj (a b : List PtrD) (i : Nat) : cnt (a ++ b) i = cnt a i + cnt b i := by simp [cnt, List.filter_append]
theorem Zlc (ps : List PtrD) (k i : Nat) : cnt (ps.take k) i ≤ cnt ps i := by
 have h := Zj (ps.take k) (ps.drop k) i;rw [List.take_append_drop] at h; omega
def XV (ps : List PtrD) : List Value := (List.range 64).map fun i => .int .i64 (cnt ps i : Nat)
theorem Jw (ps : List PtrD) : (XV ps).length = 64 := by simp [XV]
theorem QH (ps : List PtrD) (i : Nat) (h : i < 64) : (XV ps)[i]? = some (.int .i64 (cnt ps i : Nat)) := by simp [XV, h]
theorem ZaE (ps : List PtrD) (p : PtrD) (a : Nat) (ha : p.aC = (a : Int)) (h : a < 64) : (XV ps).set a (.int .i64 ((cnt ps a : Nat) + 1)) = XV (ps ++ [p]) := by
 apply List.ext_getElem?
 intro i
 by_cases hi : i < 64
 ·rw [QH _ _ hi, VD, List.getElem?_set]
  by_cases hai : a = i
  ·subst hai
   simp [Jw, h, ha]
  ·rw [if_neg hai, QH _ _ hi, if_neg (by rw [ha]; omega)]
   simp
 ·rw [List.getElem?_eq_none (by rw [List.length_set, Jw]; omega), List.getElem?_eq_none (by rw [Jw]; omega)]
def YI (p : PtrD) (most : Int) : Bool := p.ok && (!p.hole && decide (p.al ≤ most))
def QI (st : Za) (i : Nat) : Bool := decide ((st.ac.getD i ByteArray.empty).size ≤ 128) && (((st.ac.getD i ByteArray.empty).size == 0) == (st.aa.ag.getD i 0 == 0) && decide (st.aa.au.getD i 0 ≤ st.av))
def QJ (st : Za) (k : Nat) : Bool := (List.range k).all fun i => QI st i
theorem ZgO (st : Za) (k : Nat) : QJ st (k + 1) = (QJ st k && QI st k) := by simp [QJ, List.range_succ]
theorem Zah {st : Za} {k m : Nat} (h : QJ st m = true) (hk : k < m) : QI st k = true := by
 simp only [QJ, List.all_eq_true] at h;exact h k (List.mem_range.2 hk)
theorem Zie {st : Za} {k m : Nat} (hk : k < m) (h : QI st k = false) : QJ st m = false := by
 cases hm : QJ st m with
 | false => rfl
 | true => rw [Zah hm hk] at h; cases h
def VE (refs : List Int) (ps : List PtrD) : Bool := (List.range 64).all fun i => decide ((cnt ps i : Int) ≤ refs.getD i 0)
def Za.ok (st : Za) : Bool :=
 st.ac.length == 64 && (st.aa.ok && (inB st.av 1 900 && (inB st.az 0 (st.av - 1) && (QJ st 64 &&
  (st.ak.all (fun p => YI p (st.av - 1)) && (st.ar.all (fun p => YI p st.az) && VE st.aa.ag (st.ak ++ st.ar)))))))
def Vt (st : Za) (j : Nat) : Option PtrD := (st.ak ++ st.ar)[j]?
def JL (st : Za) (j : Nat) : Int := if j < st.ak.length then st.av - 1 else st.az
structure Vu (st : Za) (j : Nat) : Prop where
  each : ∀ i p, i < j → Vt st i = some p → YI p (JL st i) = true
  few : ∀ i, i < 64 → 0 < cnt ((st.ak ++ st.ar).take j) i → (cnt ((st.ak ++ st.ar).take j) i : Int) ≤ st.aa.ag.getD i 0
theorem Vu.zero (st : Za) : Vu st 0 := ⟨fun i p h => absurd h (Nat.not_lt_zero _), fun i hi h => by simp [cnt] at h⟩
theorem Zbq {p : PtrD} {m : Int} (h : YI p m = true) : 8 ≤ p.aC ∧ p.aC ≤ 63 ∧ p.al ≤ m ∧ 1 ≤ p.al ∧ p.al ≤ 900 := by
 simp only [YI, PtrD.ok, Bool.and_eq_true, Bool.or_eq_true, Bool.not_eq_true', decide_eq_true_eq] at h;obtain ⟨h1, h2, h3⟩ := h;rw [h2] at h1;rcases h1 with h1 | h1
 ·cases h1
 ·obtain ⟨⟨⟨⟨a, b⟩, _⟩, _⟩, _⟩ := h1
  have := Zs a;have := Zs b
  omega
theorem Vu.succ {st : Za} {j : Nat} (h : Vu st j) {p : PtrD} (hp : Vt st j = some p) (hin : YI p (JL st j) = true) (a : Nat) (ha : p.aC = (a : Int)) (hle : ((cnt ((st.ak ++ st.ar).take j) a + 1 : Nat) : Int) ≤ st.aa.ag.getD a 0) : Vu st (j + 1) := by
 obtain ⟨hj, hpe⟩ := List.getElem?_eq_some_iff.1 hp;have hs : (st.ak ++ st.ar).take (j + 1) = (st.ak ++ st.ar).take j ++ [p] := by rw [List.take_succ_eq_append_getElem hj, hpe]
 refine ⟨fun i q hi hq => ?_, fun i hi hc => ?_⟩
 ·by_cases hij : i = j
  ·subst hij
   obtain rfl := Option.some.inj (hp.symm.trans hq);exact hin
  ·exact h.each i q (by omega) hq
 ·rw [hs, VD] at hc ⊢
  by_cases hai : p.aC = (i : Int)
  ·have : a = i := by omega
   subst this;rw [if_pos hai];exact hle
  ·rw [if_neg hai] at hc ⊢
   exact h.few i hi hc
theorem Vu.all {st : Za} (h : Vu st (st.ak ++ st.ar).length) (hr : ∀ i, i < 64 → 0 ≤ st.aa.ag.getD i 0) :
  (st.ak.all (fun p => YI p (st.av - 1)) && (st.ar.all (fun p => YI p st.az) && VE st.aa.ag (st.ak ++ st.ar))) = true := by
 rw [Bool.and_eq_true, Bool.and_eq_true];refine ⟨List.all_eq_true.2 fun p hp => ?_, List.all_eq_true.2 fun p hp => ?_, List.all_eq_true.2 fun i hi => ?_⟩
 ·obtain ⟨i, hi, hpe⟩ := List.mem_iff_getElem.1 hp
  have := h.each i p (by rw [List.length_append]; omega) (by unfold Vt; rw [List.getElem?_append_left hi, List.getElem?_eq_getElem hi, hpe])
  rwa [JL, if_pos hi] at this
 ·obtain ⟨i, hi, hpe⟩ := List.mem_iff_getElem.1 hp
  have := h.each (st.ak.length + i) p (by rw [List.length_append]; omega) (by unfold Vt; rw [List.getElem?_append_right (by omega), Nat.add_sub_cancel_left, List.getElem?_eq_getElem hi, hpe])
  rwa [JL, if_neg (by omega)] at this
 ·have hi' := List.mem_range.1 hi
  simp only [decide_eq_true_eq]
  by_cases hc : 0 < cnt (st.ak ++ st.ar) i
  ·have := h.few i hi' (by rw [List.take_of_length_le (Nat.le_refl _)]; exact hc)
   rwa [List.take_of_length_le (Nat.le_refl _)] at this
  ·have := hr i hi'
   omega
theorem ZeW {st : Za} {j : Nat} {p : PtrD} (hp : Vt st j = some p) (hin : YI p (JL st j) = false) : st.ok = false := by
 obtain ⟨hj, hpe⟩ := List.getElem?_eq_some_iff.1 hp;unfold Za.ok
 by_cases hg : j < st.ak.length
 ·have hm : p ∈ st.ak := by rw [← hpe, List.getElem_append_left hg]; exact List.getElem_mem _
  have : st.ak.all (fun p => YI p (st.av - 1)) = false := by
   rw [List.all_eq_false];exact ⟨p, hm, by rw [JL, if_pos hg] at hin; simp [hin]⟩
  simp [this]
 ·have hlt : j - st.ak.length < st.ar.length := by rw [List.length_append] at hj; omega
  have hm : p ∈ st.ar := by rw [← hpe, List.getElem_append_right (by omega)]; exact List.getElem_mem _
  have : st.ar.all (fun p => YI p st.az) = false := by
   rw [List.all_eq_false];exact ⟨p, hm, by rw [JL, if_neg hg] at hin; simp [hin]⟩
  simp [this]
theorem Zdx {st : Za} {j : Nat} {p : PtrD} (hp : Vt st j = some p) (a : Nat) (ha : p.aC = (a : Int)) (h64 : a < 64) (hlt : st.aa.ag.getD a 0 < ((cnt ((st.ak ++ st.ar).take j) a + 1 : Nat) : Int)) : st.ok = false := by
 obtain ⟨hj, hpe⟩ := List.getElem?_eq_some_iff.1 hp;have hs : (st.ak ++ st.ar).take (j + 1) = (st.ak ++ st.ar).take j ++ [p] := by rw [List.take_succ_eq_append_getElem hj, hpe]
 have h1 := Zlc (st.ak ++ st.ar) (j + 1) a;rw [hs, VD, if_pos ha] at h1;have : VE st.aa.ag (st.ak ++ st.ar) = false := by
  unfold VE;rw [List.all_eq_false];exact ⟨a, List.mem_range.2 h64, by simp only [decide_eq_true_eq]; omega⟩
 unfold Za.ok;simp [this]
structure ZfX (st : Za) : Prop where
  rows : st.ac.length = 64
  space : st.aa.ok = true
  txg : 1 ≤ st.av ∧ st.av ≤ 900
  keep : 0 ≤ st.az ∧ st.az ≤ st.av - 1
  each : QJ st 64 = true
  gone : st.ak.all (fun p => YI p (st.av - 1)) = true
  dead : st.ar.all (fun p => YI p st.az) = true
  owed : VE st.aa.ag (st.ak ++ st.ar) = true
theorem Za.ok_spec {st : Za} (h : st.ok = true) : ZfX st := by
 simp only [Za.ok, Bool.and_eq_true, beq_iff_eq] at h;obtain ⟨h1, h2, h3, h4, h5, h6, h7, h8⟩ := h;exact ⟨h1, h2, Zs h3, Zs h4, h5, h6, h7, h8⟩
structure Zif (s : Zq) : Prop where
  refs : s.ag.length = 64
  last : s.au.length = 64
  each : ∀ i, i < 64 → 0 ≤ s.ag.getD i 0 ∧ s.ag.getD i 0 ≤ s.au.getD i 0 ∧ s.au.getD i 0 ≤ 900 ∧ (s.ag.getD i 0 = 0 → s.au.getD i 0 = 0) ∧ (i < 8 → s.ag.getD i 0 = 0)
theorem Zq.ok_spec {s : Zq} (h : s.ok = true) : Zif s := by
 simp only [Zq.ok, Bool.and_eq_true, beq_iff_eq] at h;obtain ⟨⟨h1, h2⟩, h3⟩ := h;refine ⟨h1, h2, fun i hi => ?_⟩;have h4 := ZeU h3 hi;rw [ZeV hi] at h4;simp only [ZfW, Bool.and_eq_true, Bool.or_eq_true, decide_eq_true_eq, bne_iff_ne, beq_iff_eq, Bool.not_eq_true', decide_eq_false_iff_not] at h4;obtain ⟨h5, h6, h7, h8⟩ := h4;have := Zs h5;have := Zs h6;refine ⟨by omega, by omega, by omega, fun h0 => ?_, fun h0 => ?_⟩
 ·rcases h7 with h7 | h7
  ·exact absurd h0 h7
  ·exact h7
 ·rcases h8 with h8 | h8
  ·omega
  ·omega
theorem ZjZ (ps : List PtrD) : (madeCells (Value.int .i64 0).cells (64 * 1)).toList = XV (ps.take 0) := by
 show (madeCells #[Value.int .i64 0] 64).toList = _;rw [toList_madeCells_one]
 apply List.ext_getElem?
 intro i
 by_cases hi : i < 64
 ·rw [QH _ _ hi, List.getElem?_replicate, if_pos hi]; simp [cnt]
 ·rw [List.getElem?_eq_none (by rw [List.length_replicate]; omega), List.getElem?_eq_none (by rw [Jw]; omega)]
structure Bx (p : Prop) : Type where
  out : p
theorem Bx.o {p : Prop} (h : Bx p) : p := h.out
theorem Zld (b off j : Nat) : (⟨b, off, none⟩ : Addr).add j = ⟨b, off + j, none⟩ := by unfold Addr.add; split <;> simp_all
theorem Rd.news {α : Type} {enc : α → List Value} {size : Nat} (he : ∀ x, (enc x).length = size) (hs : 0 < size) {w : World} {a : Addr} {n : Nat} {xs : List α} (h : Rd enc size w (some a) n xs) :
  ∀ j u, (xs.flatMap enc)[j]? = some u → w.cell? (a.add j) = some u := by
 intro j u hu;have hj := (List.getElem?_eq_some_iff.1 hu).1;rw [VB enc size he] at hj;have hi : j / size < xs.length := (Nat.div_lt_iff_lt_mul hs).2 hj;obtain ⟨b, off, x, hx, e, _, hr⟩ := h.at_ (j / size) hi;obtain rfl := Option.some.inj e;have hm := Nat.div_add_mod j size;have hlt := Nat.mod_lt j hs;rw [Zld];have hd : (xs.flatMap enc)[j / size * size + j % size]? = some u := by rw [Nat.mul_comm, hm]; exact hu
 rw [← List.getElem?_drop, Zck enc size he, List.drop_eq_getElem_cons hi, List.flatMap_cons, List.getElem?_append_left (by rw [he]; exact hlt)] at hd;have hxe : xs[j / size] = x := by rw [List.getElem?_eq_getElem hi] at hx; exact Option.some.inj hx
 rw [hxe] at hd;have := hr (j % size) u hd;rw [Nat.add_assoc, Nat.mul_comm (j / size), hm] at this;exact this
theorem Zle {α : Type} {enc : α → List Value} {size : Nat} {w : World} {n : Nat} {xs : List α} (h : Rd enc size w none n xs) : xs = [] := by
 cases xs with
 | nil => rfl
 | cons x r =>
  obtain ⟨_, _, _, _, e, _⟩ := h.at_ 0 (by simp)
  cases e
theorem VF (xs : List Int) : ∀ u ∈ xs.flatMap ZG, u.oneCell' = true := by
 intro u hu;obtain ⟨x, _, hx⟩ := List.mem_flatMap.1 hu;simp only [ZG, List.mem_singleton] at hx;subst hx; rfl
theorem Zv (xs : List ByteArray) : ∀ u ∈ xs.flatMap Zu, u.oneCell' = true := by
 intro u hu;obtain ⟨x, _, hx⟩ := List.mem_flatMap.1 hu;simp only [Zu, List.mem_singleton] at hx;subst hx; rfl
theorem Y5.set {B B1 : Nat} {w w' : World} (h : Y5 B B1 w w') {p : Addr} (hp : B ≤ p.block ∧ p.block < B1) (u : Value) : Y5 B B1 w (w'.setCell p u) :=
 h.trans ⟨rfl, rfl, rfl, by rw [Zla]; exact Nat.le_refl _, fun k _ ho => Below.heap_setCell w' p u k (by omega)⟩
structure Box (w : World) (b n : Nat) (t : TypeId) (v : Value) : Prop where
  ex : ∃ cs : List Value, v = .agg cs.toArray ∧ cs.length = n ∧ (∀ u ∈ cs, u.oneCell' = true) ∧ w.heap[b]? = some (.cells cs.toArray t (0, 0))
structure Cells (n : Nat) (v : Value) : Prop where
  ex : ∃ cs : List Value, v = .agg cs.toArray ∧ cs.length = n ∧ (∀ u ∈ cs, u.oneCell' = true)
theorem Box.below {w w' : World} {C b n : Nat} {t : TypeId} {v : Value} (h : Box w b n t v) (hb : Below C w w') (hC : w.heap.size ≤ C) : Box w' b n t v := by
 obtain ⟨cs, e, hl, h1, hh⟩ := h;exact ⟨cs, e, hl, h1, Z0 hh hb hC⟩
theorem Box.new (w : World) (cs : List Value) (t : TypeId) (h1 : (cs.all fun u => u.oneCell') = true) {b : Nat} (hb : b = w.heap.size) : Box (w.alloc (.cells cs.toArray t)) b cs.length t (.agg cs.toArray) :=
 ⟨cs, rfl, rfl, fun u hu => List.all_eq_true.1 h1 u hu, XD w _ b hb⟩
theorem Box.range {w : World} {b n : Nat} {t : TypeId} {v : Value} (h : Box w b n t v) : ∃ cs : List Value, v = .agg cs.toArray ∧ cs.length = n ∧ w.rangeAt b 0 cs := by
 obtain ⟨cs, e, hl, h1, hh⟩ := h;exact ⟨cs, e, hl, fun j u hu => by rw [Zm hh]; simpa using hu⟩
theorem Box.cell {w : World} {b n : Nat} {t : TypeId} {l : Array Value} (h : Box w b n t (.agg l)) (i : Nat) : w.cell? ⟨b, i, none⟩ = l[i]? := by
 obtain ⟨cs, e, hl, h1, hh⟩ := h;obtain rfl : l = cs.toArray := by simpa using e
 exact Zm hh i
theorem Box.frozen {w : World} {b n : Nat} {t : TypeId} {v : Value} (h : Box w b n t v) (i : Nat) : w.frozen? ⟨b, i, none⟩ = false := by
 obtain ⟨cs, e, hl, h1, hh⟩ := h;exact ZaQ hh i
theorem Va {b : Nat} {t : TypeId} : ∀ (vs : List Value) (o : Nat) (w : World) (cs : List Value), w.heap[b]? = some (.cells cs.toArray t (0, 0)) → o + vs.length ≤ cs.length →
  (w.setCells b o vs).heap[b]? = some (.cells (XN cs o vs).toArray t (0, 0)) ∧ Y5 b (b + 1) w (w.setCells b o vs) ∧ (w.setCells b o vs).heap.size = w.heap.size
 | [], o, w, cs, h, _ => by
  refine ⟨?_, Y5.refl _ _ _, rfl⟩;have : XN cs o [] = cs := by unfold XN; simp
  rw [this]; exact h
 | v :: vs, o, w, cs, h, hl => by
  simp only [List.length_cons] at hl;have h0 : (w.setCell ⟨b, o, none⟩ v).heap[b]? = some (.cells (cs.set o v).toArray t (0, 0)) := by
   have := Zjf (i := o) h v
   simpa using this
  obtain ⟨h1, h2, h3⟩ := Va vs (o + 1) _ (cs.set o v) h0 (by simp; omega);rw [ZcP cs o v vs hl] at h1;exact ⟨h1, ((Y5.refl b (b + 1) w).set ⟨Nat.le_refl _, Nat.lt_succ_self _⟩ v).trans h2, h3.trans (Zla _ _ _)⟩
theorem Box.put {w : World} {b n : Nat} {t : TypeId} {u v : Value} (h : Box w b n t u) (hv : Cells n v) : ∃ cells : Array Value, v = .agg cells ∧ cells.size = n ∧ cells.all (·.oneCell') = true ∧ w.there b 0 n ∧
  Box (w.setCells b 0 cells.toList) b n t v ∧ Y5 b (b + 1) w (w.setCells b 0 cells.toList) ∧ (w.setCells b 0 cells.toList).heap.size = w.heap.size := by
 obtain ⟨cs, rfl, hl, h1, hh⟩ := h;obtain ⟨ds, rfl, hd, g1⟩ := hv;obtain ⟨k1, k2, k3⟩ := Va ds 0 w cs hh (by omega);have hs : XN cs 0 ds = ds := by
  unfold XN;rw [List.drop_of_length_le (by omega)]
  simp
 rw [hs] at k1;refine ⟨ds.toArray, rfl, by simpa using hd, all_oneCell_toArray g1, fun j hj => ⟨by rw [Zm hh]; simp; omega, ZaQ hh _⟩, ⟨ds, rfl, hd, g1, k1⟩, k2, k3⟩
theorem Box.putField {w : World} {b n : Nat} {t : TypeId} {l : Array Value} (h : Box w b n t (.agg l)) (i : Nat) {u : Value} (hu : u.oneCell' = true) : Box (w.setCell ⟨b, i, none⟩ u) b n t (.agg (l.setIfInBounds i u)) := by
 obtain ⟨cs, e, hl, h1, hh⟩ := h;obtain rfl : l = cs.toArray := by simpa using e
 refine ⟨cs.set i u, by simp, by simp [hl], fun x hx => ?_, by have := Zjf (i := i) hh u; simpa using this⟩;rcases List.mem_or_eq_of_mem_set hx with h | h
 ·exact h1 x h
 ·rw [h]; exact hu
section
variable {P : Program}
theorem Zdf {w : World} {b n : Nat} {t : TypeId} {v : Value} (hb : Box w b n t v) (ty : TypeId) (d : TypeDesc) (hu : P.underlying ty = some d) (hd : d.isRow = true) (hi : (P.info? ty).map (·.size) = some n) : (loadVar ty ⟨b, 0, none⟩).run P w = .ok v w := by
 obtain ⟨cs, rfl, rfl, hr⟩ := hb.range;exact run_loadVar_mid w b 0 ty cs d hr hu hd hi
end
def upd (L : Nat → Bool) (i : Nat) : Nat → Bool := fun j => if j = i then true else L j
theorem Zlf (a : Act) (d : Option Tmp) (v : Value) : (a.put d v).tmps.size = a.tmps.size := by cases d <;> simp [Act.put]
theorem Zig (a : Act) (d : Option Tmp) (v : Value) : (a.put d v).defers = a.defers := by cases d <;> rfl
theorem Zm6 (a : Act) (d : Nat) (v : Value) (k : Nat) (h : k ≠ d) : (a.put (some d) v).tmps[k]? = a.tmps[k]? := by
 simp [Act.put, Array.getElem?_setIfInBounds, Ne.symm h]
section
variable {P : Program} {o : Oper} {a : Act} {w : World} {K : Act → World → Prop} {Q : Exit → Act → World → Prop}
theorem Xo {P : Program} {f : FuncId} {fn : Func} {c : Code} (hf : P.funcs[f]? = some fn) (hname : (fn.name == "runtime.NumGoroutine") = false) (hb : fn.body = some c) : ∀ (args : Array Value) (w : World), (callFunc f args).run P w = .ok (.enter f args) w := fun args w => by
 have hn : ¬ fn.name = "runtime.NumGoroutine" := by simpa using hname
 simp [callFunc, go_sem, hf, hn, hb]
theorem Vb (f : FuncId) (xs : Array Operand) (ts : Array TypeId) (ho : o.op = .call { callee := .value (.func f), args := xs, argTypes := ts }) (hc : ∀ (args : Array Value) (w : World), (callFunc f args).run P w = .ok (.enter f args) w)
  (h : Calls P f (xs.map a.eval) w fun e w'' => ∃ v, e = .returned v ∧ K (a.put o.dst v) w'') : o.wp P a w K Q := by
 unfold Oper.wp execOp;simp only [ho];have hr : ((do let d ← resolve a.eval { callee := .value (.func f), args := xs, argTypes := ts } o.type; invoke d.target d.args) : Sem Next).run P w = .ok (.enter f (xs.map a.eval)) w := by
  simp [resolve, Act.eval, go_sem, hc]
 rw [hr, Oper.upon_enter];refine h.mono fun e w'' ⟨v, he, hk⟩ => ?_;subst he;exact hk
theorem ZcQ (t : TypeId) (ho : o.op = .alloc t) (Z : Array Value) (hr : (Instr.alloc t true (.tuple #[])).run P w = .ok (.pointer (some ⟨w.heap.size, 0, none⟩)) (w.alloc (.cells Z t))) (h : K (a.put o.dst (.pointer (some ⟨w.heap.size, 0, none⟩))) (w.alloc (.cells Z t))) : o.wp P a w K Q := by
 unfold Oper.wp execOp;simp only [ho, Sem.run_bind, hr, Result.andThen_ok, Sem.run_pure];exact h
theorem Zbr (ty : TypeId) (x y : Operand) (ho : o.op = .store ty x y)
  (b n : Nat) (t : TypeId) (u v : Value) (hx : a.eval x = .pointer (some ⟨b, 0, none⟩)) (hy : a.eval y = v) (hb : Box w b n t u) (hv : Cells n v)
  (hi : (P.info? ty).map (·.size) = some n)
  (h : ∀ w', Box w' b n t v → Y5 b (b + 1) w w' → w'.heap.size = w.heap.size → K (a.put o.dst undef) w') : o.wp P a w K Q := by
 obtain ⟨cells, rfl, rfl, h1, ht, k1, k2, k3⟩ := hb.put hv;exact wp_store_mid ty x y ho b 0 cells hx hy ht hi h1 (h _ k1 k2 k3)
end
structure Asr where
  P : World → List Nat → Prop
  loc : ∀ w w' f, w.heap.size ≤ w'.heap.size → (∀ b, b ∈ f → w'.heap[b]? = w.heap[b]?) → P w f → P w' f
def sepP : List Asr → World → List Nat → Prop
 | [], _, f => f = []
 | a :: r, w, f => ∃ f1 f2, f = f1 ++ f2 ∧ a.P w f1 ∧ sepP r w f2
theorem Zbs (rs : List Asr) (w w' : World) (hs : w.heap.size ≤ w'.heap.size) : ∀ f : List Nat, (∀ b, b ∈ f → w'.heap[b]? = w.heap[b]?) → sepP rs w f → sepP rs w' f := by
 induction rs with
 | nil => exact fun _ _ h => h
 | cons a r ih =>
  rintro f hb ⟨f1, f2, rfl, h1, h2⟩;exact ⟨f1, f2, rfl, a.loc w w' f1 hs (fun b h => hb b (List.mem_append_left _ h)) h1, ih f2 (fun b h => hb b (List.mem_append_right _ h)) h2⟩
theorem Qy : ∀ (r s : List Asr) (w : World) (f : List Nat), sepP (r ++ s) w f ↔ ∃ f1 f2, f = f1 ++ f2 ∧ sepP r w f1 ∧ sepP s w f2
 | [], s, w, f => ⟨fun h => ⟨[], f, rfl, rfl, h⟩, fun ⟨f1, f2, e, h1, h2⟩ => by
   have h1 : f1 = [] := h1;rw [e, h1]; exact h2⟩
 | a :: r, s, w, f => by
  constructor
  ·rintro ⟨f1, f2, rfl, h1, h2⟩
   obtain ⟨g1, g2, rfl, h3, h4⟩ := (Qy r s w f2).1 h2;exact ⟨f1 ++ g1, g2, by simp, ⟨f1, g1, rfl, h1, h3⟩, h4⟩
  ·rintro ⟨_, f2, rfl, ⟨g1, g2, rfl, h1, h3⟩, h4⟩
   exact ⟨g1, g2 ++ f2, by simp, h1, (Qy r s w _).2 ⟨g2, f2, rfl, h3, h4⟩⟩
theorem Zj0 {rs rs' : List Asr} (hp : rs.Perm rs') : ∀ (w : World) (f : List Nat), sepP rs w f → ∃ f', f'.Perm f ∧ sepP rs' w f' := by
 induction hp with
 | nil => exact fun w f h => ⟨f, List.Perm.refl _, h⟩
 | cons a _ ih =>
  rintro w _ ⟨f1, f2, rfl, h1, h2⟩;obtain ⟨g, hg, h3⟩ := ih w f2 h2;exact ⟨f1 ++ g, hg.append_left f1, f1, g, rfl, h1, h3⟩
 | swap a b l =>
  rintro w _ ⟨f1, _, rfl, h1, ⟨f2, f3, rfl, h2, h3⟩⟩;refine ⟨f2 ++ (f1 ++ f3), ?_, f2, _, rfl, h2, f1, f3, rfl, h1, h3⟩;rw [← List.append_assoc, ← List.append_assoc];exact (List.perm_append_comm).append_right f3
 | trans _ _ ih1 ih2 =>
  intro w f h;obtain ⟨g, hg, h1⟩ := ih1 w f h;obtain ⟨k, hk, h2⟩ := ih2 w g h1;exact ⟨k, hk.trans hg, h2⟩
theorem Zai {α : Type} : ∀ (s : List α) (i : Nat) (h : i < s.length), s.Perm (s[i] :: s.eraseIdx i)
 | _ :: _, 0, _ => List.Perm.refl _
 | a :: s, i + 1, h => ((Zai s i (by simpa using h)).cons a).trans (List.Perm.swap _ _ _)
def sepA (rs : List Asr) : Asr := ⟨sepP rs, fun w w' f hs => Zbs rs w w' hs f⟩
def exA {α : Type} (A : α → Asr) : Asr := ⟨fun w f => ∃ x, (A x).P w f, fun w w' f hs hb ⟨x, h⟩ => ⟨x, (A x).loc w w' f hs hb h⟩⟩
def pureA (p : Prop) : Asr := ⟨fun _ f => p ∧ f = [], fun _ _ _ _ _ h => h⟩
structure St (W : World) (rs : List Asr) (w : World) : Prop where
  bel : Below W.heap.size W w
  sep : ∃ f, sepP rs w f ∧ f.Nodup ∧ ∀ b, b ∈ f → W.heap.size ≤ b ∧ b < w.heap.size
theorem St.start (w : World) : St w [] w := ⟨Below.refl _ _, [], rfl, List.nodup_nil, fun _ h => by cases h⟩
theorem St.later {W w w' : World} {rs : List Asr} (h : St W rs w) (hb : Below w.heap.size w w') : St W rs w' := by
 obtain ⟨f, h1, h2, h3⟩ := h.sep;exact ⟨h.bel.trans (hb.mono h.bel.size), f, Zbs rs w w' hb.size f (fun b hm => hb.block b (h3 b hm).2) h1, h2, fun b hm => ⟨(h3 b hm).1, Nat.lt_of_lt_of_le (h3 b hm).2 hb.size⟩⟩
theorem St.drew {W w : World} {rs : List Asr} (h : St W rs w) : St W rs w.drew := h.later (Below.refl _ _).drew
theorem St.add {W w w' : World} {rs ns : List Asr} (h : St W rs w) (k : St w ns w') : St W (ns ++ rs) w' := by
 obtain ⟨f, h1, h2, h3⟩ := (h.later k.bel).sep;obtain ⟨f0, h10, _, h30⟩ := h.sep;obtain ⟨g, k1, k2, k3⟩ := k.sep;refine ⟨h.bel.trans (k.bel.mono h.bel.size), g ++ f0, (Qy _ _ _ _).2 ⟨g, f0, rfl, k1, Zbs rs w w' k.bel.size f0 (fun b hm => k.bel.block b (h30 b hm).2) h10⟩, ?_, fun b hm => ?_⟩
 ·rw [List.nodup_append]
  refine ⟨k2, by obtain ⟨f0', h10', h20', _⟩ := h.sep; assumption, fun a ha b hb e => ?_⟩;have := (k3 a ha).1;have := (h30 b hb).2
  omega
 ·rcases List.mem_append.1 hm with hm | hm
  ·exact ⟨Nat.le_trans h.bel.size (k3 b hm).1, (k3 b hm).2⟩
  ·exact ⟨(h30 b hm).1, Nat.lt_of_lt_of_le (h30 b hm).2 k.bel.size⟩
theorem St.perm {W w : World} {rs rs' : List Asr} (h : St W rs w) (hp : rs.Perm rs') : St W rs' w := by
 obtain ⟨f, h1, h2, h3⟩ := h.sep;obtain ⟨g, hg, k1⟩ := Zj0 hp w f h1;exact ⟨h.bel, g, k1, hg.nodup_iff.2 h2, fun b hm => h3 b (hg.mem_iff.1 hm)⟩
theorem St.drop {W w : World} {r s : List Asr} (h : St W (r ++ s) w) : St W s w := by
 obtain ⟨f, h1, h2, h3⟩ := h.sep;obtain ⟨f1, f2, rfl, _, k2⟩ := (Qy _ _ _ _).1 h1;exact ⟨h.bel, f2, k2, (List.nodup_append.1 h2).2.1, fun b hm => h3 b (List.mem_append_right _ hm)⟩
theorem St.tail {W w : World} {a : Asr} {s : List Asr} (h : St W (a :: s) w) : St W s w := St.drop (r := [a]) h
theorem St.erase {W w : World} {s : List Asr} (h : St W s w) (i : Nat) : St W (s.eraseIdx i) w := by
 by_cases hi : i < s.length
 ·exact St.tail (a := s[i]) (h.perm (Zai s i hi))
 ·rw [List.eraseIdx_of_length_le (by omega)]; exact h
theorem St.pick {W w : World} {s : List Asr} (h : St W s w) (i : Nat) {a : Asr} (hi : s[i]? = some a) : St W (a :: s.eraseIdx i) w := by
 obtain ⟨hl, rfl⟩ := List.getElem?_eq_some_iff.1 hi;exact h.perm (Zai s i hl)
theorem St.first {W w : World} {a : Asr} {s : List Asr} (h : St W (a :: s) w) : ∃ f, a.P w f ∧ f.Nodup ∧ ∀ b, b ∈ f → W.heap.size ≤ b ∧ b < w.heap.size := by
 obtain ⟨f, ⟨f1, f2, rfl, h1, _⟩, h2, h3⟩ := h.sep;exact ⟨f1, h1, (List.nodup_append.1 h2).1, fun b hm => h3 b (List.mem_append_left _ hm)⟩
theorem St.get {W w : World} {s : List Asr} (h : St W s w) (i : Nat) {a : Asr} (hi : s[i]? = some a) : ∃ f, a.P w f ∧ f.Nodup ∧ ∀ b, b ∈ f → W.heap.size ≤ b ∧ b < w.heap.size := (h.pick i hi).first
theorem St.mut {W w w' : World} {a a' : Asr} {s : List Asr} (h : St W (a :: s) w) (hos : w'.os = w.os) (ht : w'.tape = w.tape) (ho : w'.output = w.output) (hs : w.heap.size ≤ w'.heap.size)
  (hm : ∀ f, a.P w f → f.Nodup → (∀ b, b ∈ f → W.heap.size ≤ b ∧ b < w.heap.size) → ∃ g, a'.P w' g ∧ g.Nodup ∧ (∀ b, b ∈ g → (b ∈ f ∨ w.heap.size ≤ b) ∧ b < w'.heap.size) ∧ ∀ k, k < w.heap.size → k ∉ f → w'.heap[k]? = w.heap[k]?) : St W (a' :: s) w' := by
 obtain ⟨f, ⟨f1, f2, rfl, h1, h4⟩, h2, h3⟩ := h.sep;rw [List.nodup_append] at h2;obtain ⟨g, k1, k2, k3, k4⟩ := hm f1 h1 h2.1 (fun b hb => h3 b (List.mem_append_left _ hb));refine ⟨⟨hos.trans h.bel.os, ht.trans h.bel.tape, ho.trans h.bel.output, Nat.le_trans h.bel.size hs, fun k hk => (k4 k (Nat.lt_of_lt_of_le hk h.bel.size) (fun hb => ?_)).trans (h.bel.block k hk)⟩, g ++ f2, ⟨g, f2, rfl, k1, Zbs s w w' hs f2 (fun b hb => k4 b (h3 b (List.mem_append_right _ hb)).2 (fun hb1 => h2.2.2 b hb1 b hb rfl)) h4⟩, ?_, fun b hb => ?_⟩
 ·have := (h3 k (List.mem_append_left _ hb)).1; omega
 ·rw [List.nodup_append]
  refine ⟨k2, h2.2.1, fun x hx y hy e => ?_⟩;subst e;rcases (k3 x hx).1 with hx1 | hx1
  ·exact h2.2.2 x hx1 x hy rfl
  ·have := (h3 x (List.mem_append_right _ hy)).2; omega
 ·rcases List.mem_append.1 hb with hb | hb
  ·refine ⟨?_, (k3 b hb).2⟩
   rcases (k3 b hb).1 with hx | hx
   ·exact (h3 b (List.mem_append_left _ hx)).1
   ·have := h.bel.size; omega
  ·exact ⟨(h3 b (List.mem_append_right _ hb)).1, Nat.lt_of_lt_of_le (h3 b (List.mem_append_right _ hb)).2 hs⟩
theorem St.imp {W w : World} {a a' : Asr} {s : List Asr} (h : St W (a :: s) w) (hi : ∀ f, a.P w f → f.Nodup → (∀ b, b ∈ f → W.heap.size ≤ b ∧ b < w.heap.size) → a'.P w f) : St W (a' :: s) w :=
 h.mut rfl rfl rfl (Nat.le_refl _) fun f h1 h2 h3 => ⟨f, hi f h1 h2 h3, h2, fun b hb => ⟨.inl hb, (h3 b hb).2⟩, fun _ _ _ => rfl⟩
theorem St.join {W w : World} {r s : List Asr} : St W (r ++ s) w ↔ St W (sepA r :: s) w := by
 constructor
 ·intro h
  obtain ⟨f, h1, h2, h3⟩ := h.sep;obtain ⟨f1, f2, rfl, k1, k2⟩ := (Qy _ _ _ _).1 h1;exact ⟨h.bel, _, ⟨f1, f2, rfl, k1, k2⟩, h2, h3⟩
 ·intro h
  obtain ⟨f, ⟨f1, f2, rfl, k1, k2⟩, h2, h3⟩ := h.sep;exact ⟨h.bel, _, (Qy _ _ _ _).2 ⟨f1, f2, rfl, k1, k2⟩, h2, h3⟩
theorem St.ex {W w : World} {α : Type} {A : α → Asr} {s : List Asr} (h : St W (exA A :: s) w) : ∃ x, St W (A x :: s) w := by
 obtain ⟨f, ⟨f1, f2, rfl, ⟨x, k1⟩, k2⟩, h2, h3⟩ := h.sep;exact ⟨x, h.bel, _, ⟨f1, f2, rfl, k1, k2⟩, h2, h3⟩
theorem St.exI {W w : World} {α : Type} {A : α → Asr} {s : List Asr} (x : α) (h : St W (A x :: s) w) : St W (exA A :: s) w := by
 obtain ⟨f, ⟨f1, f2, rfl, k1, k2⟩, h2, h3⟩ := h.sep;exact ⟨h.bel, _, ⟨f1, f2, rfl, ⟨x, k1⟩, k2⟩, h2, h3⟩
theorem St.pure {W w : World} {p : Prop} {s : List Asr} : St W (pureA p :: s) w ↔ p ∧ St W s w := by
 constructor
 ·intro h
  obtain ⟨f, ⟨f1, f2, rfl, ⟨hp, rfl⟩, k2⟩, h2, h3⟩ := h.sep;exact ⟨hp, h.bel, _, k2, h2, h3⟩
 ·rintro ⟨hp, h⟩
  obtain ⟨f, h1, h2, h3⟩ := h.sep;exact ⟨h.bel, f, ⟨[], f, rfl, ⟨hp, rfl⟩, h1⟩, h2, h3⟩
def boxA (b n : Nat) (t : TypeId) (v : Value) : Asr := ⟨fun w f => f = [b] ∧ Box w b n t v, fun w w' f _ hb ⟨e, h⟩ => ⟨e, by
 obtain ⟨cs, h1, h2, h3, h4⟩ := h;exact ⟨cs, h1, h2, h3, (hb b (by rw [e]; simp)).trans h4⟩⟩⟩
theorem St.box {W w : World} {s : List Asr} (h : St W s w) (i : Nat) {b n : Nat} {t : TypeId} {v : Value} (hi : s[i]? = some (boxA b n t v)) : Box w b n t v := by
 obtain ⟨f, ⟨_, hb⟩, _⟩ := h.get i hi;exact hb
theorem St.alloc {W w : World} {s : List Asr} (h : St W s w) (cs : List Value) (t : TypeId) (h1 : (cs.all fun u => u.oneCell') = true) : St W (boxA w.heap.size cs.length t (.agg cs.toArray) :: s) (w.alloc (.cells cs.toArray t)) :=
 St.add (ns := [boxA w.heap.size cs.length t (.agg cs.toArray)]) h ⟨(Below.refl _ _).alloc (Nat.le_refl _) _, [w.heap.size], ⟨[w.heap.size], [], rfl, ⟨rfl, Box.new w cs t h1 rfl⟩, rfl⟩, by simp, fun b hb => by
  obtain rfl : b = w.heap.size := by simpa using hb
  exact ⟨Nat.le_refl _, by rw [Zk9]; omega⟩⟩
theorem Zlg {α : Type} (s : List α) (i : Nat) (a : α) (hi : i < s.length) : (a :: s.eraseIdx i).Perm (s.set i a) := by
 have h := (Zai (s.set i a) i (by simpa using hi)).symm;rw [List.eraseIdx_set_eq, List.getElem_set_self] at h;exact h
theorem St.mutAt {W w w' : World} {a a' : Asr} {s : List Asr} (h : St W s w) (i : Nat) (hi : s[i]? = some a) (hos : w'.os = w.os) (ht : w'.tape = w.tape) (ho : w'.output = w.output) (hs : w.heap.size ≤ w'.heap.size)
  (hm : ∀ f, a.P w f → f.Nodup → (∀ b, b ∈ f → W.heap.size ≤ b ∧ b < w.heap.size) → ∃ g, a'.P w' g ∧ g.Nodup ∧ (∀ b, b ∈ g → (b ∈ f ∨ w.heap.size ≤ b) ∧ b < w'.heap.size) ∧ ∀ k, k < w.heap.size → k ∉ f → w'.heap[k]? = w.heap[k]?) : St W (s.set i a') w' :=
 (St.mut (h.pick i hi) hos ht ho hs hm).perm (Zlg s i a' (List.getElem?_eq_some_iff.1 hi).1)
theorem St.putBox {W w w' : World} {s : List Asr} (h : St W s w) (i : Nat) {b n : Nat} {t : TypeId} {u v : Value} (hi : s[i]? = some (boxA b n t u)) (hb : Box w' b n t v) (ho : Y5 b (b + 1) w w') : St W (s.set i (boxA b n t v)) w' :=
 h.mutAt i hi ho.os ho.tape ho.output ho.size fun f ⟨e, _⟩ _ h3 => ⟨f, ⟨e, hb⟩, by rw [e]; simp, fun c hc => ⟨.inl hc, Nat.lt_of_lt_of_le (h3 c hc).2 ho.size⟩, fun k hk hn => ho.block k hk (by rw [e] at hn; simp at hn; omega)⟩
theorem St.putField {W w : World} {s : List Asr} (h : St W s w) (i : Nat) {b n : Nat} {t : TypeId} {l : Array Value} (hi : s[i]? = some (boxA b n t (.agg l))) (k : Nat) {u : Value} (hu : u.oneCell' = true) : St W (s.set i (boxA b n t (.agg (l.setIfInBounds k u)))) (w.setCell ⟨b, k, none⟩ u) :=
 h.putBox i hi ((h.box i hi).putField k hu) ((Y5.refl _ _ _).set (by simp) _)
def Zg {α : Type} (enc : α → List Value) (size : Nat) (e : TypeId) (v : Value) (xs : List α) : Asr :=
 ⟨fun w f => f = (Value.rowBlock v).toList ∧ ∃ B1, RowO enc size e w 0 B1 v xs, fun w w' f _ hb ⟨e1, B1, h⟩ => ⟨e1, B1, by
  refine h.by fun hq ⟨hl, ho⟩ => ⟨hl, ?_⟩
  rcases ho with ho | ⟨g, cap, cur, hv, hB, hg, rest⟩
  ·exact .inl ho
  ·exact .inr ⟨g, cap, cur, hv, hB, (hb g (by rw [e1, hq, hv]; simp [Value.ownBlock])).trans hg, rest⟩⟩⟩
theorem RowO.bounds {α : Type} {enc : α → List Value} {size : Nat} {e : TypeId} {w : World} {B B1 C C1 : Nat} {v : Value} {xs : List α} (h : RowO enc size e w B B1 v xs) (hb : ∀ g, Value.rowBlock v = some g → C ≤ g ∧ g < C1) : RowO enc size e w C C1 v xs := by
 obtain ⟨ao, cap, rfl, ho, hg⟩ := h;refine ⟨ao, cap, rfl, ?_, fun g h => (hb g h).2⟩;rcases ho with ho | ho
 ·exact .inl ho
 ·by_cases h0 : cap = 0
  ·obtain ⟨ao', cap', hv, hle, _⟩ := XT ho
   simp only [Value.slice.injEq, true_and] at hv;obtain ⟨rfl, rfl⟩ := hv;exact .inl ⟨h0, List.length_eq_zero_iff.1 (by omega)⟩
  ·refine .inr ⟨ho.1, ?_⟩
   rcases ho.2 with hn | ⟨g, cap', cur, hv, hB, rest⟩
   ·exact .inl hn
   ·have hr : Value.rowBlock (.slice ao xs.length cap) = some g := by rw [Ju h0, hv]; rfl
    exact .inr ⟨g, cap', cur, hv, (hb g hr).1, rest⟩
theorem RowO.opn {α : Type} {enc : α → List Value} {size : Nat} {e : TypeId} {w : World} {B B1 : Nat} {ao : Option Addr} {cap : Nat} {xs : List α} (h : RowO enc size e w B B1 (.slice ao xs.length cap) xs) (hpos : 0 < xs.length) :
  ∃ g, ao = some ⟨g, 0, Option.none⟩ ∧ B ≤ g ∧ g < B1 ∧ g < w.heap.size ∧ Value.rowBlock (.slice ao xs.length cap) = some g ∧ w.ownsRow B e size (.slice (some ⟨g, 0, Option.none⟩) xs.length cap) xs.length (xs.flatMap enc) := by
 obtain ⟨ao', cap', hv, hc, hg⟩ := h;simp only [Value.slice.injEq, true_and] at hv;obtain ⟨rfl, rfl⟩ := hv;rcases hc with ⟨_, hx⟩ | ho
 ·rw [hx] at hpos; exact absurd hpos (Nat.lt_irrefl _)
 ·obtain ⟨ao', cap', hv, hle, _, hb⟩ := XT ho
  simp only [Value.slice.injEq, true_and] at hv;obtain ⟨rfl, rfl⟩ := hv;obtain ⟨g, rfl, h1, h2⟩ := hb hpos;have hr : Value.rowBlock (.slice (some ⟨g, 0, Option.none⟩) xs.length cap) = some g := by rw [Ju (by omega)]; rfl
  exact ⟨g, rfl, h1, hg g hr, h2, hr, ho⟩
theorem RowO.asr {α : Type} {enc : α → List Value} {size : Nat} {e : TypeId} {w : World} {B B1 : Nat} {v : Value} {xs : List α} (h : RowO enc size e w B B1 v xs) : (Zg enc size e v xs).P w (Value.rowBlock v).toList :=
 ⟨rfl, B1, h.mono (Nat.zero_le _) (Nat.le_refl _)⟩
theorem Zbt {α : Type} (o : Option α) : o.toList.Nodup := by cases o <;> simp
theorem RowO.foot {α : Type} {enc : α → List Value} {size : Nat} {e : TypeId} {w : World} {B B1 : Nat} {v : Value} {xs : List α} (h : RowO enc size e w B B1 v xs) : ∀ b, b ∈ (Value.rowBlock v).toList → B ≤ b ∧ b < B1 ∧ b < w.heap.size := fun b hb => h.lt b (by simpa using hb)
theorem St.row {α : Type} {enc : α → List Value} {size : Nat} {e : TypeId} {W w : World} {v : Value} {xs : List α} {s : List Asr} (h : St W s w) (i : Nat) (hi : s[i]? = some (Zg enc size e v xs)) : RowO enc size e w W.heap.size w.heap.size v xs := by
 obtain ⟨f, ⟨e1, B1, hr⟩, _, hb⟩ := h.get i hi;exact hr.bounds fun g hg => hb g (by rw [e1, hg]; simp)
theorem St.rdS {α : Type} {enc : α → List Value} {size : Nat} (he : ∀ x, (enc x).length = size) {e : TypeId} {W w : World} {v : Value} {xs : List α} {s : List Asr} (h : St W s w) (i : Nat) (hi : s[i]? = some (Zg enc size e v xs)) : RdS enc size w v xs := (h.row i hi).rd he
theorem St.ofRow {α : Type} {enc : α → List Value} {size : Nat} {e : TypeId} {w w' : World} {B1 : Nat} {v : Value} {xs : List α} (h : RowO enc size e w' w.heap.size B1 v xs) (hb : Below w.heap.size w w') : St w [Zg enc size e v xs] w' :=
 ⟨hb, _, ⟨_, [], (List.append_nil _).symm, h.asr, rfl⟩, Zbt _, fun b hm => ⟨(h.foot b hm).1, (h.foot b hm).2.2⟩⟩
theorem St.nilRow {α : Type} {W w : World} {s : List Asr} (h : St W s w) (enc : α → List Value) (size : Nat) (e : TypeId) (ao : Option Addr) : St W (Zg enc size e (.slice ao 0 0) ([] : List α) :: s) w := by
 obtain ⟨f, h1, h2, h3⟩ := h.sep;exact ⟨h.bel, f, ⟨[], f, rfl, ⟨by rw [Jb]; rfl, 0, RowO.empty enc size e w 0 0 ao⟩, h1⟩, h2, h3⟩
theorem St.mutRow {α : Type} {enc : α → List Value} {size : Nat} {e : TypeId} {W w w' : World} {v v' : Value} {xs ys : List α} {s : List Asr} (h : St W s w) (i : Nat) (hi : s[i]? = some (Zg enc size e v xs)) {B : Nat}
  (hr : RowO enc size e w' B w'.heap.size v' ys) (hg : w.grownBy w' (Value.rowBlock v)) (hn : ∀ g, Value.rowBlock v' = some g → Value.rowBlock v = some g ∨ w.heap.size ≤ g) : St W (s.set i (Zg enc size e v' ys)) w' :=
 h.mutAt i hi hg.os hg.tape hg.output hg.size fun f ⟨e1, _⟩ _ _ => ⟨_, hr.asr, Zbt _, fun b hb => ⟨by
  rcases hn b (by simpa using hb) with h | h
  ·exact .inl (by rw [e1, h]; simp)
  ·exact .inr h, (hr.foot b hb).2.2⟩, fun k hk hnk => hg.block k hk (fun e2 => hnk (by rw [e1, ← e2]; simp))⟩
def lk : List (Nat × Value) → Nat → Option Value
 | [], _ => none
 | (j, v) :: r, k => bif Nat.beq j k then some v else lk r k
structure Fr (N : Nat) (a : Act) (l : List (Nat × Value)) : Prop where
  sz : a.tmps.size = N
  df : a.defers = []
  at_ : ∀ k v, lk l k = some v → a.tmps[k]? = some v
def evO (l : List (Nat × Value)) : Operand → Option Value
 | .tmp k => lk l k
 | .const v => some v
 | .func f => some (.func (.func f) #[] #[])
 | .global g => some (.pointer (some ⟨g, 0, none⟩))
theorem Fr.ev {N : Nat} {a : Act} {l : List (Nat × Value)} (h : Fr N a l) {x : Operand} {v : Value} (hx : evO l x = some v) : a.eval x = v := by
 cases x with
 | tmp k => simp only [Act.eval, Array.getD_eq_getD_getElem?, h.at_ k v hx, Option.getD_some]
 | const u => exact Option.some.inj hx
 | func f => exact Option.some.inj hx
 | global g => exact Option.some.inj hx
theorem Fr.put {N : Nat} {a : Act} {l : List (Nat × Value)} (h : Fr N a l) {d : Nat} (hd : d < N) (v : Value) : Fr N (a.put (some d) v) ((d, v) :: l) := by
 refine ⟨by rw [Zlf]; exact h.sz, by rw [Zig]; exact h.df, fun k u hu => ?_⟩;unfold lk at hu
 cases hb : Nat.beq d k with
 | true =>
  rw [hb] at hu;obtain rfl := Nat.eq_of_beq_eq_true hb;obtain rfl := Option.some.inj hu;have := h.sz;simp [Act.put, Array.getElem?_setIfInBounds, this, hd]
 | false =>
  rw [hb] at hu;rw [Zm6 a d v k (fun e => by subst e; simp at hb)];exact h.at_ k u hu
theorem Fr.sub {N : Nat} {a : Act} {l l' : List (Nat × Value)} (h : Fr N a l) (hs : ∀ p ∈ l', lk l p.1 = some p.2) : Fr N a l' := by
 refine ⟨h.sz, h.df, fun k v hv => h.at_ k v ?_⟩;have key : ∀ l' : List (Nat × Value), (∀ p ∈ l', lk l p.1 = some p.2) → lk l' k = some v → lk l k = some v := by
  intro l'
  induction l' with
  | nil => intro _ hv; cases hv
  | cons p r ih =>
   obtain ⟨j, u⟩ := p;intro hs hv;unfold lk at hv
   cases hb : Nat.beq j k with
   | true =>
    rw [hb] at hv;obtain rfl := Nat.eq_of_beq_eq_true hb;rw [hs (j, u) (by simp)]; exact hv
   | false =>
    rw [hb] at hv;exact ih (fun p hp => hs p (by simp [hp])) hv
 exact key l' hs hv
theorem Fr.start {tmps : Array Value} {l : List (Nat × Value)} {N : Nat} (hN : tmps.size = N) (hl : ∀ p ∈ l, tmps[p.1]? = some p.2) : Fr N { tmps := tmps, defers := [] } l := by
 refine ⟨hN, rfl, fun k v hv => ?_⟩;have key : ∀ l : List (Nat × Value), (∀ p ∈ l, tmps[p.1]? = some p.2) → lk l k = some v → tmps[k]? = some v := by
  intro l
  induction l with
  | nil => intro _ hv; cases hv
  | cons p r ih =>
   obtain ⟨j, u⟩ := p;intro hs hv;unfold lk at hv
   cases hb : Nat.beq j k with
   | true =>
    rw [hb] at hv;obtain rfl := Nat.eq_of_beq_eq_true hb;obtain rfl := Option.some.inj hv;exact hs (j, u) (by simp)
   | false =>
    rw [hb] at hv;exact ih (fun p hp => hs p (by simp [hp])) hv
 exact key l hl hv
theorem Fr.yield {N : Nat} {a : Act} {l : List (Nat × Value)} (h : Fr N a l) {ops : Array Oper} {g d : Nat} (hg : (ops[g]?).bind (·.dst) = some d) {b : Bool} (hb : lk l d = some (.bool b)) : yielded ops a.tmps g = some b := by
 simp [yielded, hg, h.at_ d _ hb]
theorem Uh {o : Oper} {y : Nat → Option Bool} (hg : o.guard = none) : Region.wanted o y = true := by simp [Region.wanted, hg]
theorem Fr.want {N : Nat} {a : Act} {l : List (Nat × Value)} (h : Fr N a l) {o : Oper} {ops : Array Oper} {g d : Nat} {b : Bool} (ho : o.guard = some (g, b)) (hg : (ops[g]?).bind (·.dst) = some d) (hb : lk l d = some (.bool b)) : Region.wanted o (yielded ops a.tmps) = true := by
 simp [Region.wanted, ho, h.yield hg hb]
theorem Fr.skip {N : Nat} {a : Act} {l : List (Nat × Value)} (h : Fr N a l) {o : Oper} {ops : Array Oper} {g d : Nat} {b c : Bool} (ho : o.guard = some (g, b)) (hg : (ops[g]?).bind (·.dst) = some d) (hb : lk l d = some (.bool c)) (hc : (c == b) = false) : Region.wanted o (yielded ops a.tmps) = false := by
 have : ¬ c = b := by simpa using hc
 simp [Region.wanted, ho, h.yield hg hb, this]
def Yl (P : Program) (w : World) (o : Oper) (a : Act) (v : Value) : Prop := (execOp a.eval o).run P w = .ok (.value v) w
section
variable {P : Program} {w : World} {o : Oper} {a : Act} {x y z : Operand} {t t' : TypeId}
theorem Y6 (ho : o.op = .move x) {v : Value} (hx : a.eval x = v) : Yl P w o a v := by simp [Yl, execOp, ho, hx]
theorem ZeX (ho : o.op = .assign x) {v : Value} (hx : a.eval x = v) : Yl P w o a v := by simp [Yl, execOp, ho, hx]
theorem Zj1 (ho : o.op = .pick z x y) (hz : a.eval z = .bool true) {v : Value} (hx : a.eval x = v) : Yl P w o a v := by simp [Yl, execOp, ho, hx, hz, asBool]
theorem Zj2 (ho : o.op = .pick z x y) (hz : a.eval z = .bool false) {v : Value} (hy : a.eval y = v) : Yl P w o a v := by simp [Yl, execOp, ho, hy, hz, asBool]
theorem Zou (ho : o.op = .unOp .not t x) {b : Bool} (hx : a.eval x = .bool b) : Yl P w o a (.bool !b) := by simp [Yl, execOp, ho, hx, Op.unary]
theorem Qz (ho : o.op = .nilCheck x) {p : Addr} (hx : a.eval x = .pointer (some p)) : Yl P w o a (.pointer (some p)) := by simp [Yl, execOp, ho, hx]
theorem Zih {i : Nat} (ho : o.op = .extract x i) {vs : Array Value} (hx : a.eval x = .tuple vs) {v : Value} (hv : vs[i]? = some v) : Yl P w o a v := by simp [Yl, execOp, ho, hx, Instr.extract, hv]
section
variable {k : IntKind} {m n : Int}
theorem Zm7 (ho : o.op = .binOp .eql t x y t') (hx : a.eval x = .int k m) (hy : a.eval y = .int k n) : Yl P w o a (.bool (m == n)) := by simp [Yl, execOp, ho, hx, hy, eqGuard, binOp, Op.intCmp]
theorem Zm8 (ho : o.op = .binOp .neq t x y t') (hx : a.eval x = .int k m) (hy : a.eval y = .int k n) : Yl P w o a (.bool (m != n)) := by simp [Yl, execOp, ho, hx, hy, eqGuard, binOp, Op.intCmp]
theorem Zm9 (ho : o.op = .binOp .lss t x y t') (hx : a.eval x = .int k m) (hy : a.eval y = .int k n) : Yl P w o a (.bool (decide (m < n))) := by simp [Yl, execOp, ho, hx, hy, eqGuard, binOp, Op.intCmp]
theorem Zna (ho : o.op = .binOp .leq t x y t') (hx : a.eval x = .int k m) (hy : a.eval y = .int k n) : Yl P w o a (.bool (decide (m ≤ n))) := by simp [Yl, execOp, ho, hx, hy, eqGuard, binOp, Op.intCmp]
theorem Znb (ho : o.op = .binOp .gtr t x y t') (hx : a.eval x = .int k m) (hy : a.eval y = .int k n) : Yl P w o a (.bool (decide (n < m))) := by simp [Yl, execOp, ho, hx, hy, eqGuard, binOp, Op.intCmp]
theorem Znc (ho : o.op = .binOp .geq t x y t') (hx : a.eval x = .int k m) (hy : a.eval y = .int k n) : Yl P w o a (.bool (decide (n ≤ m))) := by simp [Yl, execOp, ho, hx, hy, eqGuard, binOp, Op.intCmp]
theorem Yc (ho : o.op = .binOp .add t x y t') (hx : a.eval x = .int k m) (hy : a.eval y = .int k n) {r : Int} (hr : k.wrap (m + n) = r) : Yl P w o a (.int k r) := by simp [Yl, execOp, ho, hx, hy, eqGuard, binOp, Op.intArith, hr]
theorem ZO (ho : o.op = .binOp .sub t x y t') (hx : a.eval x = .int k m) (hy : a.eval y = .int k n) {r : Int} (hr : k.wrap (m - n) = r) : Yl P w o a (.int k r) := by simp [Yl, execOp, ho, hx, hy, eqGuard, binOp, Op.intArith, hr]
theorem Y8 (ho : o.op = .binOp .mul t x y t') (hx : a.eval x = .int k m) (hy : a.eval y = .int k n) {r : Int} (hr : k.wrap (m * n) = r) : Yl P w o a (.int k r) := by simp [Yl, execOp, ho, hx, hy, eqGuard, binOp, Op.intArith, hr]
theorem Jc (ho : o.op = .binOp .quo t x y t') (hx : a.eval x = .int k m) (hy : a.eval y = .int k n) (hn : n ≠ 0) {r : Int} (hr : k.wrap (m.tdiv n) = r) : Yl P w o a (.int k r) := by simp [Yl, execOp, ho, hx, hy, eqGuard, binOp, Op.intDiv, hn, hr]
theorem QK (ho : o.op = .binOp .rem t x y t') (hx : a.eval x = .int k m) (hy : a.eval y = .int k n) (hn : n ≠ 0) {r : Int} (hr : m.tmod n = r) : Yl P w o a (.int k r) := by simp [Yl, execOp, ho, hx, hy, eqGuard, binOp, Op.intDiv, hn, hr]
end
section
variable {m n : ByteArray}
theorem Y7 (ho : o.op = .binOp .eql t x y t') (hx : a.eval x = .string m) (hy : a.eval y = .string n) : Yl P w o a (.bool (m.toList == n.toList)) := by simp [Yl, execOp, ho, hx, hy, eqGuard, binOp, Op.stringOp]
theorem Xk (ho : o.op = .binOp .neq t x y t') (hx : a.eval x = .string m) (hy : a.eval y = .string n) : Yl P w o a (.bool !(m.toList == n.toList)) := by simp [Yl, execOp, ho, hx, hy, eqGuard, binOp, Op.stringOp]
theorem ZB (ho : o.op = .binOp .add t x y t') (hx : a.eval x = .string m) (hy : a.eval y = .string n) (hs : m.size + n.size ≤ 9223372036854775807) : Yl P w o a (.string (m ++ n)) := by
 have : ¬ (((m.size + n.size : Nat) : Int) > IntKind.i64.max) := by show ¬ (_ > (9223372036854775807 : Int)); omega
 simp [Yl, execOp, ho, hx, hy, eqGuard, binOp, Op.stringOp, this] <;> first | omega | skip
end
def JM (P : Program) (t : TypeId) (i : Nat) : Option Nat :=
 match P.underlying t with
 | some (.struct fs) => match fs[i]? with
  | some f => match P.info? f.type with
   | some inf => if inf.size = 0 then none else some f.offset
   | none => none
  | none => none
 | _ => none
def Yv (P : Program) (t : TypeId) : Option (TypeId × Nat) :=
 match P.underlying t with
 | some (.slice e) => match P.info? e with
  | some inf => some (e, inf.size)
  | none => none
 | _ => none
theorem Zbu {i : Nat} (ho : o.op = .fieldAddr t x i) {b k : Nat} (hx : a.eval x = .pointer (some ⟨b, k, none⟩)) {j : Nat} (hj : JM P t i = some j) : Yl P w o a (.pointer (some ⟨b, k + j, none⟩)) := by
 unfold JM at hj
 split at hj
 ·rename_i fs hu
  split at hj
  ·rename_i f hf
   split at hj
   ·rename_i inf hq
    split at hj
    ·cases hj
    ·rename_i hz
     obtain rfl := Option.some.inj hj;unfold Yl execOp;simp only [ho, hx, Instr.fieldAt, Sem.run_bind, run_underlying hu w, Result.andThen_ok, hf, Instr.sureAddr, Sem.run_pure];simp [fieldPlace, sizeOf, typeInfo, go_sem, hq, hz, Addr.add_mid]
   ·cases hj
  ·cases hj
 ·cases hj
theorem Z1 (ho : o.op = .indexAddr t x y) {g off len cap : Nat} (hx : a.eval x = .slice (some ⟨g, off, none⟩) len cap) {k : IntKind} {m : Int} (hy : a.eval y = .int k m) {e : TypeId} {i size : Nat} (hu : Yv P t = some (e, size)) (hm : m = (i : Int)) (hi : i < len) : Yl P w o a (.pointer (some ⟨g, off + i * size, none⟩)) := by
 subst hm;unfold Yv at hu
 split at hu
 ·rename_i e' hu'
  split at hu
  ·rename_i inf hq
   obtain ⟨rfl, rfl⟩ := Prod.mk.inj (Option.some.inj hu);have h0 : (0 : Int) ≤ (i : Int) ∧ (i : Int) < (len : Int) := ⟨by omega, by omega⟩;unfold Yl execOp;simp only [ho, hx, hy, Instr.indexAt, Sem.run_bind, asIntOf, Sem.run_pure, run_underlying hu' w, Result.andThen_ok, if_pos h0];simp [sizeOf, typeInfo, go_sem, hq, Addr.add_mid, h0]
  ·cases hu
 ·cases hu
theorem Jd (ho : o.op = .indexAddr t x y) {ao : Option Addr} {len cap : Nat} (hx : a.eval x = .slice ao len cap) {k : IntKind} {m : Int} (hy : a.eval y = .int k m) {e : TypeId} {i size : Nat} (hu : Yv P t = some (e, size)) (hm : m = (i : Int)) (hi : i < len) {g off : Nat} (hao : ao = some ⟨g, off, none⟩) : Yl P w o a (.pointer (some ⟨g, off + i * size, none⟩)) := by
 subst hao;exact Z1 ho hx hy hu hm hi
theorem YQ (ho : o.op = .index t x y) {s : ByteArray} (hx : a.eval x = .string s) {k : IntKind} {m : Int} (hy : a.eval y = .int k m) (hu : P.underlying t = some .string) {i : Nat} (hm : m = (i : Int)) (hi : i < s.size) : Yl P w o a (.int .u8 ((s.get! i).toNat : Int)) := by
 subst hm;have h1 : s[((i : Nat) : Int).toNat]? = some (s.get! i) := by
  simp only [Int.toNat_natCast];rw [getElem?_pos s i hi]
  congr 1
  simp [ByteArray.get!, hi]
  rfl
 have h0 : (0 : Int) ≤ (i : Int) := by omega
 unfold Yl execOp;simp only [ho, hx, hy, Instr.index, Sem.run_bind, asIntOf, Sem.run_pure, Result.andThen_ok, run_underlying hu w, if_pos h0, h1]
theorem UC (ho : o.op = .convert t t' x) {n : Int} (hx : a.eval x = .int .u8 n) (hn : 0 ≤ n ∧ n ≤ 255) (hu : P.underlying t = some (.int .u8)) (hu' : P.underlying t' = some (.int .i64)) : Yl P w o a (.int .i64 n) := by
 unfold Yl execOp;simp only [ho, hx];simp [convert, go_sem, run_underlying hu w, run_underlying hu' w];exact IntWalk.i64_in _ (by omega)
theorem ZM (ho : o.op = .call { callee := .builtin .len, args := #[x], argTypes := #[t] }) {s : ByteArray} (hx : a.eval x = .string s) (hu : P.underlying t = some .string) : Yl P w o a (.int .i64 s.size) := by
 unfold Yl execOp;simp only [ho, resolve, List.map_toArray, List.map_cons, List.map_nil, hx, Sem.run_bind, Sem.run_pure, Result.andThen_ok, invoke, builtin, Builtin.len_, List.getElem?_toArray, List.getElem?_cons_zero, run_underlying hu w];simp [Builtin.len_, go_sem, run_underlying hu w, goInt]
theorem Znd (ho : o.op = .call { callee := .builtin .len, args := #[x], argTypes := #[t] }) {ao : Option Addr} {n cap : Nat} (hx : a.eval x = .slice ao n cap) {e : TypeId} {size : Nat} (hu : Yv P t = some (e, size)) : Yl P w o a (.int .i64 n) := by
 unfold Yv at hu
 split at hu
 ·rename_i e' hu'
  unfold Yl execOp;simp only [ho, resolve, List.map_toArray, List.map_cons, List.map_nil, hx, Sem.run_bind, Sem.run_pure, Result.andThen_ok, invoke, builtin];simp [Builtin.len_, go_sem, run_underlying hu' w, goInt]
 ·cases hu
def YH (P : Program) (t : TypeId) : Bool :=
 (match P.underlying t with
 | some (.struct _) => false
 | some (.array _ _) => false
 | some _ => true
 | none => false) && (match P.info? t with
  | some inf => decide (inf.size = 1)
  | none => false)
def XW (P : Program) (t : TypeId) (n : Nat) : Bool :=
 (match P.underlying t with
 | some (.struct _) => true
 | some (.array _ _) => true
 | _ => false) && (match P.info? t with
  | some inf => decide (inf.size = n)
  | none => false)
theorem ZfY {P : Program} {t : TypeId} (h : YH P t = true) (w : World) : (isAgg t).run P w = .ok false w := by
 unfold YH at h;rw [Bool.and_eq_true] at h;obtain ⟨h, _⟩ := h
 cases hu : P.underlying t with
 | none => rw [hu] at h; cases h
 | some d =>
  rw [hu] at h;unfold isAgg;rw [Sem.run_bind, run_underlying hu w]
  cases d <;> first | (simp at h; done) | simp
theorem ZgP {P : Program} {t : TypeId} (h : YH P t = true) : (P.info? t).map (·.size) = some 1 := by
 unfold YH at h;rw [Bool.and_eq_true] at h;obtain ⟨_, h⟩ := h
 cases hq : P.info? t with
 | none => rw [hq] at h; cases h
 | some inf => rw [hq] at h; simpa using h
theorem Qr {P : Program} {t : TypeId} {n : Nat} (h : XW P t n = true) : (∃ d, P.underlying t = some d ∧ d.isRow = true) ∧ (P.info? t).map (·.size) = some n := by
 unfold XW at h;rw [Bool.and_eq_true] at h;obtain ⟨h1, h2⟩ := h
 constructor
 ·cases hu : P.underlying t with
  | none => rw [hu] at h1; cases h1
  | some d =>
   rw [hu] at h1;refine ⟨d, rfl, ?_⟩
   cases d <;> first | (simp at h1; done) | rfl
 ·cases hq : P.info? t with
  | none => rw [hq] at h2; cases h2
  | some inf => rw [hq] at h2; simpa using h2
theorem QL (ho : o.op = .load t x) {p : Addr} (hx : a.eval x = .pointer (some p)) {v : Value} (hc : w.cell? p = some v) (hs : YH P t = true) : Yl P w o a v := by
 unfold Yl execOp;simp only [ho, hx, Instr.loadAt, Instr.sureAddr, loadVar, Sem.run_bind, Sem.run_pure, Result.andThen_ok, ZfY hs w];simp [go_sem, hc]
theorem VG (ho : o.op = .load t x) {b k : Nat} (hx : a.eval x = .pointer (some ⟨b, k, none⟩)) {cs : List Value} (hc : w.rangeAt b k cs) (hs : XW P t cs.length = true) : Yl P w o a (.agg cs.toArray) := by
 obtain ⟨⟨d, hu, hd⟩, hi⟩ := Qr hs;unfold Yl execOp;simp only [ho, hx, Sem.run_bind, run_loadAt_mid w b k t cs d hc hu hd hi, Result.andThen_ok, Sem.run_pure]
def Zii (P : Program) (t : TypeId) (parts : List (Nat × Value)) : Option (Array Value) :=
 match P.info? t with
 | none => none
 | some inf => match inf.zero with
  | none => none
  | some z => match P.underlying t with
   | some (.struct fs) => match fs.toList.mapM (fun f => (P.info? f.type).map fun g => (f.offset, g.size)) with
    | some places => Instr.fill (places.toArray[·]?) z.cells parts
    | none => none
   | _ => none
theorem JN {P : Program} {t : TypeId} {g : TypeInfo} (hq : P.info? t = some g) (w : World) : (sizeOf t).run P w = .ok g.size w := by
 simp [sizeOf, typeInfo, go_sem, hq]
theorem Zdy {P : Program} {t : TypeId} {g : TypeInfo} (hq : P.info? t = some g) {z : Value} (hz : g.zero = some z) (w : World) : (zeroValue t).run P w = .ok z w := by
 simp [zeroValue, typeInfo, go_sem, hq, hz]
theorem Zdz {P : Program} (w : World) : ∀ (fs : List Field) (places : List (Nat × Nat)), fs.mapM (fun f => (P.info? f.type).map fun g => (f.offset, g.size)) = some places →
  (fs.mapM (fun f => do pure (f.offset, ← sizeOf f.type)) : Sem (List (Nat × Nat))).run P w = .ok places w
 | [], places, h => by
  obtain rfl : [] = places := by simpa using h
  simp
 | f :: fs, places, h => by
  rw [List.mapM_cons] at h
  cases hq : P.info? f.type with
  | none => rw [hq] at h; cases h
  | some g =>
   rw [hq] at h
   cases hr : fs.mapM (fun f => (P.info? f.type).map fun g => (f.offset, g.size)) with
   | none => rw [hr] at h; cases h
   | some ps =>
    rw [hr] at h;obtain rfl : (f.offset, g.size) :: ps = places := by simpa using h
    rw [List.mapM_cons];simp only [Sem.run_bind, JN hq w, Result.andThen_ok, Sem.run_pure, Zdz w fs ps hr]
theorem Zlh {N : Nat} {l : List (Nat × Value)} (hF : Fr N a l) {ps0 : Array (Nat × Operand)} (ho : o.op = .build t ps0) {ps : List (Nat × Value)} (hp : ps0.toList.mapM (fun p => (evO l p.2).map fun v => (p.1, v)) = some ps) {cs : Array Value} (hb : Zii P t ps = some cs) : Yl P w o a (.agg cs) := by
 have hps : (ps0.map fun (i, x) => (i, a.eval x)).toList = ps := by
  rw [Array.toList_map];have key : ∀ (ys : List (Nat × Operand)) (vs : List (Nat × Value)), ys.mapM (fun p => (evO l p.2).map fun v => (p.1, v)) = some vs → ys.map (fun (i, x) => (i, a.eval x)) = vs := by
   intro ys
   induction ys with
   | nil => intro vs hv; simpa using hv
   | cons y r ih =>
    obtain ⟨yi, yx⟩ := y;intro vs hv;rw [List.mapM_cons] at hv
    cases h1 : evO l yx with
    | none => rw [h1] at hv; cases hv
    | some v =>
     rw [h1] at hv
     cases h2 : r.mapM (fun p => (evO l p.2).map fun v => (p.1, v)) with
     | none => rw [h2] at hv; cases hv
     | some us =>
      rw [h2] at hv;obtain rfl : (yi, v) :: us = vs := by simpa using hv
      rw [List.map_cons, ih us h2];show (yi, a.eval yx) :: us = _;rw [hF.ev h1]
  exact key _ _ hp
 unfold Zii at hb
 split at hb
 ·cases hb
 ·rename_i inf hq
  split at hb
  ·cases hb
  ·rename_i z hz
   split at hb
   ·rename_i fs hu
    split at hb
    ·rename_i places hpl
     have hrun := Zdz (P := P) w fs.toList places hpl;unfold Yl execOp;simp only [ho];unfold Instr.build;rw [hps];have hm : (fs.mapM (fun f => do pure (f.offset, ← sizeOf f.type)) : Sem (Array (Nat × Nat))).run P w = .ok places.toArray w := by
      have := Array.mapM_eq_mapM_toList (m := Sem) (f := fun f : Field => do pure (f.offset, ← sizeOf f.type)) (xs := fs);rw [this];simp only [map_eq_pure_bind, Sem.run_bind, hrun, Result.andThen_ok, Sem.run_pure]
     simp only [Sem.run_bind, Zdy hq hz w, Result.andThen_ok, run_underlying hu w, hm, hb, Sem.run_pure]
    ·cases hb
   ·cases hb
end
section
variable {P : Program} {ops : Array Oper} {Q : Exit → Act → World → Prop} {rest : List Oper} {o : Oper} {a : Act} {w W : World} {N : Nat} {l : List (Nat × Value)} {s : List Asr}
theorem Zcl (cs : List Value) (h : (cs.all fun u => u.oneCell') = true) {n : Nat} (hn : cs.length = n) : Cells n (.agg cs.toArray) := ⟨cs, rfl, hn, fun u hu => List.all_eq_true.1 h u hu⟩
theorem Zo5 (hg : o.guard = none) (hF : Fr N a l) {d : Nat} (hd : o.dst = some d) (hN : Nat.blt d N = true) {v : Value} (hy : Yl P w o a v) (h : ∀ a', Fr N a' ((d, v) :: l) → wpList P ops Q rest a' w) : wpList P ops Q (o :: rest) a w := by
 refine wpList_plain hg fun K hK => ?_;unfold Oper.wp;rw [show (execOp a.eval o).run P w = _ from hy];exact hK _ _ (hd ▸ h _ (hF.put (Nat.le_of_ble_eq_true hN) v))
theorem Zo6 (hF : Fr N a l) {g dg d : Nat} {b : Bool} (hgd : o.guard = some (g, b)) (hgo : (ops[g]?).bind (·.dst) = some dg) (hgv : lk l dg = some (.bool b)) (hd : o.dst = some d) (hN : Nat.blt d N = true) {v : Value} (hy : Yl P w o a v) (h : ∀ a', Fr N a' ((d, v) :: l) → wpList P ops Q rest a' w) : wpList P ops Q (o :: rest) a w := by
 refine wpList_step fun K hK => ?_;rw [if_pos (hF.want hgd hgo hgv)];unfold Oper.wp;rw [show (execOp a.eval o).run P w = _ from hy];exact hK _ _ (hd ▸ h _ (hF.put (Nat.le_of_ble_eq_true hN) v))
theorem ZeY {t : TypeId} {inf : TypeInfo} (hq : P.info? t = some inf) {z : Value} (hz : inf.zero = some z) (w : World) : (Instr.alloc t true (.tuple #[])).run P w = .ok (.pointer (some ⟨w.heap.size, 0, none⟩)) (w.alloc (.cells z.cells t)) := by
 simp [Instr.alloc, zeroValue, typeInfo, newVar, newRow, go_sem, hq, hz]
def ZeZ (P : Program) (t : TypeId) : Option (List Value) := (P.info? t).bind fun inf => inf.zero.map fun z => z.cells.toList
theorem Zli (hg : o.guard = none) (hF : Fr N a l) {t : TypeId} (ho : o.op = .alloc t) {d : Nat} (hd : o.dst = some d) (hN : Nat.blt d N = true) {Z : List Value} (hZ : ZeZ P t = some Z) (h1 : (Z.all fun u => u.oneCell') = true) (hS : St W s w)
  (h : ∀ a' w' b, Fr N a' ((d, .pointer (some ⟨b, 0, none⟩)) :: l) → St W (boxA b Z.length t (.agg Z.toArray) :: s) w' → wpList P ops Q rest a' w') : wpList P ops Q (o :: rest) a w := by
 unfold ZeZ at hZ
 cases hq : P.info? t with
 | none => rw [hq] at hZ; cases hZ
 | some inf =>
  rw [hq] at hZ;simp only [Option.bind_some] at hZ
  cases hz : inf.zero with
  | none => rw [hz] at hZ; cases hZ
  | some z =>
   rw [hz] at hZ;have hZ : z.cells.toList = Z := by simpa using hZ
   have hr := ZeY (P := P) hq hz w;rw [← Array.toArray_toList (xs := z.cells), hZ] at hr;refine wpList_plain hg fun K hK => ZcQ t ho Z.toArray hr (hK _ _ (hd ▸ h _ _ _ (hF.put (Nat.le_of_ble_eq_true hN) _) (hS.alloc Z t h1)))
theorem Zlj (hg : o.guard = none) (hF : Fr N a l) {t : TypeId} {x : Operand} (ho : o.op = .box t x) {v : Value} (hx : a.eval x = v) {Z : List Value} (hv : v.cells = Z.toArray) {d : Nat} (hd : o.dst = some d) (hN : Nat.blt d N = true) (h1 : (Z.all fun u => u.oneCell') = true) (hS : St W s w)
  (h : ∀ a' w' b, Fr N a' ((d, .pointer (some ⟨b, 0, none⟩)) :: l) → St W (boxA b Z.length t (.agg Z.toArray) :: s) w' → wpList P ops Q rest a' w') : wpList P ops Q (o :: rest) a w := by
 refine wpList_plain hg fun K hK => ?_;have hr : (execOp a.eval o).run P w = .ok (.value (.pointer (some ⟨w.heap.size, 0, none⟩))) (w.alloc (.cells Z.toArray t)) := by
  unfold execOp;simp only [ho, hx, Instr.box, newVar, hv];simp [newRow, go_sem]
 unfold Oper.wp;rw [hr];exact hK _ _ (hd ▸ h _ _ _ (hF.put (Nat.le_of_ble_eq_true hN) _) (hS.alloc Z t h1))
theorem Zlk (hg : o.guard = none) (hF : Fr N a l) {t : TypeId} (ho : o.op = .buildSlice t 0 #[]) {d : Nat} (hd : o.dst = some d) (hN : Nat.blt d N = true) {e : TypeId} {size : Nat} (hu : Yv P t = some (e, size)) (hS : St W s w)
  (h : ∀ a' w' b, Fr N a' ((d, .slice (some ⟨b, 0, none⟩) 0 0) :: l) → St W s w' → wpList P ops Q rest a' w') : wpList P ops Q (o :: rest) a w := by
 unfold Yv at hu
 split at hu
 ·rename_i e' hu'
  split at hu
  ·rename_i inf hq
   refine wpList_plain hg fun K hK => ?_;have hr : (execOp a.eval o).run P w = .ok (.value (.slice (some ⟨w.heap.size, 0, none⟩) 0 0)) (w.alloc (.cells #[] e')) := by
    unfold execOp;simp only [ho, Instr.buildSlice, Sem.run_bind, run_underlying hu' w, Result.andThen_ok, JN hq w];simp [Instr.fill, newRow, go_sem]
   unfold Oper.wp;rw [hr];exact hK _ _ (hd ▸ h _ _ _ (hF.put (Nat.le_of_ble_eq_true hN) _) (hS.later ((Below.refl _ _).alloc (Nat.le_refl _) _)))
  ·cases hu
 ·cases hu
theorem ZgQ (hg : o.guard = none) (hF : Fr N a l) {t : TypeId} {x y : Operand} (ho : o.op = .store t x y) (hd : o.dst = none) {b n : Nat} {T : TypeId} {u v : Value} (hx : a.eval x = .pointer (some ⟨b, 0, none⟩)) (hy : a.eval y = v) (hS : St W s w) (i : Nat) (hi : s[i]? = some (boxA b n T u)) (hv : Cells n v) (hn : XW P t n = true)
  (h : ∀ w', St W (s.set i (boxA b n T v)) w' → wpList P ops Q rest a w') : wpList P ops Q (o :: rest) a w := by
 refine wpList_plain hg fun K hK => Zbr t x y ho b n T u v hx hy (hS.box i hi) hv (Qr hn).2 fun w' hB hO _ => ?_;rw [hd];exact hK _ _ (h w' (hS.putBox i hi hB hO))
theorem ZaR {t : TypeId} (hs : YH P t = true) {p : Addr} {u v : Value} (hc : w.cell? p = some u) (hf : w.frozen? p = false) (hv : v.oneCell' = true) : (Instr.storeAt t (.pointer (some p)) v).run P w = .ok () (w.setCell p v) := by
 have h1 : v.cells.size = 1 ∧ v.cells.toList = [v] := by
  cases v <;> first | (simp [Value.oneCell'] at hv; done) | exact ⟨rfl, rfl⟩
 have hsz := ZgP hs
 cases hq : P.info? t with
 | none => rw [hq] at hsz; cases hsz
 | some inf =>
  rw [hq] at hsz;have hsz : inf.size = 1 := by simpa using hsz
  simp only [Instr.storeAt, Instr.sureAddr, storeVar, h1.1, h1.2];simp [sizeOf, typeInfo, go_sem, hq, hsz, storeCells];rw [run_store P w p v _ hv, hc];simp [hf]
theorem Ze0 (hg : o.guard = none) {t : TypeId} {x y : Operand} (ho : o.op = .store t x y) (hd : o.dst = none) {p : Addr} {u v : Value} (hx : a.eval x = .pointer (some p)) (hy : a.eval y = v) (hs : YH P t = true) (hc : w.cell? p = some u) (hf : w.frozen? p = false) (hv : v.oneCell' = true)
  (h : wpList P ops Q rest a (w.setCell p v)) : wpList P ops Q (o :: rest) a w := by
 refine wpList_plain hg fun K hK => ?_;have hr : (execOp a.eval o).run P w = .ok .skip (w.setCell p v) := by
  unfold execOp;simp only [ho, hx, hy];simp [Sem.run_bind, ZaR hs hc hf hv]
 unfold Oper.wp;rw [hr];show K (a.put o.dst undef) _;rw [hd];exact hK _ _ h
theorem Zj3 (hg : o.guard = none) {t : TypeId} {x y : Operand} (ho : o.op = .store t x y) (hd : o.dst = none) {b k n : Nat} {T : TypeId} {A : Array Value} {v : Value} (hx : a.eval x = .pointer (some ⟨b, k, none⟩)) (hy : a.eval y = v) (hs : YH P t = true) (hS : St W s w) (i : Nat) (hi : s[i]? = some (boxA b n T (.agg A))) (hk : Nat.blt k A.size = true) (hv : v.oneCell' = true)
  (h : ∀ w', St W (s.set i (boxA b n T (.agg (A.setIfInBounds k v)))) w' → wpList P ops Q rest a w') : wpList P ops Q (o :: rest) a w := by
 have hk : k < A.size := Nat.le_of_ble_eq_true hk;exact Ze0 hg ho hd hx hy hs ((hS.box i hi).cell k |>.trans (Array.getElem?_eq_getElem hk)) ((hS.box i hi).frozen k) hv (h _ (hS.putField i hi k hv))
theorem Zjg (hg : o.guard = none) (hF : Fr N a l) {f : FuncId} {xs : Array Operand} {ts : Array TypeId} (ho : o.op = .call { callee := .value (.func f), args := xs, argTypes := ts }) (hc : ∀ (args : Array Value) (w : World), (callFunc f args).run P w = .ok (.enter f args) w)
  {args : Array Value} (hx : xs.toList.mapM (evO l) = some args.toList) {R : Ending → World → Prop} (hR : Calls P f args w R) {d : Nat} (hd : o.dst = some d) (hN : Nat.blt d N = true)
  (h : ∀ e w', R e w' → ∃ v, e = .returned v ∧ ∀ a', Fr N a' ((d, v) :: l) → wpList P ops Q rest a' w') : wpList P ops Q (o :: rest) a w := by
 have he : xs.map a.eval = args := by
  have key : ∀ (ys : List Operand) (vs : List Value), ys.mapM (evO l) = some vs → ys.map a.eval = vs := by
   intro ys
   induction ys with
   | nil => intro vs hv; simpa using hv
   | cons y r ih =>
    intro vs hv;rw [List.mapM_cons] at hv
    cases h1 : evO l y with
    | none => rw [h1] at hv; cases hv
    | some v =>
     rw [h1] at hv
     cases h2 : r.mapM (evO l) with
     | none => rw [h2] at hv; cases hv
     | some us =>
      rw [h2] at hv;obtain rfl : v :: us = vs := by simpa using hv
      rw [List.map_cons, hF.ev h1, ih us h2]
  apply Array.toList_inj.1
  rw [Array.toList_map];exact key _ _ hx
 refine wpList_plain hg fun K hK => Vb f xs ts ho hc ?_;rw [he];refine hR.mono fun e w' hr => ?_;obtain ⟨v, hv, hk⟩ := h e w' hr;exact ⟨v, hv, hK _ _ (hd ▸ hk _ (hF.put (Nat.le_of_ble_eq_true hN) v))⟩
theorem Box.sub {w : World} {b n : Nat} {t : TypeId} {A : Array Value} (h : Box w b n t (.agg A)) (k m : Nat) : w.rangeAt b k ((A.toList.drop k).take m) := fun j v hv => by
 rw [h.cell (k + j)];rw [List.getElem?_take] at hv
 split at hv
 ·rw [List.getElem?_drop] at hv
  simpa using hv
 ·cases hv
end
section
variable {P : Program} {K : Act → World → Prop} {Q : Exit → Act → World → Prop} {a : Act} {w : World}
theorem Y9 (h : K a w) : Exit.then K Q .normal a w := h
theorem Zll {i : Nat} (h : Q .normal a w) : Exit.inBlock i Q .normal a w := h
theorem ZcR (h : Q .ret a w) : Exit.then K Q .ret a w := h
theorem ZfZ {i : Nat} (h : Q .normal a w) : Exit.inBlock i Q (.exit i) a w := by simpa [Exit.inBlock] using h
def Zf0 (P : Program) (a : Act) (w : World) : ResultVar → Value → Prop
 | .tmp t, v => a.tmps.getD t undef = v
 | .cell k t, v => ∃ p, a.tmps.getD k undef = .pointer (some p) ∧ (loadVar t p).run P w = .ok v w
theorem Fr.res {N : Nat} {l : List (Nat × Value)} (h : Fr N a l) {k : Nat} {v : Value} (hk : lk l k = some v) : Zf0 P a w (.tmp k) v := h.ev (x := .tmp k) hk
theorem Fr.resBox {N : Nat} {l : List (Nat × Value)} (h : Fr N a l) {k t b n : Nat} (hk : lk l k = some (.pointer (some ⟨b, 0, none⟩))) {T : TypeId} {v : Value} (hb : Box w b n T v) (ht : XW P t n = true) : Zf0 P a w (.cell k t) v := by
 obtain ⟨⟨d, hu, hd⟩, hi⟩ := Qr ht;exact ⟨_, h.ev (x := .tmp k) hk, Zdf hb t d hu hd hi⟩
def Zjh (tmps : Array Value) : ResultVar → Sem Value
 | .tmp t => pure (tmps.getD t undef)
 | .cell k t => do loadVar t (← asAddr (tmps.getD k undef))
theorem JO (fn : Func) (tmps : Array Value) : results fn tmps = (do let vs ← fn.results.mapM (Zjh tmps); pure (if h : vs.size = 1 then vs[0] else .tuple vs)) := by
 unfold results
 congr 1
theorem JB {r : ResultVar} {v : Value} (h : Zf0 P a w r v) : (Zjh a.tmps r).run P w = .ok v w := by
 cases r with
 | tmp t =>
  have h : a.tmps.getD t undef = v := h;simp only [Zjh, Sem.run_pure, h]
 | cell k t =>
  obtain ⟨p, h1, h2⟩ := h;simp only [Zjh, h1, asAddr, Sem.run_bind, Sem.run_pure, Result.andThen_ok, h2]
theorem Zji {fn : Func} {R : Ending → World → Prop} {N : Nat} {l : List (Nat × Value)} (hF : Fr N a l) (hr : fn.results = #[]) (h : R (.returned (.tuple #[])) w) : bodyPost P fn R .ret a w :=
 ⟨hF.df, _, by rw [JO, hr]; simp, h⟩
theorem Zjj {fn : Func} {R : Ending → World → Prop} {N : Nat} {l : List (Nat × Value)} (hF : Fr N a l) (hr : fn.results = #[]) (h : R (.returned (.tuple #[])) w) : bodyPost P fn R .normal a w :=
 ⟨hF.df, _, by rw [JO, hr]; simp, h⟩
theorem ZE {fn : Func} {R : Ending → World → Prop} {N : Nat} {l : List (Nat × Value)} (hF : Fr N a l) {r1 : ResultVar} {v1 : Value} (hr : fn.results = #[r1]) (h1 : Zf0 P a w r1 v1) (h : R (.returned v1) w) : bodyPost P fn R .ret a w :=
 ⟨hF.df, _, by rw [JO, hr]; simp [JB h1], h⟩
theorem Zw {fn : Func} {R : Ending → World → Prop} {N : Nat} {l : List (Nat × Value)} (hF : Fr N a l) {r1 r2 : ResultVar} {v1 v2 : Value} (hr : fn.results = #[r1, r2]) (h1 : Zf0 P a w r1 v1) (h2 : Zf0 P a w r2 v2) (h : R (.returned (.tuple #[v1, v2])) w) : bodyPost P fn R .ret a w :=
 ⟨hF.df, _, by rw [JO, hr]; simp [JB h1, JB h2], h⟩
theorem Zx {fn : Func} {R : Ending → World → Prop} {N : Nat} {l : List (Nat × Value)} (hF : Fr N a l) {r1 r2 r3 : ResultVar} {v1 v2 v3 : Value} (hr : fn.results = #[r1, r2, r3]) (h1 : Zf0 P a w r1 v1) (h2 : Zf0 P a w r2 v2) (h3 : Zf0 P a w r3 v3) (h : R (.returned (.tuple #[v1, v2, v3])) w) : bodyPost P fn R .ret a w :=
 ⟨hF.df, _, by rw [JO, hr]; simp [JB h1, JB h2, JB h3], h⟩
theorem Vc {N : Nat} {l : List (Nat × Value)} (hF : Fr N a l) {k : Nat} {x y : Code} (hk : lk l k = some (.bool true)) (h : x.wp P Q a w) : (Code.cond (.tmp k) x y).wp P Q a w := wp_cond_true (hF.ev (x := .tmp k) hk) h
theorem VH {N : Nat} {l : List (Nat × Value)} (hF : Fr N a l) {k : Nat} {x y : Code} (hk : lk l k = some (.bool false)) (h : y.wp P Q a w) : (Code.cond (.tmp k) x y).wp P Q a w := wp_cond_false (hF.ev (x := .tmp k) hk) h
theorem Fr.know {N : Nat} {l : List (Nat × Value)} (hF : Fr N a l) {k : Nat} {t c : Bool} (hk : lk l k = some (.bool t)) (hc : t = c) : Fr N a ((k, .bool c) :: l) := by
 subst hc;refine ⟨hF.sz, hF.df, fun j v hv => ?_⟩;unfold lk at hv
 cases hb : Nat.beq k j with
 | true =>
  rw [hb] at hv;obtain rfl := Nat.eq_of_beq_eq_true hb;obtain rfl := Option.some.inj hv;exact hF.at_ _ _ hk
 | false =>
  rw [hb] at hv;exact hF.at_ j v hv
theorem Fr.cases {G : Prop} {N : Nat} {l : List (Nat × Value)} (hF : Fr N a l) (k : Nat) {t : Bool} (hk : lk l k = some (.bool t)) (h1 : t = true → Fr N a ((k, .bool true) :: l) → G) (h2 : t = false → Fr N a ((k, .bool false) :: l) → G) : G := by
 cases t with
 | true => exact h1 rfl (hF.know hk rfl)
 | false => exact h2 rfl (hF.know hk rfl)
def Zlm (l : List (Nat × Value)) : List (Nat × Value) → Prop
 | [] => True
 | p :: r => lk l p.1 = some p.2 ∧ Zlm l r
theorem Fr.less {N : Nat} {l : List (Nat × Value)} (h : Fr N a l) (l' : List (Nat × Value)) (hs : Zlm l l') : Fr N a l' :=
 h.sub fun p hp => by
  induction l' with
  | nil => cases hp
  | cons q r ih =>
   rcases List.mem_cons.1 hp with rfl | hp
   ·exact hs.1
   ·exact ih hs.2 hp
def Zij (args : Array Value) : List (Nat × Value) → Prop
 | [] => True
 | p :: r => args[p.1]? = some p.2 ∧ Zij args r
theorem Ze1 {f : FuncId} {fn : Func} {c : Code} {args : Array Value} {R : Ending → World → Prop} (hf : P.funcs[f]? = some fn) (hb : fn.body = some c) {N : Nat} (hN : fn.ntmps = N) {l : List (Nat × Value)} (hl : ∀ p ∈ l, args[p.1]? = some p.2) (hs : args.size ≤ N)
  (h : ∀ a, Fr N a l → c.wp P (bodyPost P fn R) a w) : Calls P f args w R := by
 refine calls_of_wp hf hb (h _ (Fr.start ?_ fun p hp => ?_))
 ·subst hN; simp; omega
 ·have h1 := hl p hp
  have h2 : p.1 < args.size := (Array.getElem?_eq_some_iff.1 h1).1;rw [Array.getElem?_append_left h2]; exact h1
theorem ZcS {args : Array Value} : ∀ {l : List (Nat × Value)}, Zij args l → ∀ p ∈ l, args[p.1]? = some p.2
 | [], _, _, hp => by cases hp
 | q :: r, h, p, hp => by
  rcases List.mem_cons.1 hp with rfl | hp
  ·exact h.1
  ·exact ZcS h.2 p hp
theorem Zln {p : Nat → Prop} (h : ∃ n, p n) : ∃ n, p n ∧ ∀ m, p m → n ≤ m := by
 obtain ⟨n, hn⟩ := h
 induction n using Nat.strongRecOn with
 | _ n ih =>
  by_cases hx : ∃ m, m < n ∧ p m
  ·obtain ⟨m, hm, hp⟩ := hx
   exact ih m hm hp
  ·exact ⟨n, hn, fun m hm => Nat.le_of_not_lt fun hlt => hx ⟨m, hlt, hm⟩⟩
theorem Zt {c : Code} {ι : Type} (I : ι → Act → World → Prop) (μ : ι → Nat) (i0 : ι) (h0 : I i0 a w)
  (round : ∀ i a w, I i a w → c.wp P (Exit.then (fun a' w' => ∃ j, I j a' w' ∧ μ j < μ i) Q) a w) : (Code.loop c).wp P Q a w := by
 classical
 have hex : ∀ {a w} {i}, I i a w → ∃ n i, I i a w ∧ μ i = n := fun {a w i} h => ⟨μ i, i, h, rfl⟩
 refine wp_loop (fun a w => ∃ i, I i a w) (fun a w => if h : ∃ n i, I i a w ∧ μ i = n then Classical.choose (Zln h) else 0) ⟨i0, h0⟩ fun a w ⟨i, hi⟩ => ?_;have hx := hex hi;obtain ⟨⟨i1, h1, e1⟩, _⟩ := Classical.choose_spec (Zln hx);refine wp_mono (round i1 a w h1) fun e a' w' hq => ?_
 cases e with
 | normal =>
  obtain ⟨j, hj, hlt⟩ := hq;refine ⟨⟨j, hj⟩, ?_⟩;have hx' := hex hj;simp only [dif_pos hx, dif_pos hx'];have := (Classical.choose_spec (Zln hx')).2 (μ j) ⟨j, hj, rfl⟩
  omega
 | _ => exact hq
theorem QM {f : FuncId} {fn : Func} {c : Code} {args : Array Value} {R : Ending → World → Prop} (hf : P.funcs[f]? = some fn) (hb : fn.body = some c) {N : Nat} (hN : fn.ntmps = N) (l : List (Nat × Value)) (hl : Zij args l) (hs : Nat.ble args.size N = true)
  (h : ∀ a, Fr N a l → c.wp P (bodyPost P fn R) a w) : Calls P f args w R :=
 Ze1 hf hb hN (ZcS hl) (Nat.le_of_ble_eq_true hs) h
theorem QN {m n : Int} (hm : 0 ≤ m) (_hn : 0 < n) : m.tmod n = m % n := Int.tmod_eq_emod_of_nonneg hm
theorem Je {m n : Int} (hm : 0 ≤ m) (hn : 0 < n) (hb : m ≤ 9223372036854775807) : IntKind.i64.wrap (m.tdiv n) = m / n := by
 rw [Int.tdiv_eq_ediv_of_nonneg hm];have h1 : 0 ≤ m / n := Int.ediv_nonneg hm (by omega);have h2 : m / n ≤ m := Int.ediv_le_self n hm;exact IntWalk.i64_in _ (by omega)
theorem Yi {x : Int} (h : -9223372036854775808 ≤ x ∧ x ≤ 9223372036854775807) : IntKind.i64.wrap x = x := IntWalk.i64_in _ h
end
section
variable {α : Type} {enc : α → List Value} {size : Nat} {e : TypeId} {W w : World} {s : List Asr}
theorem Zlo (he : ∀ x, (enc x).length = size) (xs : List α) (j : Nat) (hj : j < xs.length) (x : α) : XN (xs.flatMap enc) (j * size) (enc x) = (xs.set j x).flatMap enc := by
 unfold XN;rw [ZjV enc size he, he, show j * size + size = (j + 1) * size by rw [Nat.add_mul]; omega, Zck enc size he, List.set_eq_take_append_cons_drop, if_pos hj, List.flatMap_append, List.flatMap_cons]
 simp
structure Rg {α : Type} (enc : α → List Value) (size : Nat) (W : World) (ao : Option Addr) (n g off : Nat) (xs : List α) : Prop where
  len : n = xs.length
  ao : ∀ j, j < n → ao = some ⟨g, off, none⟩
  at_ : ∀ j x, xs[j]? = some x → g < W.heap.size ∧ W.rangeAt g (off + j * size) (enc x)
theorem St.rdOf (h : St W s w) (he : ∀ x, (enc x).length = size) (i : Nat) {ao : Option Addr} {n cap : Nat} {xs : List α} (hi : s[i]? = some (Zg enc size e (.slice ao n cap) xs)) : Rd enc size w ao xs.length xs := by
 obtain ⟨_, _, e1, r⟩ := h.rdS he i hi;simp only [Value.slice.injEq] at e1;obtain ⟨rfl, rfl, rfl⟩ := e1;exact r
theorem Rd.opn {ao : Option Addr} {n : Nat} {xs : List α} (h : Rd enc size W ao n xs) : ∃ g off, Rg enc size W ao n g off xs := by
 by_cases h0 : 0 < xs.length
 ·obtain ⟨b, off, x, _, e1, hlt, _⟩ := h.at_ 0 h0
  refine ⟨b, off, h.len.symm, fun _ _ => e1, fun j x hx => ?_⟩;obtain ⟨b', off', y, hy, e2, _, hr⟩ := h.at_ j (List.getElem?_eq_some_iff.1 hx).1;rw [e1] at e2;simp only [Option.some.injEq, Addr.mk.injEq, and_true] at e2;obtain ⟨rfl, rfl⟩ := e2;obtain rfl := Option.some.inj (hx.symm.trans hy);exact ⟨hlt, hr⟩
 ·exact ⟨0, 0, h.len.symm, fun j hj => absurd hj (by have := h.len; omega), fun j x hx => absurd (List.getElem?_eq_some_iff.1 hx).1 (by omega)⟩
theorem Rg.elem {ao : Option Addr} {n g off : Nat} {xs : List α} (h : Rg enc size W ao n g off xs) (hS : St W s w) {j : Nat} {x : α} (hx : xs[j]? = some x) : w.rangeAt g (off + j * size) (enc x) :=
 Yn (h.at_ j x hx).2 hS.bel (h.at_ j x hx).1
theorem Rg.elem1 {enc : α → List Value} {ao : Option Addr} {n g off : Nat} {xs : List α} (h : Rg enc 1 W ao n g off xs) (hS : St W s w) {j : Nat} {x : α} (hx : xs[j]? = some x) {v : Value} (hv : enc x = [v]) : w.cell? ⟨g, off + j * 1, none⟩ = some v := by
 have := h.elem hS hx 0 v (by rw [hv]; rfl)
 simpa using this
theorem Zi {xs : List α} {d : α} {j : Nat} (h : j < xs.length) : xs[j]? = some (xs.getD j d) := by
 rw [List.getElem?_eq_getElem h]; simp [List.getD, h]
theorem St.elem (he : ∀ x, (enc x).length = size) (h : St W s w) (i : Nat) {g off n cap : Nat} {xs : List α} (hi : s[i]? = some (Zg enc size e (.slice (some ⟨g, off, none⟩) n cap) xs)) {j : Nat} {x : α} (hx : xs[j]? = some x) : w.rangeAt g (off + j * size) (enc x) := by
 obtain ⟨ao, cap', hv, hr⟩ := h.rdS he i hi;simp only [Value.slice.injEq] at hv;obtain ⟨rfl, rfl, rfl⟩ := hv;obtain ⟨b, o, y, hy, e1, _, hrg⟩ := hr.at_ j (List.getElem?_eq_some_iff.1 hx).1;simp only [Option.some.injEq, Addr.mk.injEq, and_true] at e1;obtain ⟨rfl, rfl⟩ := e1;obtain rfl := Option.some.inj (hx.symm.trans hy);exact hrg
theorem St.elem1 {enc : α → List Value} (he : ∀ x, (enc x).length = 1) (h : St W s w) (i : Nat) {g off n cap : Nat} {xs : List α} (hi : s[i]? = some (Zg enc 1 e (.slice (some ⟨g, off, none⟩) n cap) xs)) {j : Nat} {x : α} (hx : xs[j]? = some x) {v : Value} (hv : enc x = [v]) : w.cell? ⟨g, off + j * 1, none⟩ = some v := by
 have := h.elem he i hi hx 0 v (by rw [hv]; rfl)
 simpa using this
theorem St.rowOpen (h : St W s w) (i : Nat) {ao : Option Addr} {n cap : Nat} {xs : List α} (hi : s[i]? = some (Zg enc size e (.slice ao n cap) xs)) (hp : 0 < xs.length) :
  ∃ g, ao = some ⟨g, 0, none⟩ ∧ n = xs.length ∧ Value.rowBlock (.slice ao n cap) = some g ∧ w.ownsRow W.heap.size e size (.slice (some ⟨g, 0, none⟩) n cap) n (xs.flatMap enc) ∧ g < w.heap.size := by
 have hr := h.row i hi;obtain ⟨_, _, hv, _⟩ := id hr;simp only [Value.slice.injEq] at hv;obtain ⟨_, rfl, _⟩ := hv;obtain ⟨g, rfl, _, h2, _, h4, h5⟩ := hr.opn hp;exact ⟨g, rfl, rfl, h4, h5, h2⟩
theorem St.putRow (he : ∀ x, (enc x).length = size) (h : St W s w) (i : Nat) {g n cap : Nat} {xs : List α} (hi : s[i]? = some (Zg enc size e (.slice (some ⟨g, 0, none⟩) n cap) xs)) {j : Nat} (hj : j < xs.length) (x : α) :
  St W (s.set i (Zg enc size e (.slice (some ⟨g, 0, none⟩) n cap) (xs.set j x))) (w.setCells g (j * size) (enc x)) := by
 obtain ⟨g', e1, rfl, hb, ho, hlt⟩ := h.rowOpen i hi (by omega);simp only [Option.some.injEq, Addr.mk.injEq, and_true] at e1;subst e1;have hfl := VB enc size he xs;have hj2 : j * size + size ≤ xs.length * size := by rw [← Nat.succ_mul]; exact Nat.mul_le_mul_right size hj
 obtain ⟨h1, h2⟩ := ZaD (enc x) (j * size) w _ ho (by rw [he, hfl]; exact hj2);rw [Zlo he xs j hj x] at h1;refine h.mutRow i hi (B := W.heap.size) ⟨_, cap, by rw [List.length_set], .inr (by rw [List.length_set]; exact h1), fun g' hg' => ?_⟩ (by rw [hb]; exact h2) fun g' hg' => .inl hg';rw [hb] at hg';obtain rfl := Option.some.inj hg';exact Nat.lt_of_lt_of_le hlt h2.size
section
variable {P : Program} {ops : Array Oper} {Q : Exit → Act → World → Prop} {rest : List Oper} {o : Oper} {a : Act}
theorem Yj {enc : α → List Value} (he : ∀ x, (enc x).length = 1) (hg : o.guard = none) {t : TypeId} {x y : Operand} (ho : o.op = .store t x y) (hd : o.dst = none) {g n cap j : Nat} {v : Value} (hx : a.eval x = .pointer (some ⟨g, 0 + j * 1, none⟩)) (hy : a.eval y = v) (hs : YH P t = true) (hS : St W s w) (i : Nat) {xs : List α}
  (hi : s[i]? = some (Zg enc 1 e (.slice (some ⟨g, 0, none⟩) n cap) xs)) (hj : j < xs.length) {z : α} (hz : enc z = [v]) (hv : v.oneCell' = true)
  (h : ∀ w', St W (s.set i (Zg enc 1 e (.slice (some ⟨g, 0, none⟩) n cap) (xs.set j z))) w' → wpList P ops Q rest a w') : wpList P ops Q (o :: rest) a w := by
 obtain ⟨g', e1, rfl, hb, hw, hlt⟩ := hS.rowOpen i hi (by omega);simp only [Option.some.injEq, Addr.mk.injEq, and_true] at e1;subst e1;have e0 : 0 + j * 1 = j := by omega
 have hc := hS.elem he i hi (List.getElem?_eq_getElem hj);rw [e0] at hx hc;have hc0 : w.cell? ⟨g, j, none⟩ = some ((enc xs[j])[0]'(by rw [he]; omega)) := by
  have := hc 0 _ (List.getElem?_eq_getElem (by rw [he]; omega))
  simpa using this
 have hp := hS.putRow he i hi hj z;rw [hz, show j * 1 = j by omega] at hp;exact Ze0 hg ho hd hx hy hs hc0 (hw.frozenAt j) hv (h _ hp)
theorem ZaS (he : ∀ x, (enc x).length = size) (hg : o.guard = none) {t : TypeId} {x y : Operand} (ho : o.op = .store t x y) (hd : o.dst = none) {g n cap j : Nat} {A : Array Value} (hx : a.eval x = .pointer (some ⟨g, 0 + j * size, none⟩)) (hy : a.eval y = .agg A) (hs : XW P t size = true) (hS : St W s w) (i : Nat) {xs : List α}
  (hi : s[i]? = some (Zg enc size e (.slice (some ⟨g, 0, none⟩) n cap) xs)) (hj : j < xs.length) {z : α} (hz : A.toList = enc z) (hv : A.all (·.oneCell') = true)
  (h : ∀ w', St W (s.set i (Zg enc size e (.slice (some ⟨g, 0, none⟩) n cap) (xs.set j z))) w' → wpList P ops Q rest a w') : wpList P ops Q (o :: rest) a w := by
 obtain ⟨g', e1, rfl, hb, hw, hlt⟩ := hS.rowOpen i hi (by omega);simp only [Option.some.injEq, Addr.mk.injEq, and_true] at e1;subst e1;rw [Nat.zero_add] at hx;have hfl := VB enc size he xs;have hj2 : j * size + size ≤ xs.length * size := by rw [← Nat.succ_mul]; exact Nat.mul_le_mul_right size hj
 have hsz : A.size = size := by rw [← Array.length_toList, hz, he]
 refine wpList_plain hg fun K hK => wp_store_mid t x y ho g (j * size) A hx hy (by rw [hsz]; exact Zic hw _ _ (by rw [hfl]; exact hj2)) (by rw [hsz]; exact (Qr hs).2) hv ?_;rw [hd, hz];exact hK _ _ (h _ (hS.putRow he i hi hj z))
end
end
section
variable {P : Program} {ops : Array Oper} {rest : List Oper} {o : Oper} {a : Act} {w W : World} {N : Nat} {l : List (Nat × Value)} {s : List Asr}
section
variable {Q : Act → Prop}
theorem Yf {id : Nat} {Q : Exit → Act → World → Prop} {l : List Oper} (hm : P.follows .mixedOrders = true) (hB : Region.lexB .any l.toArray = true) (hS : St W s w)
  (h : wpQuiet P l.toArray (St W s) (fun a' => ∀ w', St W s w' → Q .normal a' w') l a) : (Code.region id l.toArray true).wp P Q a w :=
 wp_region_quiet (C := St W s) hm hB hS.drew (by simpa using h)
end
theorem Zbv (hF : Fr N a l) {xs : Array Operand} {args : Array Value} (hx : xs.toList.mapM (evO l) = some args.toList) : xs.map a.eval = args := by
 have key : ∀ (ys : List Operand) (vs : List Value), ys.mapM (evO l) = some vs → ys.map a.eval = vs := by
  intro ys
  induction ys with
  | nil => intro vs hv; simpa using hv
  | cons y r ih =>
   intro vs hv;rw [List.mapM_cons] at hv
   cases h1 : evO l y with
   | none => rw [h1] at hv; cases hv
   | some v =>
    rw [h1] at hv
    cases h2 : r.mapM (evO l) with
    | none => rw [h2] at hv; cases hv
    | some us =>
     rw [h2] at hv;obtain rfl : v :: us = vs := by simpa using hv
     rw [List.map_cons, hF.ev h1, ih us h2]
 apply Array.toList_inj.1
 rw [Array.toList_map];exact key _ _ hx
theorem ZgR {f : FuncId} {xs : Array Operand} {ts : Array TypeId} (ho : o.op = .call { callee := .value (.func f), args := xs, argTypes := ts }) (hc : ∀ (args : Array Value) (w : World), (callFunc f args).run P w = .ok (.enter f args) w) : (execOp a.eval o).run P w = .ok (.enter f (xs.map a.eval)) w := by
 unfold execOp;simp only [ho];simp [resolve, Act.eval, go_sem, hc]
section
variable {Q : Act → Prop}
theorem Zne (hg : o.guard = none) (hF : Fr N a l) {f : FuncId} {xs : Array Operand} {ts : Array TypeId} (ho : o.op = .call { callee := .value (.func f), args := xs, argTypes := ts }) (hc : ∀ (args : Array Value) (w : World), (callFunc f args).run P w = .ok (.enter f args) w)
  {args : Array Value} (hx : xs.toList.mapM (evO l) = some args.toList) {v : Value} (hR : ∀ w, St W s w → Calls P f args w fun e w' => e = .returned v ∧ Below w.heap.size w w') {d : Nat} (hd : o.dst = some d) (hN : Nat.blt d N = true)
  (h : ∀ a', Fr N a' ((d, v) :: l) → wpQuiet P ops (St W s) Q rest a') : wpQuiet P ops (St W s) Q (o :: rest) a := by
 refine wpQuiet_step fun K hK => ?_;rw [if_pos (Uh hg)];refine ⟨v, fun w hw => ?_, hK _ (hd ▸ h _ (hF.put (Nat.le_of_ble_eq_true hN) v))⟩;unfold Oper.quietAt;rw [ZgR ho hc, Zbv hF hx];exact ⟨rfl, (hR w hw).mono fun e w' ⟨he, hb⟩ => ⟨he, hw.later hb⟩⟩
theorem Zlp (hF : Fr N a l) {g dg d : Nat} {b : Bool} (hgd : o.guard = some (g, b)) (hgo : (ops[g]?).bind (·.dst) = some dg) (hgv : lk l dg = some (.bool b)) {f : FuncId} {xs : Array Operand} {ts : Array TypeId} (ho : o.op = .call { callee := .value (.func f), args := xs, argTypes := ts }) (hc : ∀ (args : Array Value) (w : World), (callFunc f args).run P w = .ok (.enter f args) w)
  {args : Array Value} (hx : xs.toList.mapM (evO l) = some args.toList) {v : Value} (hR : ∀ w, St W s w → Calls P f args w fun e w' => e = .returned v ∧ Below w.heap.size w w') (hd : o.dst = some d) (hN : Nat.blt d N = true)
  (h : ∀ a', Fr N a' ((d, v) :: l) → wpQuiet P ops (St W s) Q rest a') : wpQuiet P ops (St W s) Q (o :: rest) a := by
 refine wpQuiet_step fun K hK => ?_;rw [if_pos (hF.want hgd hgo hgv)];refine ⟨v, fun w hw => ?_, hK _ (hd ▸ h _ (hF.put (Nat.le_of_ble_eq_true hN) v))⟩;unfold Oper.quietAt;rw [ZgR ho hc, Zbv hF hx];exact ⟨rfl, (hR w hw).mono fun e w' ⟨he, hb⟩ => ⟨he, hw.later hb⟩⟩
end
section
variable {Q : Exit → Act → World → Prop}
theorem ZgS (hg : o.guard = none) (hF : Fr N a l) {f : FuncId} {xs : Array Operand} {ts : Array TypeId} (ho : o.op = .call { callee := .value (.func f), args := xs, argTypes := ts }) (hc : ∀ (args : Array Value) (w : World), (callFunc f args).run P w = .ok (.enter f args) w)
  {args : Array Value} (hx : xs.toList.mapM (evO l) = some args.toList) {v : Value} (hR : Calls P f args w fun e w' => e = .returned v ∧ Below w.heap.size w w') {d : Nat} (hd : o.dst = some d) (hN : Nat.blt d N = true) (hS : St W s w)
  (h : ∀ w' a', St W s w' → Fr N a' ((d, v) :: l) → wpList P ops Q rest a' w') : wpList P ops Q (o :: rest) a w :=
 Zjg hg hF ho hc hx hR hd hN fun _ w' ⟨he, hb⟩ => ⟨v, he, fun a' hF' => h w' a' (hS.later hb) hF'⟩
theorem Zaj (hF : Fr N a l) {g dg d : Nat} {b : Bool} (hgd : o.guard = some (g, b)) (hgo : (ops[g]?).bind (·.dst) = some dg) (hgv : lk l dg = some (.bool b)) {f : FuncId} {xs : Array Operand} {ts : Array TypeId} (ho : o.op = .call { callee := .value (.func f), args := xs, argTypes := ts }) (hc : ∀ (args : Array Value) (w : World), (callFunc f args).run P w = .ok (.enter f args) w)
  {args : Array Value} (hx : xs.toList.mapM (evO l) = some args.toList) {v : Value} (hR : Calls P f args w fun e w' => e = .returned v ∧ Below w.heap.size w w') (hd : o.dst = some d) (hN : Nat.blt d N = true) (hS : St W s w)
  (h : ∀ w' a', St W s w' → Fr N a' ((d, v) :: l) → wpList P ops Q rest a' w') : wpList P ops Q (o :: rest) a w := by
 refine wpList_step fun K hK => ?_;rw [if_pos (hF.want hgd hgo hgv)];refine Vb f xs ts ho hc ?_;rw [Zbv hF hx];refine hR.mono fun e w' ⟨he, hb⟩ => ?_;exact ⟨v, he, hK _ _ (hd ▸ h w' _ (hS.later hb) (hF.put (Nat.le_of_ble_eq_true hN) v))⟩
end
section
variable {Q : Act → Prop}
theorem Vd {id : Nat} {Q : Exit → Act → World → Prop} {l : List Oper} (n : Nat) (hm : P.follows .mixedOrders = true) (hB : Region.lexTailB .any l.toArray n = true) (hS : St W s w)
  (h : ∀ w', St W s w' → wpStill P l.toArray w' (fun a' => wpList P l.toArray Q (l.drop n) a' w') (l.take n) a) : (Code.region id l.toArray true).wp P Q a w :=
 wp_region_still_tail n hm hB (h _ hS.drew)
theorem ZU (hg : o.guard = none) (hF : Fr N a l) {d : Nat} (hd : o.dst = some d) (hN : Nat.blt d N = true) {v : Value} (hy : Yl P w o a v) (h : ∀ a', Fr N a' ((d, v) :: l) → wpStill P ops w Q rest a') : wpStill P ops w Q (o :: rest) a := by
 refine wpStill_step fun K hK => ?_;rw [if_pos (Uh hg)];unfold Oper.still;rw [show (execOp a.eval o).run P w = _ from hy];exact ⟨rfl, hK _ (hd ▸ h _ (hF.put (Nat.le_of_ble_eq_true hN) v))⟩
end
section
variable {Q : Exit → Act → World → Prop} {fuel : Nat} {listed : Array Bool}
theorem Zlq {id : Nat} {l : List Oper} (hm : P.follows .mixedOrders = true) (hS : St W s w.drew)
  (h : wpAnyH P .any l.toArray Q (St W s) l.length (Array.replicate l.length false) a w.drew) : (Code.region id l.toArray true).wp P Q a w :=
 wp_region_held (S := St W s) hm (by simpa using h)
theorem Zov (i : Nat) (hr : Region.ready .any ops listed = [i]) (h : wpOp P ops Q i (fun a' w' => St W s w' ∧ wpAnyH P .any ops Q (St W s) fuel (listed.setIfInBounds i true) a' w') a w) : wpAnyH P .any ops Q (St W s) (fuel + 1) listed a w := by
 refine wpAnyH_all hr (by simp) fun j hj => ?_;obtain rfl : j = i := by simpa using hj
 exact h
theorem Zow (i k : Nat) (hr : Region.ready .any ops listed = [i, k]) (h : wpOp P ops Q i (fun a' w' => St W s w' ∧ wpAnyH P .any ops Q (St W s) fuel (listed.setIfInBounds i true) a' w') a w) (h2 : wpOp P ops Q k (fun a' w' => St W s w' ∧ wpAnyH P .any ops Q (St W s) fuel (listed.setIfInBounds k true) a' w') a w) : wpAnyH P .any ops Q (St W s) (fuel + 1) listed a w := by
 refine wpAnyH_all hr (by simp) fun j hj => ?_;rcases (by simpa using hj : j = i ∨ j = k) with rfl | rfl
 ·exact h
 ·exact h2
section
variable {oi : Oper} {K : Act → World → Prop}
theorem Vv {i : Nat} (hi : ops[i]? = some oi) (hg : oi.guard = none) (h : oi.wp P a w K Q) : wpOp P ops Q i K a w := by
 unfold wpOp;simp only [hi];rw [if_pos (Uh hg)];exact .inl h
theorem ZcT {i : Nat} (hi : ops[i]? = some oi) (hg : oi.guard = none) {t : TypeId} {x y : Operand} (ho : oi.op = .store t x y) (hd : oi.dst = none) {b n : Nat} {T : TypeId} {u v : Value} (hx : a.eval x = .pointer (some ⟨b, 0, none⟩)) (hy : a.eval y = v) {s2 : List Asr} (hS : St W s2 w) (j : Nat) (hj : s2[j]? = some (boxA b n T u)) (hv : Cells n v) (hn : XW P t n = true)
  (h : ∀ w', St W (s2.set j (boxA b n T v)) w' → K a w') : wpOp P ops Q i K a w := by
 refine Vv hi hg (Zbr t x y ho b n T u v hx hy (hS.box j hj) hv (Qr hn).2 fun w' hB hO _ => ?_);rw [hd];exact h w' (hS.putBox j hj hB hO)
theorem Ze2 {i : Nat} (hi : ops[i]? = some oi) (hg : oi.guard = none) {t : TypeId} {x y : Operand} (ho : oi.op = .store t x y) (hd : oi.dst = none) {b k n : Nat} {T : TypeId} {A : Array Value} {v : Value} (hx : a.eval x = .pointer (some ⟨b, k, none⟩)) (hy : a.eval y = v) (hs : YH P t = true) {s2 : List Asr} (hS : St W s2 w) (j : Nat) (hj : s2[j]? = some (boxA b n T (.agg A))) (hk : Nat.blt k A.size = true) (hv : v.oneCell' = true)
  (h : ∀ w', St W (s2.set j (boxA b n T (.agg (A.setIfInBounds k v)))) w' → K a w') : wpOp P ops Q i K a w := by
 have hk : k < A.size := Nat.le_of_ble_eq_true hk;refine Vv hi hg ?_;have hr : (execOp a.eval oi).run P w = .ok .skip (w.setCell ⟨b, k, none⟩ v) := by
  unfold execOp;simp only [ho, hx, hy];simp [Sem.run_bind, ZaR hs ((hS.box j hj).cell k |>.trans (Array.getElem?_eq_getElem hk)) ((hS.box j hj).frozen k) hv]
 unfold Oper.wp;rw [hr];show K (a.put oi.dst undef) _;rw [hd];exact h _ (hS.putField j hj k hv)
theorem Zlr {i : Nat} (hi : ops[i]? = some oi) (hg : oi.guard = none) (hF : Fr N a l) {t : TypeId} (ho : oi.op = .alloc t) {d : Nat} (hd : oi.dst = some d) (hN : Nat.blt d N = true) {Z : List Value} (hZ : ZeZ P t = some Z) (h1 : (Z.all fun u => u.oneCell') = true) {s2 : List Asr} (hS2 : St W s2 w) (hS : St W s w)
  (h : ∀ a' w' b, Fr N a' ((d, .pointer (some ⟨b, 0, none⟩)) :: l) → St W (boxA b Z.length t (.agg Z.toArray) :: s2) w' → St W s w' → K a' w') : wpOp P ops Q i K a w := by
 unfold ZeZ at hZ
 cases hq : P.info? t with
 | none => rw [hq] at hZ; cases hZ
 | some inf =>
  rw [hq] at hZ;simp only [Option.bind_some] at hZ
  cases hz : inf.zero with
  | none => rw [hz] at hZ; cases hZ
  | some z =>
   rw [hz] at hZ;have hZ : z.cells.toList = Z := by simpa using hZ
   have hr := ZeY (P := P) hq hz w;rw [← Array.toArray_toList (xs := z.cells), hZ] at hr;exact Vv hi hg (ZcQ t ho Z.toArray hr (hd ▸ h _ _ _ (hF.put (Nat.le_of_ble_eq_true hN) _) (hS2.alloc Z t h1) (hS.later ((Below.refl _ _).alloc (Nat.le_refl _) _))))
theorem Zjk {i : Nat} (hi : ops[i]? = some oi) (hg : oi.guard = none) (hF : Fr N a l) {f : FuncId} {xs : Array Operand} {ts : Array TypeId} (ho : oi.op = .call { callee := .value (.func f), args := xs, argTypes := ts }) (hc : ∀ (args : Array Value) (w : World), (callFunc f args).run P w = .ok (.enter f args) w)
  {args : Array Value} (hx : xs.toList.mapM (evO l) = some args.toList) {R : Ending → World → Prop} (hR : Calls P f args w R) {d : Nat} (hd : oi.dst = some d) (hN : Nat.blt d N = true)
  (h : ∀ e w', R e w' → ∃ v, e = .returned v ∧ ∀ a', Fr N a' ((d, v) :: l) → K a' w') : wpOp P ops Q i K a w := by
 refine Vv hi hg (Vb f xs ts ho hc ?_);rw [Zbv hF hx];refine hR.mono fun e w' hr => ?_;obtain ⟨v, hv, hk⟩ := h e w' hr;exact ⟨v, hv, hd ▸ hk _ (hF.put (Nat.le_of_ble_eq_true hN) v)⟩
theorem Zls {i : Nat} (hi : ops[i]? = some oi) (hg : oi.guard = none) (hF : Fr N a l) {f : FuncId} {xs : Array Operand} {ts : Array TypeId} (ho : oi.op = .call { callee := .value (.func f), args := xs, argTypes := ts }) (hc : ∀ (args : Array Value) (w : World), (callFunc f args).run P w = .ok (.enter f args) w)
  {args : Array Value} (hx : xs.toList.mapM (evO l) = some args.toList) {v : Value} (hR : Calls P f args w fun e w' => e = .returned v ∧ Below w.heap.size w w') {d : Nat} (hd : oi.dst = some d) (hN : Nat.blt d N = true)
  (h : ∀ w', Below w.heap.size w w' → ∀ a', Fr N a' ((d, v) :: l) → K a' w') : wpOp P ops Q i K a w :=
 Zjk hi hg hF ho hc hx hR hd hN fun _ w' ⟨he, hb⟩ => ⟨v, he, h w' hb⟩
end
theorem Znf (hr : Region.ready .any ops listed = []) (h : Q .normal a w) : wpAnyH P .any ops Q (St W s) fuel listed a w := wpAnyH_done hr h fuel
end
end
section
variable {W w w' : World} {s : List Asr} {α : Type} {enc : α → List Value} {size : Nat} {e : TypeId}
theorem St.rowBlk (hS : St W s w) (i : Nat) {ao : Option Addr} {n cap : Nat} {xs : List α} (hi : s[i]? = some (Zg enc size e (.slice ao n cap) xs)) :
  n = xs.length ∧ ((cap = 0 ∧ xs = []) ∨ (cap ≠ 0 ∧ ∃ g cur, ao = some ⟨g, 0, none⟩ ∧ w.heap[g]? = some (.cells cur e (0, 0)) ∧ n ≤ cap ∧ cap ≤ maxLen ∧ cur.size = cap * size ∧ cur.toList.take (n * size) = xs.flatMap enc ∧ W.heap.size ≤ g)) := by
 obtain ⟨ao', cap', hv, hc, _⟩ := hS.row i hi;simp only [Value.slice.injEq] at hv;obtain ⟨rfl, rfl, rfl⟩ := hv;refine ⟨rfl, ?_⟩
 by_cases h0 : cap = 0
 ·rcases hc with h | ho
  ·exact .inl h
  ·obtain ⟨_, _, hv, hle, _⟩ := XT ho
   simp only [Value.slice.injEq, true_and] at hv;obtain ⟨rfl, rfl⟩ := hv;exact .inl ⟨h0, List.length_eq_zero_iff.1 (by omega)⟩
 ·refine .inr ⟨h0, ?_⟩
  rcases hc with h | ho
  ·exact absurd h.1 h0
  ·rcases ho.2 with ⟨hv, _⟩ | ⟨g, cap', cur, hv, hB, hg, h1, h2, h3, h4⟩
   ·simp only [Value.slice.injEq] at hv
    exact absurd hv.2.2 h0
   ·simp only [Value.slice.injEq, true_and] at hv
    obtain ⟨rfl, rfl⟩ := hv;exact ⟨g, cur, rfl, hg, h1, h2, h3, h4, hB⟩
theorem St.rowNew (hS : St W s w) {g cap : Nat} {cur : Array Value} {ys : List α} (hb : Below w.heap.size w w') (hg : w'.heap[g]? = some (.cells cur e (0, 0))) (hw : w.heap.size ≤ g) (hz : cur.size = cap * size) (hl : ys.length ≤ cap) (hm : cap ≤ maxLen)
  (ht : cur.toList.take (ys.length * size) = ys.flatMap enc) : St W (Zg enc size e (.slice (some ⟨g, 0, none⟩) ys.length cap) ys :: s) w' := by
 refine hS.add (ns := [_]) (St.ofRow (B1 := w'.heap.size) ⟨_, cap, rfl, .inr ⟨?_, .inr ⟨g, cap, cur, rfl, hw, hg, hl, hm, hz, ht⟩⟩, fun g' h => ?_⟩ hb)
 ·rw [← ht, List.length_take]; have : ys.length * size ≤ cap * size := Nat.mul_le_mul_right size hl; simp; omega
 ·simp only [Value.rowBlock] at h
  split at h
  ·cases h
  ·obtain rfl := Option.some.inj h; exact VC hg
end
section
variable {P : Program} {w : World} {α : Type}
theorem Zdg (t ty e : TypeId) (i : TypeInfo) (ht : P.underlying t = some (.slice e)) (hi : P.info? e = some i) (ao : Option Addr) (n cap : Nat) (hn : n ≤ cap) (ao2 : Option Addr) (c2 : Nat) :
  (Builtin.append_ #[t, t] ty #[.slice ao n cap, .slice ao2 0 c2]).run P w = .ok (.slice ao n cap) w := by
 have hfc : (Builtin.firstCells i.size 0 (.slice ao2 0 c2)).run P w = .ok #[] w := by
  cases ao2 with
  | none => simp [Builtin.firstCells]
  | some ad => exact run_firstCells_some (P := P) w i.size 0 ad 0 c2 [] (by simp) (by simp)
 cases ao <;> simp [Builtin.append_, run_underlying ht, sizeOf, typeInfo, hi, Builtin.lenOf, hfc, storeCells, hn]
theorem Zlt (t ty e : TypeId) (i : TypeInfo) (z : Value) (size bytes : Nat) (ht : P.underlying t = some (.slice e)) (hi : P.info? e = some i) (hz : i.zero = some z)
  (hsize : i.size = size) (hby : i.bytes = bytes) (hzs : z.cells.size = size) (hsz : 0 < size)
  {enc : α → List Value} (he : ∀ x, (enc x).length = size) {B B1 : Nat} {v : Value} {xs : List α} (h : RowO enc size e w B B1 v xs) (hB : B ≤ w.heap.size) (ao2 : Option Addr) (c2 : Nat) (ys : List α)
  (hr : Rd enc size w ao2 ys.length ys) (h1 : ∀ u ∈ ys.flatMap enc, u.oneCell' = true) (h63 : xs.length + ys.length ≤ maxLen) (hbytes : (xs.length + ys.length) * bytes ≤ 140737488355328) :
  ∃ ao cap w', (Builtin.append_ #[t, t] ty #[v, .slice ao2 ys.length c2]).run P w = .ok (.slice ao (xs.length + ys.length) cap) w' ∧ RowO enc size e w' B w'.heap.size (.slice ao (xs.length + ys.length) cap) (xs ++ ys) ∧
   w.grownBy w' (Value.rowBlock v) ∧ ∀ g, Value.rowBlock (.slice ao (xs.length + ys.length) cap) = some g → Value.rowBlock v = some g ∨ w.heap.size ≤ g := by
 by_cases hy : ys = []
 ·subst hy
  obtain ⟨ao, cap, rfl, ho, hg⟩ := h;have hle : xs.length ≤ cap := by
   rcases ho with ho | ho
   ·rw [ho.2]; exact Nat.zero_le _
   ·obtain ⟨_, _, hv, hle, _⟩ := XT ho
    simp only [Value.slice.injEq, true_and] at hv;obtain ⟨rfl, rfl⟩ := hv;exact hle
  refine ⟨ao, cap, w, Zdg t ty e i ht hi ao _ cap hle ao2 c2, ?_, ⟨rfl, rfl, rfl, Nat.le_refl _, fun _ _ _ => rfl⟩, fun g hg => .inl hg⟩;have hlt := RowO.lt (show RowO enc size e w B B1 (.slice ao xs.length cap) xs from ⟨ao, cap, rfl, ho, hg⟩);rw [List.append_nil];exact ⟨ao, cap, rfl, ho, fun g hg => (hlt g hg).2.2⟩
 ·have hpos : 0 < ys.length := List.length_pos_iff.2 hy
  obtain ⟨ad, rfl⟩ : ∃ ad, ao2 = some ad := by
   cases ao2 with
   | none => exact absurd (Zle hr) hy
   | some ad => exact ⟨ad, rfl⟩
  have hnews := hr.news he hsz;have hnl := VB _ _ he ys;obtain ⟨ao, cap, rfl, ho, hg⟩ := h;have hle : (xs ++ ys).length = xs.length + ys.length := by simp
  have hfl : (xs ++ ys).flatMap enc = xs.flatMap enc ++ ys.flatMap enc := by simp
  have mkR : ∀ {w' : World} {C C1 : Nat} {v' : Value}, w'.ownsRow C e size v' (xs.length + ys.length) (xs.flatMap enc ++ ys.flatMap enc) → (∀ g, v'.ownBlock = some g → g < C1) → RowO enc size e w' C C1 v' (xs ++ ys) := fun h k => RowO.mk (by rw [hle, hfl]; exact h) k
  by_cases h0 : cap = 0
  ·have hx : xs = [] := by
    rcases ho with ho | ho
    ·exact ho.2
    ·obtain ⟨_, _, hv, hle, _⟩ := XT ho
     simp only [Value.slice.injEq, true_and] at hv;obtain ⟨rfl, rfl⟩ := hv;exact List.length_eq_zero_iff.1 (by omega)
   subst hx;subst h0;rw [Jb]
   cases ao with
   | none =>
    obtain ⟨g, cap, w', hrun, hown, hgr, _, hlt⟩ := run_append_lies (P := P) (w := w) t ty w.heap.size e i z size bytes ht hi hz hsize hby hzs hsz (.slice none 0 0) 0 [] ⟨by simp, .inl ⟨rfl, rfl⟩⟩ ad ys.length c2 (ys.flatMap enc) hnl hnews h1 hpos h63 hbytes (Nat.le_refl _) w.heap.size rfl;refine ⟨some ⟨g, 0, none⟩, cap, w', hrun, ?_, hgr, fun g' h => ?_⟩
    ·refine (mkR (by simpa using hown) (fun g' h => ?_)).mono hB (Nat.le_refl _)
     simp only [Value.ownBlock, Option.some.injEq] at h
     omega
    ·right
     have := (hown.lt g' (X6 h)).1;exact this
   | some a0 =>
    obtain ⟨v', w', hrun, hown, hgr⟩ := run_append_arg_grows (P := P) (w := w) t ty e i z size bytes ht hi hz hsize hby hzs hsz a0 0 0 [] (by simp) (by simp) ad ys.length c2 (ys.flatMap enc) hnl hnews (by omega) h63 hbytes;obtain ⟨ao', cap', rfl, _⟩ := XT hown;refine ⟨ao', cap', w', hrun, ?_, hgr, fun g' h => ?_⟩
    ·refine (mkR (by simpa using hown) (fun g' h => (hown.lt g' h).2)).mono hB (Nat.le_refl _)
    ·right
     exact (hown.lt g' (X6 h)).1
  ·have ho' : w.ownsRow B e size (.slice ao xs.length cap) xs.length (xs.flatMap enc) := by
    rcases ho with ho | ho
    ·exact absurd ho.1 h0
    ·exact ho
   obtain ⟨g, cap', w', hrun, hown, hgr, hor, hlt⟩ := run_append_lies (P := P) (w := w) t ty B e i z size bytes ht hi hz hsize hby hzs hsz _ xs.length _ ho' ad ys.length c2 (ys.flatMap enc) hnl hnews h1 hpos h63 hbytes hB w.heap.size rfl;rw [Ju h0];refine ⟨some ⟨g, 0, none⟩, cap', w', hrun, ?_, hgr, fun g' h => ?_⟩
   ·refine mkR hown (fun g' h => ?_)
    simp only [Value.ownBlock, Option.some.injEq] at h
    omega
   ·have := X6 h
    simp only [Value.ownBlock, Option.some.injEq] at this;subst this;rcases hor with h | h
    ·exact .inl h
    ·exact .inr (by omega)
end
section
variable {W w : World} {s : List Asr} {α : Type} {enc : α → List Value} {size : Nat} {e : TypeId}
theorem St.capLe (hS : St W s w) (i : Nat) {ao : Option Addr} {n cap : Nat} {xs : List α} (hi : s[i]? = some (Zg enc size e (.slice ao n cap) xs)) : xs.length ≤ cap := by
 obtain ⟨rfl, ⟨rfl, rfl⟩ | ⟨h0, g, cur, rfl, hg, h1, _⟩⟩ := hS.rowBlk i hi
 ·exact Nat.le_refl _
 ·exact h1
theorem Rd.take {ao : Option Addr} {n : Nat} {xs : List α} (h : Rd enc size w ao n xs) {k : Nat} (hk : k ≤ xs.length) : Rd enc size w ao k (xs.take k) := by
 refine ⟨by rw [List.length_take]; omega, fun i hi => ?_⟩;rw [List.length_take] at hi;have := h.2 i (by omega);rw [List.getElem?_take, if_pos (by omega)];exact this
theorem St.rdN (h : St W s w) (he : ∀ x, (enc x).length = size) (i : Nat) {ao : Option Addr} {n cap : Nat} {xs : List α} (hi : s[i]? = some (Zg enc size e (.slice ao n cap) xs)) : Rd enc size w ao n xs := by
 obtain ⟨rfl, _⟩ := h.rowBlk i hi;exact h.rdOf he i hi
theorem Zak (enc : α → List Value) (size : Nat) (w : World) (ao : Option Addr) : Rd enc size w ao 0 [] := ⟨rfl, fun i hi => absurd hi (Nat.not_lt_zero _)⟩
end
structure UD (P : Program) (t e : TypeId) (size bytes : Nat) : Prop where
  ht : P.underlying t = some (.slice e)
  info : ∃ i z, P.info? e = some i ∧ i.zero = some z ∧ i.size = size ∧ i.bytes = bytes ∧ z.cells.size = size
  pos : 0 < size
section
variable {P : Program} {ops : Array Oper} {Q : Exit → Act → World → Prop} {rest : List Oper} {o : Oper} {a : Act} {w W : World} {N : Nat} {l : List (Nat × Value)} {s : List Asr} {α : Type} {enc : α → List Value} {size : Nat} {e : TypeId}
theorem St.appL (hS : St W s w) {t : TypeId} {bytes : Nat} (hT : UD P t e size bytes) (ty : TypeId) (he : ∀ x, (enc x).length = size) (i : Nat) {v : Value} {xs : List α} (hi : s[i]? = some (Zg enc size e v xs)) {ao2 : Option Addr} {n c2 : Nat} {ys : List α} (hr : Rd enc size w ao2 n ys) (h1 : ∀ u ∈ ys.flatMap enc, u.oneCell' = true)
  (h63 : xs.length + ys.length ≤ maxLen) (hbytes : (xs.length + ys.length) * bytes ≤ 140737488355328) :
  ∃ ao cap w', (Builtin.append_ #[t, t] ty #[v, .slice ao2 n c2]).run P w = .ok (.slice ao (xs.length + ys.length) cap) w' ∧ St W (s.set i (Zg enc size e (.slice ao (xs.length + ys.length) cap) (xs ++ ys))) w' := by
 obtain ⟨i0, z, hi0, hz0, k1, k2, k3⟩ := hT.info;obtain rfl : n = ys.length := hr.1.symm;obtain ⟨ao, cap, w', hrun, hrow, hgr, hor⟩ := Zlt (P := P) t ty e i0 z size bytes hT.ht hi0 hz0 k1 k2 k3 hT.pos he (hS.row i hi) hS.bel.size ao2 c2 ys hr h1 h63 hbytes;exact ⟨ao, cap, w', hrun, hS.mutRow i hi hrow hgr hor⟩
theorem Zjl {t : TypeId} {x y : Operand} (ho : o.op = .call { callee := .builtin .append, args := #[x, y], argTypes := #[t, t] }) {u v r : Value} (hx : a.eval x = u) (hy : a.eval y = v) {w' : World} (h : (Builtin.append_ #[t, t] o.type #[u, v]).run P w = .ok r w') : (execOp a.eval o).run P w = .ok (.value r) w' := by
 unfold execOp;simp only [ho, resolve, invoke, builtin, Sem.run_bind, Sem.run_pure, Result.andThen_ok, List.map_toArray, List.map_cons, List.map_nil, hx, hy, h]
theorem XE (hg : o.guard = none) (hF : Fr N a l) {t : TypeId} {x y : Operand} (ho : o.op = .call { callee := .builtin .append, args := #[x, y], argTypes := #[t, t] }) {d : Nat} (hd : o.dst = some d) (hN : Nat.blt d N = true) {v : Value} {ao2 : Option Addr} {n c2 : Nat} (hx : a.eval x = v) (hy : a.eval y = .slice ao2 n c2)
  {bytes : Nat} (hT : UD P t e size bytes) (he : ∀ x, (enc x).length = size) (hS : St W s w) (i : Nat) {xs : List α} (hi : s[i]? = some (Zg enc size e v xs)) {ys : List α} (hr : Rd enc size w ao2 n ys) (h1 : ∀ u ∈ ys.flatMap enc, u.oneCell' = true)
  (h63 : xs.length + ys.length ≤ maxLen) (hbytes : (xs.length + ys.length) * bytes ≤ 140737488355328)
  (h : ∀ ao cap w' a', Fr N a' ((d, .slice ao (xs.length + ys.length) cap) :: l) → St W (s.set i (Zg enc size e (.slice ao (xs.length + ys.length) cap) (xs ++ ys))) w' → wpList P ops Q rest a' w') : wpList P ops Q (o :: rest) a w := by
 obtain ⟨ao, cap, w', hrun, hS'⟩ := hS.appL hT o.type he i hi (c2 := c2) hr h1 h63 hbytes;refine wpList_plain hg fun K hK => ?_;unfold Oper.wp;rw [Zjl ho hx hy hrun];exact hK _ _ (hd ▸ h _ _ _ _ (hF.put (Nat.le_of_ble_eq_true hN) _) hS')
theorem Yq {i0 : Nat} {K : Act → World → Prop} (hi0 : ops[i0]? = some o) (hg : o.guard = none) (hF : Fr N a l) {t : TypeId} {x y : Operand} (ho : o.op = .call { callee := .builtin .append, args := #[x, y], argTypes := #[t, t] }) {d : Nat} (hd : o.dst = some d) (hN : Nat.blt d N = true) {v : Value} {ao2 : Option Addr} {n c2 : Nat} (hx : a.eval x = v) (hy : a.eval y = .slice ao2 n c2)
  {bytes : Nat} (hT : UD P t e size bytes) (he : ∀ x, (enc x).length = size) (hS : St W s w) (i : Nat) {xs : List α} (hi : s[i]? = some (Zg enc size e v xs)) {ys : List α} (hr : Rd enc size w ao2 n ys) (h1 : ∀ u ∈ ys.flatMap enc, u.oneCell' = true)
  (h63 : xs.length + ys.length ≤ maxLen) (hbytes : (xs.length + ys.length) * bytes ≤ 140737488355328)
  (h : ∀ ao cap w' a', Fr N a' ((d, .slice ao (xs.length + ys.length) cap) :: l) → St W (s.set i (Zg enc size e (.slice ao (xs.length + ys.length) cap) (xs ++ ys))) w' → K a' w') : wpOp P ops Q i0 K a w := by
 obtain ⟨ao, cap, w', hrun, hS'⟩ := hS.appL hT o.type he i hi (c2 := c2) hr h1 h63 hbytes;refine Vv hi0 hg ?_;unfold Oper.wp;rw [Zjl ho hx hy hrun];exact (show K (a.put o.dst _) w' by rw [hd]; exact h _ _ _ _ (hF.put (Nat.le_of_ble_eq_true hN) _) hS')
theorem Zlu {i0 : Nat} {K : Act → World → Prop} (hi0 : ops[i0]? = some o) (hg : o.guard = none) (hF : Fr N a l) {t : TypeId} (ho : o.op = .buildSlice t 0 #[]) {d : Nat} (hd : o.dst = some d) (hN : Nat.blt d N = true) (hu : Yv P t = some (e, size)) {s2 : List Asr} (hS2 : St W s2 w) (hS : St W s w)
  (h : ∀ a' w' b, Fr N a' ((d, .slice (some ⟨b, 0, none⟩) 0 0) :: l) → St W s2 w' → St W s w' → K a' w') : wpOp P ops Q i0 K a w := by
 unfold Yv at hu
 split at hu
 ·rename_i e' hu'
  split at hu
  ·rename_i inf hq
   refine Vv hi0 hg ?_;have hr : (execOp a.eval o).run P w = .ok (.value (.slice (some ⟨w.heap.size, 0, none⟩) 0 0)) (w.alloc (.cells #[] e')) := by
    unfold execOp;simp only [ho, Instr.buildSlice, Sem.run_bind, run_underlying hu' w, Result.andThen_ok, JN hq w];simp [Instr.fill, newRow, go_sem]
   unfold Oper.wp;rw [hr];exact (show K (a.put o.dst _) _ by rw [hd]; exact h _ _ _ (hF.put (Nat.le_of_ble_eq_true hN) _) (hS2.later ((Below.refl _ _).alloc (Nat.le_refl _) _)) (hS.later ((Below.refl _ _).alloc (Nat.le_refl _) _)))
  ·cases hu
 ·cases hu
theorem JP {t : TypeId} {x y : Operand} (ho : o.op = .slice t x none (some y) none) {ao : Option Addr} {n cap : Nat} (hx : a.eval x = .slice ao n cap) {kk : IntKind} {m : Int} (hy : a.eval y = .int kk m) {size : Nat} (hu : Yv P t = some (e, size)) {k : Nat} (hm : m = (k : Int)) (hk : k ≤ cap) : Yl P w o a (.slice ao k cap) := by
 unfold Yv at hu
 split at hu
 ·rename_i e' hu'
  split at hu
  ·rename_i inf hq
   subst hm;have h2 : ((k : Int) ≤ (cap : Int)) := by omega
   unfold Yl execOp;simp only [ho, hx, hy, Option.map_some, Option.map_none, Instr.sliceAt, Instr.slice, Sem.run_bind, run_underlying hu' w, Result.andThen_ok];simp [Instr.slice, Instr.sliceBounds, Instr.sliceBound, asIntOf, go_sem, run_underlying hu' w, sizeOf, typeInfo, hq, h2];intro hlt; omega
  ·cases hu
 ·cases hu
theorem Zjm {x y : Operand} {tt : Array TypeId} (ho : o.op = .call { callee := .builtin .min, args := #[x, y], argTypes := tt }) {k : IntKind} {m n : Int} (hx : a.eval x = .int k m) (hy : a.eval y = .int k n) : Yl P w o a (.int k (min m n)) := by
 unfold Yl execOp;simp only [ho, resolve, invoke, builtin, Sem.run_bind, Sem.run_pure, Result.andThen_ok, List.map_toArray, List.map_cons, List.map_nil, hx, hy];simp only [Builtin.min_, List.foldlM_cons, List.foldlM_nil, Builtin.min2];simp [go_sem, Int.min_def]
 split <;> split <;> omega
theorem Zf1 {x y : Operand} {tt : Array TypeId} (ho : o.op = .call { callee := .builtin .max, args := #[x, y], argTypes := tt }) {k : IntKind} {m n : Int} (hx : a.eval x = .int k m) (hy : a.eval y = .int k n) : Yl P w o a (.int k (max m n)) := by
 unfold Yl execOp;simp only [ho, resolve, invoke, builtin, Sem.run_bind, Sem.run_pure, Result.andThen_ok, List.map_toArray, List.map_cons, List.map_nil, hx, hy];simp only [Builtin.max_, List.foldlM_cons, List.foldlM_nil, Builtin.max2];simp [go_sem, Int.max_def]
 split <;> split <;> omega
theorem Fr.skipU (h : Fr N a l) {g d : Nat} {b : Bool} (ho : o.guard = some (g, b)) (hg : (ops[g]?).bind (·.dst) = some d) (hb : lk l d = some undef) : Region.wanted o (yielded ops a.tmps) = false := by
 simp [Region.wanted, ho, yielded, hg, h.at_ d _ hb, undef]
theorem ZgT (hF : Fr N a l) {g dg d : Nat} {b : Bool} (hgd : o.guard = some (g, b)) (hgo : (ops[g]?).bind (·.dst) = some dg) (hgv : lk l dg = some (.bool b)) {f : FuncId} {xs : Array Operand} {ts : Array TypeId} (ho : o.op = .call { callee := .value (.func f), args := xs, argTypes := ts }) (hc : ∀ (args : Array Value) (w : World), (callFunc f args).run P w = .ok (.enter f args) w)
  {args : Array Value} (hx : xs.toList.mapM (evO l) = some args.toList) {R : Ending → World → Prop} (hR : Calls P f args w R) (hd : o.dst = some d) (hN : Nat.blt d N = true)
  (h : ∀ e w', R e w' → ∃ v, e = .returned v ∧ ∀ a', Fr N a' ((d, v) :: l) → wpList P ops Q rest a' w') : wpList P ops Q (o :: rest) a w := by
 refine wpList_step fun K hK => ?_;rw [if_pos (hF.want hgd hgo hgv)];refine Vb f xs ts ho hc ?_;rw [Zbv hF hx];refine hR.mono fun e w' hr => ?_;obtain ⟨v, hv, hk⟩ := h e w' hr;exact ⟨v, hv, hK _ _ (hd ▸ hk _ (hF.put (Nat.le_of_ble_eq_true hN) v))⟩
theorem ZgU (hF : Fr N a l) {ps0 : Array (Nat × Operand)} {ps : List (Nat × Value)} (hp : ps0.toList.mapM (fun p => (evO l p.2).map fun v => (p.1, v)) = some ps) : (ps0.map fun (i, x) => (i, a.eval x)).toList = ps := by
 rw [Array.toList_map];have key : ∀ (ys : List (Nat × Operand)) (vs : List (Nat × Value)), ys.mapM (fun p => (evO l p.2).map fun v => (p.1, v)) = some vs → ys.map (fun (i, x) => (i, a.eval x)) = vs := by
  intro ys
  induction ys with
  | nil => intro vs hv; simpa using hv
  | cons y r ih =>
   obtain ⟨yi, yx⟩ := y;intro vs hv;rw [List.mapM_cons] at hv
   cases h1 : evO l yx with
   | none => rw [h1] at hv; cases hv
   | some v =>
    rw [h1] at hv
    cases h2 : r.mapM (fun p => (evO l p.2).map fun v => (p.1, v)) with
    | none => rw [h2] at hv; cases hv
    | some us =>
     rw [h2] at hv;obtain rfl : (yi, v) :: us = vs := by simpa using hv
     rw [List.map_cons, ih us h2];show (yi, a.eval yx) :: us = _;rw [hF.ev h1]
 exact key _ _ hp
def Zbw (P : Program) (t : TypeId) (len : Nat) (parts : List (Nat × Value)) : Option (TypeId × Nat × List Value) :=
 match P.underlying t with
 | some (.slice e) => match P.info? e with
  | some inf => match inf.zero with
   | some z => if 2 ^ 24 < len * inf.size then none else if len * inf.size = 0 then none else
    match Instr.fill (fun i => some (i * inf.size, inf.size)) ((Array.range (len * inf.size)).map (z.cells[· % z.cells.size]!)) parts with
    | some cells => some (e, inf.size, cells.toList)
    | none => none
   | none => none
  | none => none
 | _ => none
theorem Zj4 (hg : o.guard = none) (hF : Fr N a l) {t : TypeId} {len : Nat} {ps0 : Array (Nat × Operand)} (ho : o.op = .buildSlice t len ps0) {d : Nat} (hd : o.dst = some d) (hN : Nat.blt d N = true) {ps : List (Nat × Value)} (hp : ps0.toList.mapM (fun p => (evO l p.2).map fun v => (p.1, v)) = some ps)
  {cells : List Value} (hb : Zbw P t len ps = some (e, size, cells)) (xs : List α) (hl : xs.length = len) (hx : xs.flatMap enc = cells) (hm : len ≤ maxLen) (hc : cells.length = len * size) (hS : St W s w)
  (h : ∀ b a' w', Fr N a' ((d, .slice (some ⟨b, 0, none⟩) len len) :: l) → St W (Zg enc size e (.slice (some ⟨b, 0, none⟩) len len) xs :: s) w' → wpList P ops Q rest a' w') : wpList P ops Q (o :: rest) a w := by
 have hps := ZgU hF hp;unfold Zbw at hb
 split at hb
 ·rename_i e' hu
  split at hb
  ·rename_i inf hq
   split at hb
   ·rename_i z hz
    split at hb
    ·cases hb
    ·rename_i hbig
     split at hb
     ·cases hb
     ·rename_i hnz
      split at hb
      ·rename_i cs hf
       simp only [Option.some.injEq, Prod.mk.injEq] at hb;obtain ⟨rfl, rfl, rfl⟩ := hb;refine wpList_plain hg fun K hK => ?_;have hr : (execOp a.eval o).run P w = .ok (.value (.slice (some ⟨w.heap.size, 0, none⟩) len len)) (w.alloc (.cells cs e')) := by
        unfold execOp;simp only [ho, Instr.buildSlice, Sem.run_bind, run_underlying hu w, Result.andThen_ok, JN hq w, hps];simp only [if_neg hbig, if_neg hnz, Sem.run_bind, Sem.run_pure, Result.andThen_ok, Zdy hq hz w, hf];simp [newRow, go_sem]
       unfold Oper.wp;rw [hr];refine hK _ _ (hd ▸ h _ _ _ (hF.put (Nat.le_of_ble_eq_true hN) _) ?_);have hn := hS.rowNew (w' := w.alloc (.cells cs e')) (enc := enc) (size := inf.size) (ys := xs) (cap := len) ((Below.refl _ _).alloc (Nat.le_refl _) _) (XD w _ _ rfl) (Nat.le_refl _) (by simpa using hc) (by omega) hm (by rw [hx, hl, List.take_of_length_le (by omega)]);rw [hl] at hn;exact hn
      ·cases hb
   ·cases hb
  ·cases hb
 ·cases hb
theorem ZK {i0 : Nat} {K : Act → World → Prop} (hi0 : ops[i0]? = some o) (hg : o.guard = none) (hF : Fr N a l) {t : TypeId} {len : Nat} {ps0 : Array (Nat × Operand)} (ho : o.op = .buildSlice t len ps0) {d : Nat} (hd : o.dst = some d) (hN : Nat.blt d N = true) {ps : List (Nat × Value)} (hp : ps0.toList.mapM (fun p => (evO l p.2).map fun v => (p.1, v)) = some ps)
  {cells : List Value} (hb : Zbw P t len ps = some (e, size, cells)) (xs : List α) (hl : xs.length = len) (hx : xs.flatMap enc = cells) (hm : len ≤ maxLen) (hc : cells.length = len * size) {s2 : List Asr} (hS2 : St W s2 w) (hS : St W s w)
  (h : ∀ b a' w', Fr N a' ((d, .slice (some ⟨b, 0, none⟩) len len) :: l) → St W (Zg enc size e (.slice (some ⟨b, 0, none⟩) len len) xs :: s2) w' → St W s w' → K a' w') : wpOp P ops Q i0 K a w := by
 have hps := ZgU hF hp;unfold Zbw at hb
 split at hb
 ·rename_i e' hu
  split at hb
  ·rename_i inf hq
   split at hb
   ·rename_i z hz
    split at hb
    ·cases hb
    ·rename_i hbig
     split at hb
     ·cases hb
     ·rename_i hnz
      split at hb
      ·rename_i cs hf
       simp only [Option.some.injEq, Prod.mk.injEq] at hb;obtain ⟨rfl, rfl, rfl⟩ := hb;refine Vv hi0 hg ?_;have hr : (execOp a.eval o).run P w = .ok (.value (.slice (some ⟨w.heap.size, 0, none⟩) len len)) (w.alloc (.cells cs e')) := by
        unfold execOp;simp only [ho, Instr.buildSlice, Sem.run_bind, run_underlying hu w, Result.andThen_ok, JN hq w, hps];simp only [if_neg hbig, if_neg hnz, Sem.run_bind, Sem.run_pure, Result.andThen_ok, Zdy hq hz w, hf];simp [newRow, go_sem]
       unfold Oper.wp;rw [hr];have hn := hS2.rowNew (w' := w.alloc (.cells cs e')) (enc := enc) (size := inf.size) (ys := xs) (cap := len) ((Below.refl _ _).alloc (Nat.le_refl _) _) (XD w _ _ rfl) (Nat.le_refl _) (by simpa using hc) (by omega) hm (by rw [hx, hl, List.take_of_length_le (by omega)]);rw [hl] at hn;exact (show K (a.put o.dst _) _ by rw [hd]; exact h _ _ _ (hF.put (Nat.le_of_ble_eq_true hN) _) hn (hS.later ((Below.refl _ _).alloc (Nat.le_refl _) _)))
      ·cases hb
   ·cases hb
  ·cases hb
 ·cases hb
end
section
variable {P : Program} {ops : Array Oper} {Q : Exit → Act → World → Prop} {K : Act → World → Prop} {rest : List Oper} {o : Oper} {a : Act} {w : World} {N : Nat} {l : List (Nat × Value)}
theorem Zjn {id : Nat} {l : List Oper} {y : Code} (h : wpList P l.toArray (Exit.then (y.wp P Q) Q) l a w) : (Code.seq (Code.region id l.toArray false) y).wp P Q a w := wp_seq (wp_region_lit h)
theorem Zbx (h : K a w) : wpList P ops (Exit.then K Q) [] a w := wpList_nil (Y9 h)
theorem Zo7 (hF : Fr N a l) (hg : o.guard = none) {d : Nat} (hd : o.dst = some d) (hN : Nat.blt d N = true) {x : Operand} (ho : o.op = .assign x) {v : Value} (hx : evO l x = some v) (h : ∀ a', Fr N a' ((d, v) :: l) → wpList P ops Q rest a' w) : wpList P ops Q (o :: rest) a w := Zo5 hg hF hd hN (ZeX ho (hF.ev hx)) h
theorem za (hF : Fr N a l) {d : Nat} {x : Operand} {v : Value} (h : ∀ a', Fr N a' ((d, v) :: l) → wpList P ops Q rest a' w) (hg : o.guard = none := by exact rfl) (hd : o.dst = some d := by exact rfl) (hN : Nat.blt d N = true := by exact rfl) (ho : o.op = .assign x := by exact rfl) (hx : evO l x = some v := by exact rfl) : wpList P ops Q (o :: rest) a w := Zo7 hF hg hd hN ho hx h
theorem zy (hF : Fr N a l) {d : Nat} {v : Value} (hy : Yl P w o a v) (h : ∀ a', Fr N a' ((d, v) :: l) → wpList P ops Q rest a' w) (hg : o.guard = none := by exact rfl) (hd : o.dst = some d := by exact rfl) (hN : Nat.blt d N = true := by exact rfl) : wpList P ops Q (o :: rest) a w := Zo5 hg hF hd hN hy h
theorem zg (hF : Fr N a l) {g dg d : Nat} {b : Bool} {v : Value} (hy : Yl P w o a v) (h : ∀ a', Fr N a' ((d, v) :: l) → wpList P ops Q rest a' w) (hgd : o.guard = some (g, b) := by exact rfl) (hgo : (ops[g]?).bind (·.dst) = some dg := by exact rfl) (hgv : lk l dg = some (.bool b) := by exact rfl) (hd : o.dst = some d := by exact rfl) (hN : Nat.blt d N = true := by exact rfl) : wpList P ops Q (o :: rest) a w := Zo6 hF hgd hgo hgv hd hN hy h
section
variable {W : World} {s : List Asr} {Q : Act → Prop}
end
section
variable {W : World} {s : List Asr} {Q : Exit → Act → World → Prop} {fuel : Nat} {listed : Array Bool}
end
end
section
variable {P : Program} {w : World} {o : Oper} {a : Act} {x y z : Operand} {t t' : TypeId}
theorem ylo (ho : o.op = .load t x) {p : Addr} (hx : a.eval x = .pointer (some p)) {v : Value} (hc : w.cell? p = some v) (hs : YH P t = true := by kernel_rfl) : Yl P w o a v := QL ho hx hc hs
theorem ylr (ho : o.op = .load t x) {b k : Nat} (hx : a.eval x = .pointer (some ⟨b, k, none⟩)) {cs : List Value} (hc : w.rangeAt b k cs) (hs : XW P t cs.length = true := by kernel_rfl) : Yl P w o a (.agg cs.toArray) := VG ho hx hc hs
theorem yfa (j : Nat) {i : Nat} (ho : o.op = .fieldAddr t x i) {b k : Nat} (hx : a.eval x = .pointer (some ⟨b, k, none⟩)) (hj : JM P t i = some j := by kernel_rfl) : Yl P w o a (.pointer (some ⟨b, k + j, none⟩)) := Zbu ho hx hj
end
def Zng : List Value → Nat → Option Value
 | [], _ => none
 | v :: _, 0 => some v
 | _ :: r, i + 1 => Zng r i
theorem Zf2 : ∀ (xs : List Value) (i : Nat), Zng xs i = xs[i]?
 | [], _ => rfl
 | _ :: _, 0 => rfl
 | _ :: r, i + 1 => Zf2 r i
def Zo8 : BinOp → Int → Int → Option Value
 | .eql, m, n => some (.bool (m == n))
 | .neq, m, n => some (.bool (m != n))
 | .lss, m, n => some (.bool (decide (m < n)))
 | .leq, m, n => some (.bool (decide (m ≤ n)))
 | .gtr, m, n => some (.bool (decide (n < m)))
 | .geq, m, n => some (.bool (decide (n ≤ m)))
 | _, _, _ => none
def auV (l : List (Nat × Value)) : Op → Option Value
 | .move x => evO l x
 | .assign x => evO l x
 | .extract x i => match evO l x with
  | some (.tuple vs) => Zng vs.toList i
  | _ => none
 | .nilCheck x => match evO l x with
  | some (.pointer (some p)) => some (.pointer (some p))
  | _ => none
 | .unOp .not _ x => match evO l x with
  | some (.bool b) => some (.bool !b)
  | _ => none
 | .pick z x y => match evO l z with
  | some (.bool true) => evO l x
  | some (.bool false) => evO l y
  | _ => none
 | .binOp op _ x y _ => match evO l x with
  | some (.int k m) => match evO l y with
   | some (.int k' n) => match decide (k = k') with
    | true => Zo8 op m n
    | false => none
   | _ => none
  | _ => none
 | _ => none
theorem Zik {P : Program} {w : World} {o : Oper} {a : Act} {N : Nat} {l : List (Nat × Value)} (hF : Fr N a l) {p : Op} (ho : o.op = p) {v : Value} (h : auV l p = some v) : Yl P w o a v := by
 unfold auV at h
 split at h
 ·exact Y6 ho (hF.ev h)
 ·exact ZeX ho (hF.ev h)
 ·split at h
  ·rename_i hx
   exact Zih ho (hF.ev hx) (by rw [Zf2] at h; simpa using h)
  ·cases h
 ·split at h
  ·rename_i hx
   obtain rfl := Option.some.inj h;exact Qz ho (hF.ev hx)
  ·cases h
 ·split at h
  ·rename_i hx
   obtain rfl := Option.some.inj h;exact Zou ho (hF.ev hx)
  ·cases h
 ·split at h
  ·rename_i hx
   exact Zj1 ho (hF.ev hx) (hF.ev h)
  ·rename_i hx
   exact Zj2 ho (hF.ev hx) (hF.ev h)
  ·cases h
 ·split at h
  ·rename_i hx
   split at h
   ·rename_i hy
    split at h
    ·rename_i hk
     obtain rfl := of_decide_eq_true hk;unfold Zo8 at h
     split at h
     ·obtain rfl := Option.some.inj h; exact Zm7 ho (hF.ev hx) (hF.ev hy)
     ·obtain rfl := Option.some.inj h; exact Zm8 ho (hF.ev hx) (hF.ev hy)
     ·obtain rfl := Option.some.inj h; exact Zm9 ho (hF.ev hx) (hF.ev hy)
     ·obtain rfl := Option.some.inj h; exact Zna ho (hF.ev hx) (hF.ev hy)
     ·obtain rfl := Option.some.inj h; exact Znb ho (hF.ev hx) (hF.ev hy)
     ·obtain rfl := Option.some.inj h; exact Znc ho (hF.ev hx) (hF.ev hy)
     ·cases h
    ·cases h
   ·cases h
  ·cases h
 ·cases h
def auG (ops : Array Oper) (l : List (Nat × Value)) (o : Oper) : Option Bool := match o.guard with
 | none => some true
 | some (g, b) => match (ops[g]?).bind (·.dst) with
  | none => none
  | some dg => match lk l dg with
   | some (.bool c) => some (c == b)
   | some (.tuple vs) => match vs.toList with
    | [] => some false
    | _ => none
   | _ => none
def auS (N : Nat) (ops : Array Oper) (l : List (Nat × Value)) (o : Oper) : Option (Nat × Value) := match o.dst with
 | none => none
 | some d => match Nat.blt d N with
  | false => none
  | true => match auG ops l o with
   | none => none
   | some false => some (d, undef)
   | some true => match auV l o.op with
    | some v => some (d, v)
    | none => none
def auR (N : Nat) (ops : Array Oper) : Nat → List Oper → List (Nat × Value) → Option (List Oper × List (Nat × Value))
 | 0, r, l => some (r, l)
 | _ + 1, [], _ => none
 | n + 1, o :: r, l => match auS N ops l o with
  | some (d, v) => auR N ops n r ((d, v) :: l)
  | none => none
theorem VI {ops : Array Oper} {l : List (Nat × Value)} {o : Oper} {a : Act} {N : Nat} (hF : Fr N a l) {c : Bool} (h : auG ops l o = some c) : Region.wanted o (yielded ops a.tmps) = c := by
  unfold auG at h
  split at h
  · rename_i hg
    obtain rfl := Option.some.inj h;exact Uh hg
  · rename_i g b hg
    split at h
    · cases h
    · rename_i dg hd
      split at h
      · rename_i c' hl
        obtain rfl := Option.some.inj h
        cases hc : (c' == b) with
        | true => obtain rfl : c' = b := by simpa using hc
                  exact hF.want hg hd hl
        | false => exact hF.skip hg hd hl hc
      · rename_i vs hl
        split at h
        · rename_i hv
          obtain rfl := Option.some.inj h;have : vs = #[] := by simpa using hv
          subst this;exact hF.skipU hg hd hl
        · cases h
      · cases h
theorem zr (n : Nat) {P : Program} {ops : Array Oper} {Q : Exit → Act → World → Prop} {rest r : List Oper} {a : Act} {w : World} {N : Nat} {l l' : List (Nat × Value)} (hF : Fr N a l) (hr : auR N ops n rest l = some (r, l')) (h : ∀ a', Fr N a' l' → wpList P ops Q r a' w) : wpList P ops Q rest a w := by
 induction n generalizing rest l a with
 | zero =>
  simp only [auR, Option.some.injEq, Prod.mk.injEq] at hr;obtain ⟨rfl, rfl⟩ := hr;exact h a hF
 | succ n ih =>
  cases rest with
  | nil => cases hr
  | cons o rest =>
   unfold auR at hr
   split at hr
   ·rename_i d v hs
    unfold auS at hs
    split at hs
    ·cases hs
    ·rename_i d' hd
     split at hs
     ·cases hs
     ·rename_i hN
      split at hs
      ·cases hs
      ·rename_i hg
       simp only [Option.some.injEq, Prod.mk.injEq] at hs;obtain ⟨rfl, rfl⟩ := hs;refine wpList_step fun K hK => ?_;rw [if_neg (by rw [VI hF hg]; simp)];exact hK _ _ (hd ▸ ih (hF.put (Nat.le_of_ble_eq_true hN) undef) hr)
      ·rename_i hg
       split at hs
       ·rename_i v' hv
        simp only [Option.some.injEq, Prod.mk.injEq] at hs;obtain ⟨rfl, rfl⟩ := hs;refine wpList_step fun K hK => ?_;rw [if_pos (VI hF hg)];unfold Oper.wp;rw [show (execOp a.eval o).run P w = _ from Zik hF rfl hv];exact hK _ _ (hd ▸ ih (hF.put (Nat.le_of_ble_eq_true hN) _) hr)
       ·cases hs
   ·cases hr
theorem zrq (n : Nat) {P : Program} {ops : Array Oper} {W : World} {s : List Asr} {Q : Act → Prop} {rest r : List Oper} {a : Act} {N : Nat} {l l' : List (Nat × Value)} (hF : Fr N a l) (hr : auR N ops n rest l = some (r, l')) (h : ∀ a', Fr N a' l' → wpQuiet P ops (St W s) Q r a') : wpQuiet P ops (St W s) Q rest a := by
 induction n generalizing rest l a with
 | zero =>
  simp only [auR, Option.some.injEq, Prod.mk.injEq] at hr;obtain ⟨rfl, rfl⟩ := hr;exact h a hF
 | succ n ih =>
  cases rest with
  | nil => cases hr
  | cons o rest =>
   unfold auR at hr
   split at hr
   ·rename_i d v hs
    unfold auS at hs
    split at hs
    ·cases hs
    ·rename_i d' hd
     split at hs
     ·cases hs
     ·rename_i hN
      split at hs
      ·cases hs
      ·rename_i hg
       simp only [Option.some.injEq, Prod.mk.injEq] at hs;obtain ⟨rfl, rfl⟩ := hs;refine wpQuiet_step fun K hK => ?_;rw [if_neg (by rw [VI hF hg]; simp)];exact hK _ (hd ▸ ih (hF.put (Nat.le_of_ble_eq_true hN) undef) hr)
      ·rename_i hg
       split at hs
       ·rename_i v' hv
        simp only [Option.some.injEq, Prod.mk.injEq] at hs;obtain ⟨rfl, rfl⟩ := hs;refine wpQuiet_step fun K hK => ?_;rw [if_pos (VI hF hg)];refine ⟨_, fun w hw => ?_, hK _ (hd ▸ ih (hF.put (Nat.le_of_ble_eq_true hN) _) hr)⟩;unfold Oper.quietAt;rw [show (execOp a.eval o).run P w = _ from Zik hF rfl hv];exact ⟨rfl, rfl⟩
       ·cases hs
   ·cases hr
abbrev z5 : List Value := [.int .i64 0, .int .i64 0, .int .i64 0, .int .i64 0, .int .i64 0]
abbrev az5 : Value := .agg #[.int .i64 0, .int .i64 0, .int .i64 0, .int .i64 0, .int .i64 0]
abbrev z7 : List Value := [.int .i64 0, .int .i64 0, .int .i64 0, .int .i64 0, .int .i64 0, .int .i64 0, .int .i64 0]
abbrev az7 : Value := .agg #[.int .i64 0, .int .i64 0, .int .i64 0, .int .i64 0, .int .i64 0, .int .i64 0, .int .i64 0]
abbrev z10 : List Value := [.int .i64 0, .int .i64 0, .int .i64 0, .int .i64 0, .int .i64 0, .int .i64 0, .int .i64 0, .int .i64 0, .int .i64 0, .int .i64 0]
abbrev ZgV : Value := .agg #[.int .i64 0, .int .i64 0, .int .i64 0, .int .i64 0, .int .i64 0, .int .i64 0, .int .i64 0, .int .i64 0, .int .i64 0, .int .i64 0]
abbrev z8 : List Value := [.slice none 0 0, .slice none 0 0, .slice none 0 0, .int .i64 0, .slice none 0 0, .int .i64 0, .slice none 0 0, .bool false]
abbrev az8 : Value := .agg #[.slice none 0 0, .slice none 0 0, .slice none 0 0, .int .i64 0, .slice none 0 0, .int .i64 0, .slice none 0 0, .bool false]
abbrev bE : ByteArray := ByteArray.empty
abbrev oPL (k : Int) (p q : ByteArray) (a : Int) (x : ByteArray) : List Value := [.int .i64 k, .string p, .string q, .int .i64 a, .string x]
abbrev oPV (k : Int) (p q : ByteArray) (a : Int) (x : ByteArray) : Value := .agg #[.int .i64 k, .string p, .string q, .int .i64 a, .string x]
section
variable {P : Program} {ops : Array Oper} {Q : Exit → Act → World → Prop} {rest r : List Oper} {o : Oper} {w W : World} {N : Nat} {l l' : List (Nat × Value)} {s : List Asr}
theorem xr (n : Nat) (hr : auR N ops n rest l = some (r, l')) (h : ∀ a, Fr N a l' → wpList P ops Q r a w) : ∀ a, Fr N a l → wpList P ops Q rest a w := fun _ hF => zr n hF hr h
theorem xqr (n : Nat) {Q : Act → Prop} (hr : auR N ops n rest l = some (r, l')) (h : ∀ a, Fr N a l' → wpQuiet P ops (St W s) Q r a) : ∀ a, Fr N a l → wpQuiet P ops (St W s) Q rest a := fun _ hF => zrq n hF hr h
def auD (N : Nat) (ops : Array Oper) (l : List (Nat × Value)) (o : Oper) : Option Nat := match o.dst with
 | none => none
 | some d => match Nat.blt d N with
  | false => none
  | true => match auG ops l o with
   | some true => some d
   | _ => none
theorem Zil {a : Act} (hF : Fr N a l) {d : Nat} (h : auD N ops l o = some d) : o.dst = some d ∧ Nat.blt d N = true ∧ Region.wanted o (yielded ops a.tmps) = true := by
 unfold auD at h
 split at h
 ·cases h
 ·rename_i d' hd
  split at h
  ·cases h
  ·rename_i hN
   split at h
   ·rename_i hg
    obtain rfl := Option.some.inj h;exact ⟨hd, hN, VI hF hg⟩
   ·cases h
theorem xy {d : Nat} {v : Value} (hd : auD N ops l o = some d) (hy : ∀ a, Fr N a l → Yl P w o a v) (h : ∀ a, Fr N a ((d, v) :: l) → wpList P ops Q rest a w) : ∀ a, Fr N a l → wpList P ops Q (o :: rest) a w := fun a hF => by
 obtain ⟨h1, h2, h3⟩ := Zil hF hd;refine wpList_step fun K hK => ?_;rw [if_pos h3];unfold Oper.wp;rw [show (execOp a.eval o).run P w = _ from hy a hF];exact hK _ _ (h1 ▸ h _ (hF.put (Nat.le_of_ble_eq_true h2) _))
theorem xq {Q : Act → Prop} {d : Nat} {v : Value} (hd : auD N ops l o = some d) (hy : ∀ {w}, St W s w → ∀ a, Fr N a l → Yl P w o a v) (h : ∀ a, Fr N a ((d, v) :: l) → wpQuiet P ops (St W s) Q rest a) : ∀ a, Fr N a l → wpQuiet P ops (St W s) Q (o :: rest) a := fun a hF => by
 obtain ⟨h1, h2, h3⟩ := Zil hF hd;refine wpQuiet_step fun K hK => ?_;rw [if_pos h3];refine ⟨_, fun w hw => ?_, hK _ (h1 ▸ h _ (hF.put (Nat.le_of_ble_eq_true h2) _))⟩;unfold Oper.quietAt;rw [show (execOp a.eval o).run P w = _ from hy hw a hF];exact ⟨rfl, rfl⟩
theorem xct {k : Nat} {x y : Code} (hk : lk l k = some (.bool true)) (h : ∀ a, Fr N a l → x.wp P Q a w) : ∀ a, Fr N a l → (Code.cond (.tmp k) x y).wp P Q a w := fun a hF => Vc hF hk (h a hF)
theorem xcf {k : Nat} {x y : Code} (hk : lk l k = some (.bool false)) (h : ∀ a, Fr N a l → y.wp P Q a w) : ∀ a, Fr N a l → (Code.cond (.tmp k) x y).wp P Q a w := fun a hF => VH hF hk (h a hF)
theorem xb1 {fn : Func} {R : Ending → World → Prop} {k : Nat} {v : Value} (hr : fn.results = #[.tmp k]) (hk : lk l k = some v) (h : R (.returned v) w) : ∀ a, Fr N a l → bodyPost P fn R .ret a w := fun _ hF => ZE hF hr (hF.res hk) h
theorem xb2 {fn : Func} {R : Ending → World → Prop} {k k' : Nat} {v v' : Value} (hr : fn.results = #[.tmp k, .tmp k']) (hk : lk l k = some v) (hk' : lk l k' = some v') (h : R (.returned (.tuple #[v, v'])) w) : ∀ a, Fr N a l → bodyPost P fn R .ret a w := fun _ hF => Zw hF hr (hF.res hk) (hF.res hk') h
theorem xne {K : Act → World → Prop} (h : ∀ a, Fr N a l → K a w) : ∀ a, Fr N a l → wpList P ops (Exit.then K Q) [] a w := fun a hF => Zbx (h a hF)
theorem xni (h : ∀ a, Fr N a l → Q .normal a w) : ∀ a, Fr N a l → wpList P ops Q [] a w := fun a hF => wpList_nil (h a hF)
theorem xsr {id : Nat} {m : List Oper} {y : Code} (h : ∀ a, Fr N a l → wpList P m.toArray (Exit.then (y.wp P Q) Q) m a w) : ∀ a, Fr N a l → (Code.seq (Code.region id m.toArray false) y).wp P Q a w := fun a hF => Zjn (h a hF)
theorem xrl {id : Nat} {m : List Oper} (h : ∀ a, Fr N a l → wpList P m.toArray Q m a w) : ∀ a, Fr N a l → (Code.region id m.toArray false).wp P Q a w := fun a hF => wp_region_lit (h a hF)
theorem xsq {x y : Code} (h : ∀ a, Fr N a l → x.wp P (Exit.then (y.wp P Q) Q) a w) : ∀ a, Fr N a l → (Code.seq x y).wp P Q a w := fun a hF => wp_seq (h a hF)
theorem xbl {id : Nat} {c : Code} (h : ∀ a, Fr N a l → c.wp P (Exit.inBlock id Q) a w) : ∀ a, Fr N a l → (Code.block id c).wp P Q a w := fun a hF => wp_block (h a hF)
theorem xsk (h : ∀ a, Fr N a l → Q .normal a w) : ∀ a, Fr N a l → Code.skip.wp P Q a w := fun a hF => wp_skip (h a hF)
theorem xre (h : ∀ a, Fr N a l → Q .ret a w) : ∀ a, Fr N a l → Code.ret.wp P Q a w := fun a hF => wp_ret (h a hF)
theorem xex {id : Nat} (h : ∀ a, Fr N a l → Q (.exit id) a w) : ∀ a, Fr N a l → (Code.exit id).wp P Q a w := fun a hF => wp_exit (h a hF)
theorem xet {K : Act → World → Prop} (h : ∀ a, Fr N a l → K a w) : ∀ a, Fr N a l → Exit.then K Q .normal a w := h
theorem xtx {K : Act → World → Prop} {i : Nat} (h : ∀ a, Fr N a l → Q (.exit i) a w) : ∀ a, Fr N a l → Exit.then K Q (.exit i) a w := h
theorem xtr {K : Act → World → Prop} (h : ∀ a, Fr N a l → Q .ret a w) : ∀ a, Fr N a l → Exit.then K Q .ret a w := h
theorem xeb {i : Nat} (h : ∀ a, Fr N a l → Q .normal a w) : ∀ a, Fr N a l → Exit.inBlock i Q .normal a w := h
theorem xbr {i : Nat} (h : ∀ a, Fr N a l → Q .ret a w) : ∀ a, Fr N a l → Exit.inBlock i Q .ret a w := h
theorem xbh {i : Nat} (h : ∀ a, Fr N a l → Q .normal a w) : ∀ a, Fr N a l → Exit.inBlock i Q (.exit i) a w := fun a hF => ZfZ (h a hF)
theorem xcs {G : Act → Prop} (k : Nat) {t : Bool} (hk : lk l k = some (.bool t)) (h1 : t = true → ∀ a, Fr N a ((k, .bool true) :: l) → G a) (h2 : t = false → ∀ a, Fr N a ((k, .bool false) :: l) → G a) : ∀ a, Fr N a l → G a := fun a hF => hF.cases k hk (fun c hF => h1 c a hF) (fun c hF => h2 c a hF)
theorem xhy {fuel : Nat} {listed : Array Bool} (i : Nat) {oi : Oper} {d : Nat} {v : Value} (hS : St W s w) (hi : ops[i]? = some oi) (hd : auD N ops l oi = some d) (hy : ∀ {w}, St W s w → ∀ a, Fr N a l → Yl P w oi a v) (h : ∀ a, Fr N a ((d, v) :: l) → wpAnyH P .any ops Q (St W s) fuel (listed.setIfInBounds i true) a w) (hs : Region.noSelect ops = true := by kernel_rfl) (hf : Region.free .any ops listed i = true := by kernel_rfl) (hr : (Region.ready .any ops listed).contains i = true := by kernel_rfl) (hQ : ∀ c a w, Q (.panic c) (a.put oi.dst v) w → Q (.panic c) a w := by exact fun _ _ _ h => h) : ∀ a, Fr N a l → wpAnyH P .any ops Q (St W s) (fuel + 1) listed a w := fun a hF => by
 obtain ⟨h1, h2, h3⟩ := Zil hF hd;exact wpAnyH_take hi hs hf hr hQ (.inl ⟨h3, fun _ hw => hy hw a hF⟩) hS (h1 ▸ h _ (hF.put (Nat.le_of_ble_eq_true h2) v))
theorem xh {fuel : Nat} {listed : Array Bool} (i : Nat) {oi : Oper} {d : Nat} {v : Value} (hS : St W s w) (hi : ops[i]? = some oi) (hd : auD N ops l oi = some d) (hv : auV l oi.op = some v) (h : ∀ a, Fr N a ((d, v) :: l) → wpAnyH P .any ops Q (St W s) fuel (listed.setIfInBounds i true) a w) (hs : Region.noSelect ops = true := by kernel_rfl) (hf : Region.free .any ops listed i = true := by kernel_rfl) (hr : (Region.ready .any ops listed).contains i = true := by kernel_rfl) (hQ : ∀ c a w, Q (.panic c) (a.put oi.dst v) w → Q (.panic c) a w := by exact fun _ _ _ h => h) : ∀ a, Fr N a l → wpAnyH P .any ops Q (St W s) (fuel + 1) listed a w := xhy i hS hi hd (fun _ _ hF => Zik hF rfl hv) h hs hf hr hQ
def Zlv : Nat → List Value → List Value
 | 0, l => l
 | _ + 1, [] => []
 | k + 1, _ :: l => Zlv k l
def ZgW : Nat → List Value → Option (List Value)
 | 0, _ => some []
 | _ + 1, [] => none
 | n + 1, x :: l => match ZgW n l with
  | some r => some (x :: r)
  | none => none
theorem ZgX : ∀ (k : Nat) (l : List Value), Zlv k l = l.drop k
 | 0, _ => rfl
 | _ + 1, [] => rfl
 | k + 1, _ :: l => ZgX k l
theorem ZgY : ∀ {n : Nat} {l cs : List Value}, ZgW n l = some cs → l.take n = cs ∧ cs.length = n
 | 0, _, _, h => by obtain rfl := Option.some.inj h; exact ⟨rfl, rfl⟩
 | _ + 1, [], _, h => by cases h
 | n + 1, x :: l, cs, h => by
  have h : (match ZgW n l with | some r => some (x :: r) | none => none) = some cs := h
  cases hq : ZgW n l with
  | none => rw [hq] at h; cases h
  | some q =>
   rw [hq] at h;obtain rfl := Option.some.inj h;obtain ⟨h1, h2⟩ := ZgY hq;exact ⟨by rw [List.take_succ_cons, h1], by rw [List.length_cons, h2]⟩
def Zj5 (l : List (Nat × Value)) (x : Operand) : Option (Nat × Nat) := match evO l x with
 | some (.pointer (some ⟨b, k, none⟩)) => some (b, k)
 | _ => none
theorem Zdo {a : Act} (hF : Fr N a l) {x : Operand} {b k : Nat} (h : Zj5 l x = some (b, k)) : a.eval x = .pointer (some ⟨b, k, none⟩) := by
 unfold Zj5 at h
 split at h
 ·rename_i hx
  obtain ⟨rfl, rfl⟩ := Prod.mk.inj (Option.some.inj h);exact hF.ev hx
 ·cases h
def ldA (n : Nat) (A : Array Value) (l : List (Nat × Value)) : Op → Option (TypeId × Nat × List Value)
 | .load t x => match Zj5 l x with
  | some (b, k) => match ZgW n (Zlv k A.toList) with
   | some cs => some (t, b, cs)
   | none => none
  | none => none
 | _ => none
def ldS (A : Array Value) (l : List (Nat × Value)) : Op → Option (TypeId × Nat × Value)
 | .load t x => match Zj5 l x with
  | some (b, k) => match Zng A.toList k with
   | some v => some (t, b, v)
   | none => none
  | none => none
 | _ => none
theorem vw (hS : St W s w) (i n : Nat) {t : TypeId} {b m : Nat} {T : TypeId} {A : Array Value} {cs : List Value} (hi : s[i]? = some (boxA b m T (.agg A))) (hc : ldA n A l o.op = some (t, b, cs)) (hs : XW P t n = true := by kernel_rfl) : ∀ a, Fr N a l → Yl P w o a (.agg cs.toArray) := fun a hF => by
 generalize ho : o.op = p at hc;unfold ldA at hc
 split at hc
 ·split at hc
  ·rename_i hp
   split at hc
   ·rename_i ht
    simp only [Option.some.injEq, Prod.mk.injEq] at hc;obtain ⟨rfl, rfl, rfl⟩ := hc;obtain ⟨h1, h2⟩ := ZgY ht;rw [ZgX] at h1;exact VG ho (Zdo hF hp) (h1 ▸ (hS.box i hi).sub _ n) (by rw [h2]; exact hs)
   ·cases hc
  ·cases hc
 ·cases hc
theorem vc (hS : St W s w) (i : Nat) {t : TypeId} {b m : Nat} {T : TypeId} {A : Array Value} {v : Value} (hi : s[i]? = some (boxA b m T (.agg A))) (hc : ldS A l o.op = some (t, b, v)) (hs : YH P t = true := by kernel_rfl) : ∀ a, Fr N a l → Yl P w o a v := fun a hF => by
 generalize ho : o.op = p at hc;unfold ldS at hc
 split at hc
 ·split at hc
  ·rename_i hp
   split at hc
   ·rename_i ht
    simp only [Option.some.injEq, Prod.mk.injEq] at hc;obtain ⟨rfl, rfl, rfl⟩ := hc;rw [Zf2] at ht;exact QL ho (Zdo hF hp) (((hS.box i hi).cell _).trans (by simpa using ht)) hs
   ·cases hc
  ·cases hc
 ·cases hc
def faO (l : List (Nat × Value)) : Op → Option (TypeId × Nat × Nat × Nat)
 | .fieldAddr t x i => match Zj5 l x with
  | some (b, k) => some (t, i, b, k)
  | none => none
 | _ => none
theorem vf (j : Nat) {t : TypeId} {i b k : Nat} (hc : faO l o.op = some (t, i, b, k)) (hj : JM P t i = some j := by kernel_rfl) : ∀ a, Fr N a l → Yl P w o a (.pointer (some ⟨b, k + j, none⟩)) := fun a hF => by
 generalize ho : o.op = p at hc;unfold faO at hc
 split at hc
 ·split at hc
  ·rename_i hp
   simp only [Option.some.injEq, Prod.mk.injEq] at hc;obtain ⟨rfl, rfl, rfl, rfl⟩ := hc;exact Zbu ho (Zdo hF hp) hj
  ·cases hc
 ·cases hc
def ixO (l : List (Nat × Value)) : Op → Option (TypeId × Option Addr × Nat × Int)
 | .indexAddr t x y => match evO l x with
  | some (.slice ao len _) => match evO l y with
   | some (.int _ m) => some (t, ao, len, m)
   | _ => none
  | _ => none
 | _ => none
theorem vx (e i size : Nat) {t : TypeId} {g off len : Nat} {m : Int} (hc : ixO l o.op = some (t, some ⟨g, off, none⟩, len, m)) (hu : Yv P t = some (e, size) := by kernel_rfl) (hm : m = (i : Int) := by exact rfl) (hi : i < len := by omega) : ∀ a, Fr N a l → Yl P w o a (.pointer (some ⟨g, off + i * size, none⟩)) := fun a hF => by
 generalize ho : o.op = p at hc;unfold ixO at hc
 split at hc
 ·split at hc
  ·rename_i hx
   split at hc
   ·rename_i hy
    simp only [Option.some.injEq, Prod.mk.injEq] at hc;obtain ⟨rfl, rfl, rfl, rfl⟩ := hc;exact Z1 ho (hF.ev hx) (hF.ev hy) hu hm hi
   ·cases hc
  ·cases hc
 ·cases hc
theorem vxr (e i size : Nat) {t : TypeId} {ao : Option Addr} {g off len : Nat} {m : Int} (hc : ixO l o.op = some (t, ao, len, m)) (hao : ao = some ⟨g, off, none⟩) (hu : Yv P t = some (e, size) := by kernel_rfl) (hm : m = (i : Int) := by exact rfl) (hi : i < len := by omega) : ∀ a, Fr N a l → Yl P w o a (.pointer (some ⟨g, off + i * size, none⟩)) := by
 subst hao;exact vx e i size hc hu hm hi
def Zo9 (l : List (Nat × Value)) : Op → Option (TypeId × Nat)
 | .call c => match c.callee with
  | .builtin .len => match c.args.toList with
   | [x] => match c.argTypes.toList with
    | [t] => match evO l x with
     | some (.slice _ n _) => some (t, n)
     | _ => none
    | _ => none
   | _ => none
  | _ => none
 | _ => none
theorem vn (e size : Nat) {t : TypeId} {n : Nat} (hc : Zo9 l o.op = some (t, n)) (hu : Yv P t = some (e, size) := by kernel_rfl) : ∀ a, Fr N a l → Yl P w o a (.int .i64 n) := fun a hF => by
 generalize ho : o.op = p at hc;unfold Zo9 at hc
 split at hc
 ·rename_i c
  obtain ⟨f, ⟨xs⟩, ⟨ts⟩⟩ := c;dsimp only at hc
  split at hc
  ·split at hc
   ·split at hc
    ·split at hc
     ·rename_i h1 _ h2 _ hx
      simp only [Option.some.injEq, Prod.mk.injEq] at hc;obtain ⟨rfl, rfl⟩ := hc;exact Znd ho (hF.ev hx) hu
     ·cases hc
    ·cases hc
   ·cases hc
  ·cases hc
 ·cases hc
def Zpa (l : List (Nat × Value)) : Op → Option (Int × Int)
 | .binOp .add _ x y _ => match evO l x with
  | some (.int .i64 m) => match evO l y with
   | some (.int .i64 n) => some (m, n)
   | _ => none
  | _ => none
 | _ => none
theorem vad {m n : Int} (hc : Zpa l o.op = some (m, n)) (hr : -9223372036854775808 ≤ m + n ∧ m + n ≤ 9223372036854775807 := by omega) : ∀ a, Fr N a l → Yl P w o a (.int .i64 (m + n)) := fun a hF => by
 generalize ho : o.op = p at hc;unfold Zpa at hc
 split at hc
 ·split at hc
  ·rename_i hx
   split at hc
   ·rename_i hy
    simp only [Option.some.injEq, Prod.mk.injEq] at hc;obtain ⟨rfl, rfl⟩ := hc;exact Yc ho (hF.ev hx) (hF.ev hy) (Yi hr)
   ·cases hc
  ·cases hc
 ·cases hc
def Zpb (l : List (Nat × Value)) : Op → Option (TypeId × List (Nat × Value))
 | .build t ps0 => match ps0.toList.mapM (fun p => (evO l p.2).map fun v => (p.1, v)) with
  | some ps => some (t, ps)
  | none => none
 | _ => none
theorem vb (cs : List Value) {t : TypeId} {ps : List (Nat × Value)} (hc : Zpb l o.op = some (t, ps)) (hb : Zii P t ps = some cs.toArray := by kernel_rfl) : ∀ a, Fr N a l → Yl P w o a (.agg cs.toArray) := fun a hF => by
 generalize ho : o.op = p at hc;unfold Zpb at hc
 split at hc
 ·split at hc
  ·rename_i hp
   simp only [Option.some.injEq, Prod.mk.injEq] at hc;obtain ⟨rfl, rfl⟩ := hc;exact Zlh hF ho hp hb
  ·cases hc
 ·cases hc
def ldP (l : List (Nat × Value)) : Op → Option (TypeId × Nat × Nat)
 | .load t x => match Zj5 l x with
  | some (b, k) => some (t, b, k)
  | none => none
 | _ => none
theorem ve {α : Type} {enc : α → List Value} (he : ∀ x, (enc x).length = 1) (hS : St W s w) (i : Nat) (j : Nat) {t : TypeId} {e : TypeId} {g off n cap : Nat} {xs : List α} {x : α} {v : Value} (hi : s[i]? = some (Zg enc 1 e (.slice (some ⟨g, off, none⟩) n cap) xs)) (hx : xs[j]? = some x) (hv : enc x = [v]) (hc : ldP l o.op = some (t, g, off + j * 1)) (hs : YH P t = true := by kernel_rfl) : ∀ a, Fr N a l → Yl P w o a v := fun a hF => by
 generalize ho : o.op = p at hc;unfold ldP at hc
 split at hc
 ·split at hc
  ·rename_i hp
   simp only [Option.some.injEq, Prod.mk.injEq] at hc;obtain ⟨rfl, rfl, rfl⟩ := hc;exact QL ho (Zdo hF hp) (hS.elem1 he i hi hx hv) hs
  ·cases hc
 ·cases hc
end
def setO : List Asr → Nat → Asr → Option (List Asr)
 | [], _, _ => none
 | _ :: r, 0, x => some (x :: r)
 | y :: r, i + 1, x => match setO r i x with
  | some r' => some (y :: r')
  | none => none
theorem Zal : ∀ {s : List Asr} {i : Nat} {x : Asr} {s' : List Asr}, setO s i x = some s' → s.set i x = s'
 | [], _, _, _, h => by cases h
 | _ :: r, 0, x, s', h => Option.some.inj h
 | y :: r, i + 1, x, s', h => by
  have h : (match setO r i x with | some r' => some (y :: r') | none => none) = some s' := h
  cases hq : setO r i x with
  | none => rw [hq] at h; cases h
  | some q => rw [hq] at h; obtain rfl := Option.some.inj h; rw [List.set_cons_succ, Zal hq]
structure OpI (N : Nat) (o : Oper) (p : Op) (d : Nat) : Prop where
  hg : o.guard = none
  ho : o.op = p
  hd : o.dst = some d
  hn : Nat.blt d N = true
structure OpG (N : Nat) (ops : Array Oper) (l : List (Nat × Value)) (o : Oper) (p : Op) (d g dg : Nat) (b : Bool) : Prop where
  hg : o.guard = some (g, b)
  he : (ops[g]?).bind (·.dst) = some dg
  hv : lk l dg = some (.bool b)
  ho : o.op = p
  hd : o.dst = some d
  hn : Nat.blt d N = true
structure OpE (o : Oper) (p : Op) : Prop where
  hg : o.guard = none
  ho : o.op = p
  hd : o.dst = none
section
variable {P : Program} {ops : Array Oper} {Q : Exit → Act → World → Prop} {rest : List Oper} {o : Oper} {w W : World} {N : Nat} {l : List (Nat × Value)} {s s' : List Asr} {d : Nat} {t : TypeId}
theorem yal (Z : List Value) (E : Bx (St W s w)) (h : ∀ w' b, Bx (St W (boxA b Z.length t (.agg Z.toArray) :: s) w') → ∀ a, Fr N a ((d, .pointer (some ⟨b, 0, none⟩)) :: l) → wpList P ops Q rest a w')
  (ho : OpI N o (.alloc t) d := by exact ⟨rfl, rfl, rfl, rfl⟩) (hZ : ZeZ P t = some Z := by kernel_rfl) (h1 : (Z.all fun u => u.oneCell') = true := by exact rfl) : ∀ a, Fr N a l → wpList P ops Q (o :: rest) a w := fun _ hF =>
 Zli ho.hg hF ho.ho ho.hd ho.hn hZ h1 E.o fun a' w' b h1 h2 => h w' b ⟨h2⟩ a' h1
theorem ybx (E : Bx (St W s w)) {x : Operand} {A : Array Value} (h : ∀ w' b, Bx (St W (boxA b A.toList.length t (.agg A) :: s) w') → ∀ a, Fr N a ((d, .pointer (some ⟨b, 0, none⟩)) :: l) → wpList P ops Q rest a w')
  (ho : OpI N o (.box t x) d := by exact ⟨rfl, rfl, rfl, rfl⟩) (hx : evO l x = some (.agg A) := by exact rfl) (h1 : (A.toList.all fun u => u.oneCell') = true := by exact rfl) : ∀ a, Fr N a l → wpList P ops Q (o :: rest) a w := fun _ hF => by
 obtain ⟨Z⟩ := A;exact Zlj ho.hg hF ho.ho (hF.ev hx) (Z := Z) rfl ho.hd ho.hn h1 E.o fun a' w' b h1 h2 => h w' b ⟨h2⟩ a' h1
theorem yst (E : Bx (St W s w)) (i : Nat) {x y : Operand} {b n : Nat} {T : TypeId} {u : Value} {A : Array Value} (h : ∀ w', Bx (St W s' w') → ∀ a, Fr N a l → wpList P ops Q rest a w')
  (ho : OpE o (.store t x y) := by exact ⟨rfl, rfl, rfl⟩) (hx : evO l x = some (.pointer (some ⟨b, 0, none⟩)) := by exact rfl) (hy : evO l y = some (.agg A) := by exact rfl) (hi : s[i]? = some (boxA b n T u) := by exact rfl) (h3 : setO s i (boxA b n T (.agg A)) = some s' := by exact rfl) (h1 : (A.toList.all fun u => u.oneCell') = true := by exact rfl) (hl : A.toList.length = n := by exact rfl) (hn : XW P t n = true := by kernel_rfl) : ∀ a, Fr N a l → wpList P ops Q (o :: rest) a w := fun a hF => by
 obtain ⟨Z⟩ := A;exact ZgQ ho.hg hF ho.ho ho.hd (hF.ev hx) (hF.ev hy) E.o i hi (Zcl Z h1 hl) hn fun w' h2 => h w' ⟨Zal h3 ▸ h2⟩ a hF
theorem yem (e size : Nat) (E : Bx (St W s w)) (h : ∀ w' b, Bx (St W s w') → ∀ a, Fr N a ((d, .slice (some ⟨b, 0, none⟩) 0 0) :: l) → wpList P ops Q rest a w')
  (ho : OpI N o (.buildSlice t 0 #[]) d := by exact ⟨rfl, rfl, rfl, rfl⟩) (hu : Yv P t = some (e, size) := by kernel_rfl) : ∀ a, Fr N a l → wpList P ops Q (o :: rest) a w := fun _ hF =>
 Zlk ho.hg hF ho.ho ho.hd ho.hn hu E.o fun a' w' b h1 h2 => h w' b ⟨h2⟩ a' h1
theorem ybs {α : Type} (enc : α → List Value) (e size : Nat) (xs : List α) (E : Bx (St W s w)) {len : Nat} {ps0 : Array (Nat × Operand)} {ps : List (Nat × Value)} (h : ∀ b w', Bx (St W (Zg enc size e (.slice (some ⟨b, 0, none⟩) len len) xs :: s) w') → ∀ a, Fr N a ((d, .slice (some ⟨b, 0, none⟩) len len) :: l) → wpList P ops Q rest a w')
  (ho : OpI N o (.buildSlice t len ps0) d := by exact ⟨rfl, rfl, rfl, rfl⟩) (hp : ps0.toList.mapM (fun p => (evO l p.2).map fun v => (p.1, v)) = some ps := by exact rfl) (hb : Zbw P t len ps = some (e, size, xs.flatMap enc) := by kernel_rfl) (hl : xs.length = len := by exact rfl) (hm : len ≤ maxLen := by unfold maxLen; omega) (hc : (xs.flatMap enc).length = len * size := by exact rfl) : ∀ a, Fr N a l → wpList P ops Q (o :: rest) a w := fun _ hF =>
 Zj4 ho.hg hF ho.ho ho.hd ho.hn hp hb xs hl rfl hm hc E.o fun b a' w' h1 h2 => h b w' ⟨h2⟩ a' h1
section
variable {f : FuncId} {args : Array Value} {fn : Func} {c : Code} {xs : Array Operand} {ts : Array TypeId}
theorem yc {R : Ending → World → Prop} (hR : Calls P f args w R) (hf : P.funcs[f]? = some fn) (h : ∀ e w', R e w' → ∃ v, e = .returned v ∧ ∀ a, Fr N a ((d, v) :: l) → wpList P ops Q rest a w')
  (ho : OpI N o (.call { callee := .value (.func f), args := xs, argTypes := ts }) d := by exact ⟨rfl, rfl, rfl, rfl⟩) (hx : xs.toList.mapM (evO l) = some args.toList := by exact rfl) (hn : (fn.name == "runtime.NumGoroutine") = false := by kernel_rfl) (hb : fn.body = some c := by exact rfl) : ∀ a, Fr N a l → wpList P ops Q (o :: rest) a w := fun _ hF =>
 Zjg ho.hg hF ho.ho (Xo hf hn hb) hx hR ho.hd ho.hn h
theorem ycB {v : Value} (hR : Calls P f args w fun e w' => e = .returned v ∧ Below w.heap.size w w') (hf : P.funcs[f]? = some fn) (E : Bx (St W s w)) (h : ∀ w', Bx (St W s w') → ∀ a, Fr N a ((d, v) :: l) → wpList P ops Q rest a w')
  (ho : OpI N o (.call { callee := .value (.func f), args := xs, argTypes := ts }) d := by exact ⟨rfl, rfl, rfl, rfl⟩) (hx : xs.toList.mapM (evO l) = some args.toList := by exact rfl) (hn : (fn.name == "runtime.NumGoroutine") = false := by kernel_rfl) (hb : fn.body = some c := by exact rfl) : ∀ a, Fr N a l → wpList P ops Q (o :: rest) a w := fun _ hF =>
 ZgS ho.hg hF ho.ho (Xo hf hn hb) hx hR ho.hd ho.hn E.o fun w' a' h1 h2 => h w' ⟨h1⟩ a' h2
theorem VJ {g dg : Nat} {b : Bool} {v : Value} (hR : Calls P f args w fun e w' => e = .returned v ∧ Below w.heap.size w w') (hf : P.funcs[f]? = some fn) (E : Bx (St W s w)) (h : ∀ w', Bx (St W s w') → ∀ a, Fr N a ((d, v) :: l) → wpList P ops Q rest a w')
  (ho : OpG N ops l o (.call { callee := .value (.func f), args := xs, argTypes := ts }) d g dg b := by exact ⟨rfl, rfl, rfl, rfl, rfl, rfl⟩) (hx : xs.toList.mapM (evO l) = some args.toList := by exact rfl) (hn : (fn.name == "runtime.NumGoroutine") = false := by kernel_rfl) (hb : fn.body = some c := by exact rfl) : ∀ a, Fr N a l → wpList P ops Q (o :: rest) a w := fun _ hF =>
 Zaj hF ho.hg ho.he ho.hv ho.ho (Xo hf hn hb) hx hR ho.hd ho.hn E.o fun w' a' h1 h2 => h w' ⟨h1⟩ a' h2
theorem yq {Q : Act → Prop} {v : Value} (hR : ∀ w, St W s w → Calls P f args w fun e w' => e = .returned v ∧ Below w.heap.size w w') (hf : P.funcs[f]? = some fn) (h : ∀ a, Fr N a ((d, v) :: l) → wpQuiet P ops (St W s) Q rest a)
  (ho : OpI N o (.call { callee := .value (.func f), args := xs, argTypes := ts }) d := by exact ⟨rfl, rfl, rfl, rfl⟩) (hx : xs.toList.mapM (evO l) = some args.toList := by exact rfl) (hn : (fn.name == "runtime.NumGoroutine") = false := by kernel_rfl) (hb : fn.body = some c := by exact rfl) : ∀ a, Fr N a l → wpQuiet P ops (St W s) Q (o :: rest) a := fun _ hF =>
 Zne ho.hg hF ho.ho (Xo hf hn hb) hx hR ho.hd ho.hn h
theorem yqg {Q : Act → Prop} {g dg : Nat} {b : Bool} {v : Value} (hR : ∀ w, St W s w → Calls P f args w fun e w' => e = .returned v ∧ Below w.heap.size w w') (hf : P.funcs[f]? = some fn) (h : ∀ a, Fr N a ((d, v) :: l) → wpQuiet P ops (St W s) Q rest a)
  (ho : OpG N ops l o (.call { callee := .value (.func f), args := xs, argTypes := ts }) d g dg b := by exact ⟨rfl, rfl, rfl, rfl, rfl, rfl⟩) (hx : xs.toList.mapM (evO l) = some args.toList := by exact rfl) (hn : (fn.name == "runtime.NumGoroutine") = false := by kernel_rfl) (hb : fn.body = some c := by exact rfl) : ∀ a, Fr N a l → wpQuiet P ops (St W s) Q (o :: rest) a := fun _ hF =>
 Zlp hF ho.hg ho.he ho.hv ho.ho (Xo hf hn hb) hx hR ho.hd ho.hn h
theorem yo {i : Nat} {K : Act → World → Prop} {R : Ending → World → Prop} (hR : Calls P f args w R) (hf : P.funcs[f]? = some fn) (h : ∀ e w', R e w' → ∃ v, e = .returned v ∧ ∀ a, Fr N a ((d, v) :: l) → K a w')
  (hi : ops[i]? = some o := by exact rfl) (ho : OpI N o (.call { callee := .value (.func f), args := xs, argTypes := ts }) d := by exact ⟨rfl, rfl, rfl, rfl⟩) (hx : xs.toList.mapM (evO l) = some args.toList := by exact rfl) (hn : (fn.name == "runtime.NumGoroutine") = false := by kernel_rfl) (hb : fn.body = some c := by exact rfl) : ∀ a, Fr N a l → wpOp P ops Q i K a w := fun _ hF =>
 Zjk hi ho.hg hF ho.ho (Xo hf hn hb) hx hR ho.hd ho.hn h
theorem yoB {i : Nat} {K : Act → World → Prop} {v : Value} (hR : Calls P f args w fun e w' => e = .returned v ∧ Below w.heap.size w w') (hf : P.funcs[f]? = some fn) (h : ∀ w', Below w.heap.size w w' → ∀ a, Fr N a ((d, v) :: l) → K a w')
  (hi : ops[i]? = some o := by exact rfl) (ho : OpI N o (.call { callee := .value (.func f), args := xs, argTypes := ts }) d := by exact ⟨rfl, rfl, rfl, rfl⟩) (hx : xs.toList.mapM (evO l) = some args.toList := by exact rfl) (hn : (fn.name == "runtime.NumGoroutine") = false := by kernel_rfl) (hb : fn.body = some c := by exact rfl) : ∀ a, Fr N a l → wpOp P ops Q i K a w := fun _ hF =>
 Zls hi ho.hg hF ho.ho (Xo hf hn hb) hx hR ho.hd ho.hn h
end
section
variable {α : Type} {enc : α → List Value} {size e : Nat} {v : Value} {ao2 : Option Addr} {n c2 bytes : Nat} {t2 : TypeId} {x y : Operand} {xs ys : List α}
theorem yap {s9 : Option Addr → Nat → List Asr} (hT : UD P t e size bytes) (he : ∀ x, (enc x).length = size) (E : Bx (St W s w)) (i : Nat) (hr : Rd enc size w ao2 n ys) (h1 : ∀ u ∈ ys.flatMap enc, u.oneCell' = true)
  (h : ∀ ao cap w', Bx (St W (s9 ao cap) w') → ∀ a, Fr N a ((d, .slice ao (xs.length + ys.length) cap) :: l) → wpList P ops Q rest a w')
  (ho : OpI N o (.call { callee := .builtin .append, args := #[x, y], argTypes := #[t, t] }) d := by exact ⟨rfl, rfl, rfl, rfl⟩) (hx : evO l x = some v := by exact rfl) (hy : evO l y = some (.slice ao2 n c2) := by exact rfl) (hi : s[i]? = some (Zg enc size e v xs) := by exact rfl) (h3 : ∀ ao cap, setO s i (Zg enc size e (.slice ao (xs.length + ys.length) cap) (xs ++ ys)) = some (s9 ao cap) := by exact fun _ _ => rfl)
  (h63 : xs.length + ys.length ≤ maxLen := by unfold maxLen; (try simp only [List.length_append, List.length_cons, List.length_nil, List.nil_append, List.length_map]); omega) (hbytes : (xs.length + ys.length) * bytes ≤ 140737488355328 := by (try simp only [List.length_append, List.length_cons, List.length_nil, List.nil_append, List.length_map]); omega) : ∀ a, Fr N a l → wpList P ops Q (o :: rest) a w := fun _ hF =>
 XE ho.hg hF ho.ho ho.hd ho.hn (hF.ev hx) (hF.ev hy) hT he E.o i hi hr h1 h63 hbytes fun ao cap w' a' h1 h2 => h ao cap w' ⟨Zal (h3 ao cap) ▸ h2⟩ a' h1
end
end
def era : Nat → List Asr → Option (List Asr)
 | _, [] => none
 | 0, _ :: r => some r
 | n + 1, x :: r => match era n r with
  | some r' => some (x :: r')
  | none => none
theorem Zim : ∀ {n : Nat} {s s' : List Asr}, era n s = some s' → s.eraseIdx n = s'
 | n, [], _, h => by cases n <;> cases h
 | 0, _ :: _, _, h => Option.some.inj h
 | n + 1, x :: r, s', h => by
  have h : (match era n r with | some r' => some (x :: r') | none => none) = some s' := h
  cases hq : era n r with
  | none => rw [hq] at h; cases h
  | some q => rw [hq] at h; obtain rfl := Option.some.inj h; rw [List.eraseIdx_cons_succ, Zim hq]
def erL : List Nat → List Asr → Option (List Asr)
 | [], s => some s
 | n :: is, s => match era n s with
  | some s' => erL is s'
  | none => none
theorem St.erS {W w : World} : ∀ (is : List Nat) {s s' : List Asr}, St W s w → (hs : erL is s = some s' := by exact rfl) → St W s' w
 | [], _, _, h, hs => Option.some.inj hs ▸ h
 | n :: is, s, s', h, hs => by
  have hs : (match era n s with | some s' => erL is s' | none => none) = some s' := hs
  cases hq : era n s with
  | none => rw [hq] at hs; cases hs
  | some q => rw [hq] at hs; exact St.erS is (Zim hq ▸ h.erase n) hs
def pkL : List Nat → List Asr → Option (List Asr)
 | [], s => some s
 | n :: is, s => match s[n]? with
  | some a => match era n s with
   | some s' => pkL is (a :: s')
   | none => none
  | none => none
theorem St.pks {W w : World} : ∀ (is : List Nat) {s s' : List Asr}, St W s w → pkL is s = some s' → St W s' w
 | [], _, _, h, hs => Option.some.inj hs ▸ h
 | n :: is, s, s', h, hs => by
  have hs : (match s[n]? with | some a => (match era n s with | some s' => pkL is (a :: s') | none => none) | none => none) = some s' := hs
  cases ha : s[n]? with
  | none => rw [ha] at hs; cases hs
  | some x =>
   rw [ha] at hs
   cases hq : era n s with
   | none => simp only [hq] at hs; cases hs
   | some q => simp only [hq] at hs; exact St.pks is (Zim hq ▸ h.pick n ha) hs
def Bx.ers {W w : World} {s s' : List Asr} (is : List Nat) (h : Bx (St W s w)) (hs : erL is s = some s' := by exact rfl) : Bx (St W s' w) := ⟨h.out.erS is hs⟩
def Bx.pks {W w : World} {s s' : List Asr} (is : List Nat) (h : Bx (St W s w)) (hs : pkL is s = some s' := by exact rfl) : Bx (St W s' w) := ⟨h.out.pks is hs⟩
structure NmI (s s' : List Asr) : Prop where
  h : s = s'
def Bx.nm {W w : World} {s s' : List Asr} (h : Bx (St W s w)) (e : NmI s s' := by first | (dsimp only [List.cons_append, List.nil_append, List.eraseIdx, List.set]; exact ⟨rfl⟩) | exact ⟨rfl⟩) : Bx (St W s' w) := ⟨e.h ▸ h.out⟩
def Zlw : List Asr → List Asr → Option (List Asr)
 | [], s => some s
 | x :: r, s => match Zlw r s with
  | some t => some (x :: t)
  | none => none
theorem Zjo : ∀ {r s t : List Asr}, Zlw r s = some t → r ++ s = t
 | [], _, _, h => Option.some.inj h
 | x :: r, s, t, h => by
  have h : (match Zlw r s with | some t => some (x :: t) | none => none) = some t := h
  cases hq : Zlw r s with
  | none => rw [hq] at h; cases h
  | some q => rw [hq] at h; obtain rfl := Option.some.inj h; rw [List.cons_append, Zjo hq]
def Bx.ad {W w w' : World} {s r s' : List Asr} (h : Bx (St W s w)) (k : St w r w') (e : Zlw r s = some s' := by exact rfl) : Bx (St W s' w') := ⟨Zjo e ▸ h.out.add k⟩
def Zlx : Nat → List Value → Option (List (Nat × Value))
 | _, [] => some []
 | i, v :: r => match Zlx (i + 1) r with
  | some l => some ((i, v) :: l)
  | none => none
theorem Zjp : ∀ {i : Nat} {r l : List (Value)} {q : List (Nat × Value)} (p : List Value), p.length = i → p ++ r = l → Zlx i r = some q → ∀ x ∈ q, l[x.1]? = some x.2
 | i, [], l, q, p, _, _, h => by obtain rfl := Option.some.inj h; exact fun _ hx => nomatch hx
 | i, v :: r, l, q, p, hp, hl, h => by
  have h : (match Zlx (i + 1) r with | some l => some ((i, v) :: l) | none => none) = some q := h
  cases hq : Zlx (i + 1) r with
  | none => rw [hq] at h; cases h
  | some m =>
   rw [hq] at h;obtain rfl := Option.some.inj h;intro x hx;rcases List.mem_cons.1 hx with rfl | hx
   ·rw [← hl]; show (p ++ v :: r)[i]? = some v
    rw [← hp, List.getElem?_append_right (Nat.le_refl _), Nat.sub_self]; rfl
   ·exact Zjp (p ++ [v]) (by rw [List.length_append, List.length_singleton, hp]) (by rw [← hl, List.append_assoc]; rfl) hq x hx
theorem ent {P : Program} {w : World} {f : FuncId} {fn : Func} {c : Code} {args : Array Value} {R : Ending → World → Prop} (hf : P.funcs[f]? = some fn) {N : Nat} (hN : fn.ntmps = N) {l : List (Nat × Value)} (h : ∀ a, Fr N a l → c.wp P (bodyPost P fn R) a w) (hb : fn.body = some c := by exact rfl) (hl : Zlx 0 args.toList = some l := by exact rfl) (hs : Nat.ble args.size N = true := by exact rfl) : Calls P f args w R :=
 Ze1 hf hb hN (fun p hp => by rw [← Array.getElem?_toList]; exact Zjp [] rfl rfl hl p hp) (Nat.le_of_ble_eq_true hs) h
theorem Fr.ls {N : Nat} {a : Act} {l : List (Nat × Value)} (h : Fr N a l) (l' : List (Nat × Value)) (hs : Zlm l l' := by (repeat refine ⟨rfl, ?_⟩); exact trivial) : Fr N a l' := h.less l' hs
section
variable {P : Program} {ops : Array Oper} {Q : Exit → Act → World → Prop} {K : Act → World → Prop} {rest : List Oper} {o oi : Oper} {a : Act} {w W : World} {N : Nat} {l : List (Nat × Value)} {s s' s2 s3 : List Asr} {d : Nat} {t : TypeId} {i : Nat} {fuel : Nat} {listed : Array Bool}
theorem hld (is : List Nat) {id : Nat} {m : List Oper} (E : Bx (St W s w)) (h : ∀ w', Bx (St W s' w') → Bx (St W s w') → ∀ a, Fr N a l → wpAnyH P .any m.toArray Q (St W s') m.length (Array.replicate m.length false) a w') (hs : erL is s = some s' := by exact rfl) (hm : P.follows .mixedOrders = true := by kernel_rfl) : ∀ a, Fr N a l → (Code.region id m.toArray true).wp P Q a w := fun a hF =>
 Zlq hm (St.drew (E.o.erS is hs)) (h _ ⟨St.drew (E.o.erS is hs)⟩ ⟨E.o.drew⟩ a hF)
abbrev Zby (P : Program) (ops : Array Oper) (Q : Exit → Act → World → Prop) (W : World) (s : List Asr) (fuel : Nat) (listed : Array Bool) (i : Nat) : Act → World → Prop := fun a w => wpOp P ops Q i (fun a' w' => St W s w' ∧ wpAnyH P .any ops Q (St W s) fuel (listed.setIfInBounds i true) a' w') a w
theorem Zk (i : Nat) (h : ∀ a, Fr N a l → Zby P ops Q W s fuel listed i a w) (hr : Region.ready .any ops listed = [i] := by kernel_rfl) : ∀ a, Fr N a l → wpAnyH P .any ops Q (St W s) (fuel + 1) listed a w := fun a hF => Zov i hr (h a hF)
theorem UE (i k : Nat) (h : ∀ a, Fr N a l → Zby P ops Q W s fuel listed i a w) (h2 : ∀ a, Fr N a l → Zby P ops Q W s fuel listed k a w) (hr : Region.ready .any ops listed = [i, k] := by kernel_rfl) : ∀ a, Fr N a l → wpAnyH P .any ops Q (St W s) (fuel + 1) listed a w := fun a hF => Zow i k hr (h a hF) (h2 a hF)
theorem hdn (h : ∀ a, Fr N a l → Q .normal a w) (hr : Region.ready .any ops listed = [] := by kernel_rfl) : ∀ a, Fr N a l → wpAnyH P .any ops Q (St W s) fuel listed a w := fun a hF => Znf hr (h a hF)
theorem yos (j : Nat) (es : List Nat) {x y : Operand} {b n : Nat} {T : TypeId} {u : Value} {A : Array Value} (E : Bx (St W s2 w)) (h : ∀ w', Bx (St W s w') → Bx (St W s3 w') → ∀ a, Fr N a l → K a w')
  (hi : ops[i]? = some oi := by exact rfl) (ho : OpE oi (.store t x y) := by exact ⟨rfl, rfl, rfl⟩) (hx : evO l x = some (.pointer (some ⟨b, 0, none⟩)) := by exact rfl) (hy : evO l y = some (.agg A) := by exact rfl) (hj : s2[j]? = some (boxA b n T u) := by exact rfl) (h3 : setO s2 j (boxA b n T (.agg A)) = some s3 := by exact rfl) (he : erL es s3 = some s := by exact rfl) (h1 : (A.toList.all fun u => u.oneCell') = true := by exact rfl) (hl : A.toList.length = n := by exact rfl) (hn : XW P t n = true := by kernel_rfl) : ∀ a, Fr N a l → wpOp P ops Q i (fun a' w' => St W s w' ∧ K a' w') a w := fun a hF => by
 obtain ⟨Z⟩ := A;refine ZcT hi ho.hg ho.ho ho.hd (hF.ev hx) (hF.ev hy) E.o j hj (Zcl Z h1 hl) hn fun w' h2 => ?_;rw [Zal h3] at h2;exact ⟨h2.erS es he, h w' ⟨h2.erS es he⟩ ⟨h2⟩ a hF⟩
def Zin : List Value → Nat → Value → Option (List Value)
 | [], _, _ => none
 | _ :: r, 0, x => some (x :: r)
 | y :: r, i + 1, x => match Zin r i x with
  | some r' => some (y :: r')
  | none => none
theorem Zbz : ∀ {s : List Value} {i : Nat} {x : Value} {s' : List Value}, Zin s i x = some s' → s.set i x = s' ∧ i < s.length
 | [], _, _, _, h => by cases h
 | _ :: r, 0, x, s', h => ⟨Option.some.inj h, by simp⟩
 | y :: r, i + 1, x, s', h => by
  have h : (match Zin r i x with | some r' => some (y :: r') | none => none) = some s' := h
  cases hq : Zin r i x with
  | none => rw [hq] at h; cases h
  | some q => rw [hq] at h; obtain rfl := Option.some.inj h; exact ⟨by rw [List.set_cons_succ, (Zbz hq).1], by simpa using (Zbz hq).2⟩
theorem yof (j : Nat) (es : List Nat) {x y : Operand} {b k n : Nat} {T : TypeId} {A : Array Value} {C : List Value} {v : Value} (E : Bx (St W s2 w)) (h : ∀ w', Bx (St W s w') → Bx (St W s3 w') → ∀ a, Fr N a l → K a w')
  (hi : ops[i]? = some oi := by exact rfl) (ho : OpE oi (.store t x y) := by exact ⟨rfl, rfl, rfl⟩) (hx : evO l x = some (.pointer (some ⟨b, k, none⟩)) := by exact rfl) (hy : evO l y = some v := by exact rfl) (hs : YH P t = true := by kernel_rfl) (hj : s2[j]? = some (boxA b n T (.agg A)) := by exact rfl) (hv : v.oneCell' = true := by exact rfl) (hC : Zin A.toList k v = some C := by exact rfl) (h3 : setO s2 j (boxA b n T (.agg C.toArray)) = some s3 := by exact rfl) (he : erL es s3 = some s := by exact rfl) : ∀ a, Fr N a l → wpOp P ops Q i (fun a' w' => St W s w' ∧ K a' w') a w := fun a hF => by
 obtain ⟨Z⟩ := A;obtain ⟨e, hk⟩ := Zbz hC;refine Ze2 hi ho.hg ho.ho ho.hd (hF.ev hx) (hF.ev hy) hs E.o j hj (Nat.ble_eq_true_of_le hk) hv fun w' h2 => ?_;rw [List.setIfInBounds_toArray, show Z.set k v = C from e, Zal h3] at h2;exact ⟨h2.erS es he, h w' ⟨h2.erS es he⟩ ⟨h2⟩ a hF⟩
theorem yoa (Z : List Value) (E : Bx (St W s w)) (M : Bx (St W s2 w)) (h : ∀ w' b, Bx (St W s w') → Bx (St W (boxA b Z.length t (.agg Z.toArray) :: s2) w') → ∀ a, Fr N a ((d, .pointer (some ⟨b, 0, none⟩)) :: l) → K a w')
  (hi : ops[i]? = some oi := by exact rfl) (ho : OpI N oi (.alloc t) d := by exact ⟨rfl, rfl, rfl, rfl⟩) (hZ : ZeZ P t = some Z := by kernel_rfl) (h1 : (Z.all fun u => u.oneCell') = true := by exact rfl) : ∀ a, Fr N a l → wpOp P ops Q i (fun a' w' => St W s w' ∧ K a' w') a w := fun _ hF =>
 Zlr hi ho.hg hF ho.ho ho.hd ho.hn hZ h1 M.o E.o fun a' w' b h1 h2 h3 => ⟨h3, h w' b ⟨h3⟩ ⟨h2⟩ a' h1⟩
theorem yoe (e size : Nat) (E : Bx (St W s w)) (M : Bx (St W s2 w)) (h : ∀ w' b, Bx (St W s w') → Bx (St W s2 w') → ∀ a, Fr N a ((d, .slice (some ⟨b, 0, none⟩) 0 0) :: l) → K a w')
  (hi : ops[i]? = some oi := by exact rfl) (ho : OpI N oi (.buildSlice t 0 #[]) d := by exact ⟨rfl, rfl, rfl, rfl⟩) (hu : Yv P t = some (e, size) := by kernel_rfl) : ∀ a, Fr N a l → wpOp P ops Q i (fun a' w' => St W s w' ∧ K a' w') a w := fun _ hF =>
 Zlu hi ho.hg hF ho.ho ho.hd ho.hn hu M.o E.o fun a' w' b h1 h2 h3 => ⟨h3, h w' b ⟨h3⟩ ⟨h2⟩ a' h1⟩
theorem yoy {v : Value} (E : Bx (St W s w)) (hy : ∀ a, Fr N a l → Yl P w oi a v) (h : ∀ a, Fr N a ((d, v) :: l) → K a w) (hi : ops[i]? = some oi := by exact rfl) (hg : oi.guard = none := by exact rfl) (hd : oi.dst = some d := by exact rfl) (hN : Nat.blt d N = true := by exact rfl) : ∀ a, Fr N a l → wpOp P ops Q i (fun a' w' => St W s w' ∧ K a' w') a w := fun a hF => by
 refine Vv hi hg ?_;unfold Oper.wp;rw [show (execOp a.eval oi).run P w = _ from hy a hF];exact (show St W s w ∧ K (a.put oi.dst v) w by rw [hd]; exact ⟨E.o, h _ (hF.put (Nat.le_of_ble_eq_true hN) v)⟩)
theorem ysF (j : Nat) {x y : Operand} {b k n : Nat} {T : TypeId} {A : Array Value} {C : List Value} {v : Value} (E : Bx (St W s w)) (h : ∀ w', Bx (St W s' w') → ∀ a, Fr N a l → wpList P ops Q rest a w')
  (ho : OpE o (.store t x y) := by exact ⟨rfl, rfl, rfl⟩) (hx : evO l x = some (.pointer (some ⟨b, k, none⟩)) := by exact rfl) (hy : evO l y = some v := by exact rfl) (hs : YH P t = true := by kernel_rfl) (hj : s[j]? = some (boxA b n T (.agg A)) := by exact rfl) (hv : v.oneCell' = true := by exact rfl) (hC : Zin A.toList k v = some C := by exact rfl) (h3 : setO s j (boxA b n T (.agg C.toArray)) = some s' := by exact rfl) : ∀ a, Fr N a l → wpList P ops Q (o :: rest) a w := fun a hF => by
 obtain ⟨Z⟩ := A;obtain ⟨e, hk⟩ := Zbz hC;refine Zj3 ho.hg ho.ho ho.hd (hF.ev hx) (hF.ev hy) hs E.o j hj (Nat.ble_eq_true_of_le hk) hv fun w' h2 => ?_;rw [List.setIfInBounds_toArray, show Z.set k v = C from e, Zal h3] at h2;exact h w' ⟨h2⟩ a hF
end
section
variable {P : Program} {ops : Array Oper} {Q : Exit → Act → World → Prop} {rest : List Oper} {o oi : Oper} {w W : World} {N : Nat} {l : List (Nat × Value)} {s : List Asr} {d b m : Nat} {t T : TypeId} {A : Array Value} {v : Value} {cs : List Value}
def ZcU {α : Type} (x : Option Nat) (y : Option α) : Option (Nat × α) := match x with
 | some d => match y with
  | some r => some (d, r)
  | none => none
 | none => none
theorem XH {α : Type} {x : Option Nat} {y : Option α} {d : Nat} {r : α} (h : ZcU x y = some (d, r)) : x = some d ∧ y = some r := by
 unfold ZcU at h
 split at h
 ·split at h
  ·obtain ⟨rfl, rfl⟩ := Prod.mk.inj (Option.some.inj h); exact ⟨rfl, rfl⟩
  ·cases h
 ·cases h
theorem Xl (i : Nat) (E : Bx (St W s w)) (hi : s[i]? = some (boxA b m T (.agg A))) (hc : ZcU (auD N ops l o) (ldS A l o.op) = some (d, t, b, v)) (h : ∀ a, Fr N a ((d, v) :: l) → wpList P ops Q rest a w) (hs : YH P t = true := by kernel_rfl) : ∀ a, Fr N a l → wpList P ops Q (o :: rest) a w :=
 xy (XH hc).1 (vc E.o i hi (XH hc).2 hs) h
theorem Xw (i n : Nat) (E : Bx (St W s w)) (hi : s[i]? = some (boxA b m T (.agg A))) (hc : ZcU (auD N ops l o) (ldA n A l o.op) = some (d, t, b, cs)) (h : ∀ a, Fr N a ((d, .agg cs.toArray) :: l) → wpList P ops Q rest a w) (hs : XW P t n = true := by kernel_rfl) : ∀ a, Fr N a l → wpList P ops Q (o :: rest) a w :=
 xy (XH hc).1 (vw E.o i n hi (XH hc).2 hs) h
theorem Xf (j : Nat) {i k : Nat} (hc : ZcU (auD N ops l o) (faO l o.op) = some (d, t, i, b, k)) (h : ∀ a, Fr N a ((d, .pointer (some ⟨b, k + j, none⟩)) :: l) → wpList P ops Q rest a w) (hj : JM P t i = some j := by kernel_rfl) : ∀ a, Fr N a l → wpList P ops Q (o :: rest) a w :=
 xy (XH hc).1 (vf j (XH hc).2 hj) h
theorem Ql (i : Nat) {Q : Act → Prop} (hi : s[i]? = some (boxA b m T (.agg A))) (hc : ZcU (auD N ops l o) (ldS A l o.op) = some (d, t, b, v)) (h : ∀ a, Fr N a ((d, v) :: l) → wpQuiet P ops (St W s) Q rest a) (hs : YH P t = true := by kernel_rfl) : ∀ a, Fr N a l → wpQuiet P ops (St W s) Q (o :: rest) a :=
 xq (XH hc).1 (fun E => vc E i hi (XH hc).2 hs) h
theorem Qw (i n : Nat) {Q : Act → Prop} (hi : s[i]? = some (boxA b m T (.agg A))) (hc : ZcU (auD N ops l o) (ldA n A l o.op) = some (d, t, b, cs)) (h : ∀ a, Fr N a ((d, .agg cs.toArray) :: l) → wpQuiet P ops (St W s) Q rest a) (hs : XW P t n = true := by kernel_rfl) : ∀ a, Fr N a l → wpQuiet P ops (St W s) Q (o :: rest) a :=
 xq (XH hc).1 (fun E => vw E i n hi (XH hc).2 hs) h
theorem Qf (j : Nat) {i k : Nat} {Q : Act → Prop} (hc : ZcU (auD N ops l o) (faO l o.op) = some (d, t, i, b, k)) (h : ∀ a, Fr N a ((d, .pointer (some ⟨b, k + j, none⟩)) :: l) → wpQuiet P ops (St W s) Q rest a) (hj : JM P t i = some j := by kernel_rfl) : ∀ a, Fr N a l → wpQuiet P ops (St W s) Q (o :: rest) a :=
 xq (XH hc).1 (fun _ => vf j (XH hc).2 hj) h
section
variable {fuel : Nat} {listed : Array Bool}
def opX {α : Type} (N : Nat) (ops : Array Oper) (l : List (Nat × Value)) (k : Nat) (f : Op → Option α) : Option (Oper × Nat × α) := match ops[k]? with
 | some o => match auD N ops l o with
  | some d => match f o.op with
   | some r => some (o, d, r)
   | none => none
  | none => none
 | none => none
theorem Jp {α : Type} {k : Nat} {f : Op → Option α} {r : α} (h : opX N ops l k f = some (oi, d, r)) : ops[k]? = some oi ∧ auD N ops l oi = some d ∧ f oi.op = some r := by
 unfold opX at h
 split at h
 ·rename_i h1
  split at h
  ·rename_i h2
   split at h
   ·rename_i h3
    simp only [Option.some.injEq, Prod.mk.injEq] at h;obtain ⟨rfl, rfl, rfl⟩ := h; exact ⟨h1, h2, h3⟩
   ·cases h
  ·cases h
 ·cases h
theorem Hp (k : Nat) (E : Bx (St W s w)) (hc : opX N ops l k (auV l) = some (oi, d, v)) (h : ∀ a, Fr N a ((d, v) :: l) → wpAnyH P .any ops Q (St W s) fuel (listed.setIfInBounds k true) a w) (hs : Region.noSelect ops = true := by kernel_rfl) (hf : Region.free .any ops listed k = true := by kernel_rfl) (hr : (Region.ready .any ops listed).contains k = true := by kernel_rfl) (hQ : ∀ c a w, Q (.panic c) (a.put oi.dst v) w → Q (.panic c) a w := by exact fun _ _ _ h => h) : ∀ a, Fr N a l → wpAnyH P .any ops Q (St W s) (fuel + 1) listed a w :=
 xh k E.o (Jp hc).1 (Jp hc).2.1 (Jp hc).2.2 h hs hf hr hQ
theorem Hl (k i : Nat) (E : Bx (St W s w)) (hi : s[i]? = some (boxA b m T (.agg A))) (hc : opX N ops l k (ldS A l) = some (oi, d, t, b, v)) (h : ∀ a, Fr N a ((d, v) :: l) → wpAnyH P .any ops Q (St W s) fuel (listed.setIfInBounds k true) a w) (ht : YH P t = true := by kernel_rfl) (hs : Region.noSelect ops = true := by kernel_rfl) (hf : Region.free .any ops listed k = true := by kernel_rfl) (hr : (Region.ready .any ops listed).contains k = true := by kernel_rfl) (hQ : ∀ c a w, Q (.panic c) (a.put oi.dst v) w → Q (.panic c) a w := by exact fun _ _ _ h => h) : ∀ a, Fr N a l → wpAnyH P .any ops Q (St W s) (fuel + 1) listed a w :=
 xhy k E.o (Jp hc).1 (Jp hc).2.1 (fun E => vc E i hi (Jp hc).2.2 ht) h hs hf hr hQ
theorem Hw (k i n : Nat) (E : Bx (St W s w)) (hi : s[i]? = some (boxA b m T (.agg A))) (hc : opX N ops l k (ldA n A l) = some (oi, d, t, b, cs)) (h : ∀ a, Fr N a ((d, .agg cs.toArray) :: l) → wpAnyH P .any ops Q (St W s) fuel (listed.setIfInBounds k true) a w) (ht : XW P t n = true := by kernel_rfl) (hs : Region.noSelect ops = true := by kernel_rfl) (hf : Region.free .any ops listed k = true := by kernel_rfl) (hr : (Region.ready .any ops listed).contains k = true := by kernel_rfl) (hQ : ∀ c a w, Q (.panic c) (a.put oi.dst (.agg cs.toArray)) w → Q (.panic c) a w := by exact fun _ _ _ h => h) : ∀ a, Fr N a l → wpAnyH P .any ops Q (St W s) (fuel + 1) listed a w :=
 xhy k E.o (Jp hc).1 (Jp hc).2.1 (fun E => vw E i n hi (Jp hc).2.2 ht) h hs hf hr hQ
theorem Hf (k j : Nat) {i f : Nat} (E : Bx (St W s w)) (hc : opX N ops l k (faO l) = some (oi, d, t, i, b, f)) (h : ∀ a, Fr N a ((d, .pointer (some ⟨b, f + j, none⟩)) :: l) → wpAnyH P .any ops Q (St W s) fuel (listed.setIfInBounds k true) a w) (hj : JM P t i = some j := by kernel_rfl) (hs : Region.noSelect ops = true := by kernel_rfl) (hf : Region.free .any ops listed k = true := by kernel_rfl) (hr : (Region.ready .any ops listed).contains k = true := by kernel_rfl) (hQ : ∀ c a w, Q (.panic c) (a.put oi.dst (.pointer (some ⟨b, f + j, none⟩))) w → Q (.panic c) a w := by exact fun _ _ _ h => h) : ∀ a, Fr N a l → wpAnyH P .any ops Q (St W s) (fuel + 1) listed a w :=
 xhy k E.o (Jp hc).1 (Jp hc).2.1 (fun _ => vf j (Jp hc).2.2 hj) h hs hf hr hQ
end
theorem xcd {G : Act → Prop} (k : Nat) {p : Prop} [Decidable p] (hk : lk l k = some (.bool (decide p))) (h1 : decide p = true → p → ∀ a, Fr N a ((k, .bool true) :: l) → G a) (h2 : decide p = false → ¬ p → ∀ a, Fr N a ((k, .bool false) :: l) → G a) : ∀ a, Fr N a l → G a := xcs k hk (fun c => h1 c (of_decide_eq_true c)) fun c => h2 c (of_decide_eq_false c)
theorem xce {G : Act → Prop} (k : Nat) {α : Type} [BEq α] [LawfulBEq α] {x y : α} (hk : lk l k = some (.bool (x == y))) (h1 : (x == y) = true → x = y → ∀ a, Fr N a ((k, .bool true) :: l) → G a) (h2 : (x == y) = false → x ≠ y → ∀ a, Fr N a ((k, .bool false) :: l) → G a) : ∀ a, Fr N a l → G a := xcs k hk (fun c => h1 c (eq_of_beq c)) fun c => h2 c (ne_of_beq_false c)
theorem xcn {G : Act → Prop} (k : Nat) {α : Type} [BEq α] [LawfulBEq α] {x y : α} (hk : lk l k = some (.bool (x != y))) (h1 : (x != y) = true → x ≠ y → ∀ a, Fr N a ((k, .bool true) :: l) → G a) (h2 : (x != y) = false → x = y → ∀ a, Fr N a ((k, .bool false) :: l) → G a) : ∀ a, Fr N a l → G a := xcs k hk (fun c => h1 c (bne_iff_ne.1 c)) fun c => h2 c (bne_eq_false_iff_eq.1 c)
end
inductive Jh (x : Asr) : List Asr → List Asr → Prop
  | here (s : List Asr) : Jh x (x :: s) s
  | there {y : Asr} {s r : List Asr} (h : Jh x s r) : Jh x (y :: s) (y :: r)
theorem Jh.hereB {b n n' : Nat} {T : TypeId} {v v' : Value} {s : List Asr} (h : n = n') (k : v = v') : Jh (boxA b n T v) (boxA b n' T v' :: s) s := by subst h k; exact Jh.here s
theorem Jh.hereR {α : Type} {enc : α → List Value} {size : Nat} {e : TypeId} {ao : Option Addr} {n n' c : Nat} {xs xs' : List α} {s : List Asr} (h : n = n') (k : xs = xs') : Jh (Zg enc size e (.slice ao n c) xs) (Zg enc size e (.slice ao n' c) xs' :: s) s := by subst h k; exact Jh.here s
theorem Jh.perm {x : Asr} {s r : List Asr} (h : Jh x s r) : s.Perm (x :: r) := by
 induction h with
 | here s => exact List.Perm.refl _
 | there _ ih => exact (ih.cons _).trans (List.Perm.swap _ _ _)
inductive Xi : List Asr → List Asr → Prop
  | same (s : List Asr) : Xi s s
  | keep {x : Asr} {s t : List Asr} (h : Xi s t) : Xi (x :: s) (x :: t)
  | drop {x : Asr} {s t : List Asr} (h : Xi s t) : Xi s (x :: t)
theorem Xi.keepB {b n n' : Nat} {T : TypeId} {v v' : Value} {s t : List Asr} (h : n = n') (k : v = v') (i : Xi s t) : Xi (boxA b n T v :: s) (boxA b n' T v' :: t) := by subst h k; exact i.keep
theorem Xi.keepR {α : Type} {enc : α → List Value} {size : Nat} {e : TypeId} {ao : Option Addr} {n n' c : Nat} {xs xs' : List α} {s t : List Asr} (h : n = n') (k : xs = xs') (i : Xi s t) : Xi (Zg enc size e (.slice ao n c) xs :: s) (Zg enc size e (.slice ao n' c) xs' :: t) := by subst h k; exact i.keep
theorem St.subA {W w : World} {s t : List Asr} (hs : Xi s t) (r : List Asr) (h : St W (r ++ t) w) : St W (r ++ s) w := by
 induction hs generalizing r with
 | same s => exact h
 | @keep x s t _ ih => rw [List.append_cons] at h ⊢; exact ih _ h
 | @drop x s t _ ih => exact ih r ((h.perm List.perm_middle).tail)
inductive PmA : List Asr → List Asr → Prop
  | same (s : List Asr) : PmA s s
  | cons {x : Asr} {s r t : List Asr} (h : Jh x s r) (k : PmA r t) : PmA s (x :: t)
theorem PmA.perm {s t : List Asr} (h : PmA s t) : s.Perm t := by
 induction h with
 | same s => exact List.Perm.refl _
 | cons h _ ih => exact h.perm.trans (ih.cons _)
inductive ZgZ (b n : Nat) (T : TypeId) (v : Value) : List Asr → List Asr → Prop
  | here {u : Value} {s : List Asr} : ZgZ b n T v (boxA b n T u :: s) (boxA b n T v :: s)
  | there {y : Asr} {s r : List Asr} (h : ZgZ b n T v s r) : ZgZ b n T v (y :: s) (y :: r)
theorem ZgZ.is {b n : Nat} {T : TypeId} {v : Value} {s r : List Asr} (h : ZgZ b n T v s r) : ∃ j u, s[j]? = some (boxA b n T u) ∧ s.set j (boxA b n T v) = r := by
 induction h with
 | @here u s => exact ⟨0, u, rfl, rfl⟩
 | there _ ih => obtain ⟨j, u, h1, h2⟩ := ih; exact ⟨j + 1, u, by simpa using h1, by rw [List.set_cons_succ, h2]⟩
inductive Zg0 (b k : Nat) (v : Value) : List Asr → List Asr → Prop
  | here {n : Nat} {T : TypeId} {A : Array Value} {C : List Value} {s : List Asr} (h : Zin A.toList k v = some C) : Zg0 b k v (boxA b n T (.agg A) :: s) (boxA b n T (.agg C.toArray) :: s)
  | there {y : Asr} {s r : List Asr} (h : Zg0 b k v s r) : Zg0 b k v (y :: s) (y :: r)
theorem Zg0.is {b k : Nat} {v : Value} {s r : List Asr} (h : Zg0 b k v s r) : ∃ j n T A, s[j]? = some (boxA b n T (.agg A)) ∧ k < A.size ∧ s.set j (boxA b n T (.agg (A.setIfInBounds k v))) = r := by
 induction h with
 | @here n T A C s h =>
  obtain ⟨Z⟩ := A;obtain ⟨e, hk⟩ := Zbz h;exact ⟨0, n, T, _, rfl, hk, by rw [List.setIfInBounds_toArray, show Z.set k v = C from e]; rfl⟩
 | there _ ih => obtain ⟨j, n, T, A, h1, h2, h3⟩ := ih; exact ⟨j + 1, n, T, A, by simpa using h1, h2, by rw [List.set_cons_succ, h3]⟩
def Bx.lk (x : Asr) {W w : World} {s r : List Asr} (h : Bx (St W s w)) (hl : Jh x s r := by repeat (first | with_reducible exact Jh.here _ | ((with_reducible apply Jh.hereB) <;> exact rfl) | ((with_reducible apply Jh.hereR) <;> exact rfl) | apply Jh.there)) : Bx (St W (x :: r) w) := ⟨h.out.perm hl.perm⟩
def Bx.upd {W w w' : World} {s s2 : List Asr} (_ : Bx (St W s w)) (h : Bx (St W s2 w')) (hs : Xi s s2 := by repeat (first | with_reducible exact Xi.same _ | with_reducible refine Xi.keep ?_ | ((with_reducible apply Xi.keepB); exact rfl; exact rfl) | ((with_reducible apply Xi.keepR); exact rfl; exact rfl) | refine Xi.drop ?_)) : Bx (St W s w') := ⟨St.subA hs [] h.out⟩
theorem St.pmA {W w : World} {s t : List Asr} (h : St W s w) (hp : PmA s t := by repeat (first | with_reducible exact PmA.same _ | refine PmA.cons (by repeat (first | with_reducible exact Jh.here _ | ((with_reducible apply Jh.hereB) <;> exact rfl) | ((with_reducible apply Jh.hereR) <;> exact rfl) | apply Jh.there)) ?_)) : St W t w := h.perm hp.perm
section
variable {P : Program} {ops : Array Oper} {Q : Exit → Act → World → Prop} {K : Act → World → Prop} {oi : Oper} {a : Act} {w W : World} {N : Nat} {l : List (Nat × Value)} {s s2 s3 : List Asr} {d : Nat} {t : TypeId} {i : Nat} {fuel : Nat} {listed : Array Bool}
theorem YS {x y : Operand} {b n : Nat} {T : TypeId} {A : Array Value} (E : Bx (St W s2 w)) (h : ∀ w', Bx (St W s w') → Bx (St W s3 w') → ∀ a, Fr N a l → K a w')
  (hi : ops[i]? = some oi := by exact rfl) (ho : OpE oi (.store t x y) := by exact ⟨rfl, rfl, rfl⟩) (hx : evO l x = some (.pointer (some ⟨b, 0, none⟩)) := by exact rfl) (hy : evO l y = some (.agg A) := by exact rfl) (hj : ZgZ b n T (.agg A) s2 s3 := by repeat (first | with_reducible exact ZgZ.here | apply ZgZ.there)) (he : Xi s s3 := by repeat (first | with_reducible exact Xi.same _ | with_reducible refine Xi.keep ?_ | ((with_reducible apply Xi.keepB); exact rfl; exact rfl) | ((with_reducible apply Xi.keepR); exact rfl; exact rfl) | refine Xi.drop ?_)) (h1 : (A.toList.all fun u => u.oneCell') = true := by exact rfl) (hl : A.toList.length = n := by exact rfl) (hn : XW P t n = true := by kernel_rfl) : ∀ a, Fr N a l → wpOp P ops Q i (fun a' w' => St W s w' ∧ K a' w') a w := fun a hF => by
 obtain ⟨Z⟩ := A;obtain ⟨j, u, h5, h6⟩ := hj.is;refine ZcT hi ho.hg ho.ho ho.hd (hF.ev hx) (hF.ev hy) E.o j h5 (Zcl Z h1 hl) hn fun w' h2 => ?_;rw [h6] at h2;exact ⟨St.subA he [] h2, h w' ⟨St.subA he [] h2⟩ ⟨h2⟩ a hF⟩
theorem YF {x y : Operand} {b k : Nat} {v : Value} (E : Bx (St W s2 w)) (h : ∀ w', Bx (St W s w') → Bx (St W s3 w') → ∀ a, Fr N a l → K a w')
  (hi : ops[i]? = some oi := by exact rfl) (ho : OpE oi (.store t x y) := by exact ⟨rfl, rfl, rfl⟩) (hx : evO l x = some (.pointer (some ⟨b, k, none⟩)) := by exact rfl) (hy : evO l y = some v := by exact rfl) (hs : YH P t = true := by kernel_rfl) (hv : v.oneCell' = true := by exact rfl) (hj : Zg0 b k v s2 s3 := by repeat (first | with_reducible exact Zg0.here rfl | apply Zg0.there)) (he : Xi s s3 := by repeat (first | with_reducible exact Xi.same _ | with_reducible refine Xi.keep ?_ | ((with_reducible apply Xi.keepB); exact rfl; exact rfl) | ((with_reducible apply Xi.keepR); exact rfl; exact rfl) | refine Xi.drop ?_)) : ∀ a, Fr N a l → wpOp P ops Q i (fun a' w' => St W s w' ∧ K a' w') a w := fun a hF => by
 obtain ⟨j, n, T, A, h5, h7, h6⟩ := hj.is;refine Ze2 hi ho.hg ho.ho ho.hd (hF.ev hx) (hF.ev hy) hs E.o j h5 (Nat.ble_eq_true_of_le h7) hv fun w' h2 => ?_;rw [h6] at h2;exact ⟨St.subA he [] h2, h w' ⟨St.subA he [] h2⟩ ⟨h2⟩ a hF⟩
end
inductive PdA : List Asr → List Asr → Prop
  | done {s t : List Asr} (h : Xi t s) : PdA s t
  | cons {x : Asr} {s r t : List Asr} (h : Jh x s r) (k : PdA r t) : PdA s (x :: t)
theorem St.pdB {W w : World} {s t : List Asr} (hp : PdA s t) : ∀ p : List Asr, St W (p ++ s) w → St W (p ++ t) w := by
 induction hp with
 | done h => exact fun p hs => St.subA h p hs
 | @cons x s r t h _ ih =>
  intro p hs;have h1 : St W ((p ++ [x]) ++ r) w := by
   rw [List.append_assoc];exact hs.perm (h.perm.append_left p)
  rw [List.append_cons];exact ih _ h1
theorem St.pdA {W w : World} {s t : List Asr} (h : St W s w) (hp : PdA s t := by (repeat refine PdA.cons (by repeat (first | with_reducible exact Jh.here _ | ((with_reducible apply Jh.hereB) <;> exact rfl) | ((with_reducible apply Jh.hereR) <;> exact rfl) | apply Jh.there)) ?_); exact PdA.done (by repeat (first | with_reducible exact Xi.same _ | with_reducible refine Xi.keep ?_ | ((with_reducible apply Xi.keepB); exact rfl; exact rfl) | ((with_reducible apply Xi.keepR); exact rfl; exact rfl) | refine Xi.drop ?_))) : St W t w := St.pdB hp [] h
section
variable {P : Program} {ops : Array Oper} {Q : Exit → Act → World → Prop} {a : Act} {w W : World} {s : List Asr} {fuel : Nat} {listed : Array Bool}
theorem rdy {N : Nat} {l : List (Nat × Value)} (k : Nat) (h : ∀ a, Fr N a l → wpAnyH P .any ops Q (St W s) fuel listed a w) (_ : (Region.ready .any ops listed).contains k = true := by decide +kernel) : ∀ a, Fr N a l → wpAnyH P .any ops Q (St W s) fuel listed a w := h
theorem Zpc {N : Nat} {l : List (Nat × Value)} {m : List Nat} (hr : Region.ready .any ops listed = m) (hm : m ≠ []) (h : ∀ j ∈ m, ∀ a, Fr N a l → Zby P ops Q W s fuel listed j a w) : ∀ a, Fr N a l → wpAnyH P .any ops Q (St W s) (fuel + 1) listed a w := fun a hF => wpAnyH_all hr hm fun j hj => h j hj a hF
section
variable {N : Nat} {l : List (Nat × Value)}
theorem Z2 (i : Nat) (h : ∀ a, Fr N a l → Zby P ops Q W s fuel listed i a w) (hr : Region.ready .any ops listed = [i] := by decide +kernel) : ∀ a, Fr N a l → wpAnyH P .any ops Q (St W s) (fuel + 1) listed a w := Zk i h hr
theorem YX (i k : Nat) (h : ∀ a, Fr N a l → Zby P ops Q W s fuel listed i a w) (h' : ∀ a, Fr N a l → Zby P ops Q W s fuel listed k a w) (hr : Region.ready .any ops listed = [i, k] := by decide +kernel) : ∀ a, Fr N a l → wpAnyH P .any ops Q (St W s) (fuel + 1) listed a w := UE i k h h' hr
theorem VK (i k m : Nat) (h : ∀ a, Fr N a l → Zby P ops Q W s fuel listed i a w) (h' : ∀ a, Fr N a l → Zby P ops Q W s fuel listed k a w) (h'' : ∀ a, Fr N a l → Zby P ops Q W s fuel listed m a w) (hr : Region.ready .any ops listed = [i, k, m] := by decide +kernel) : ∀ a, Fr N a l → wpAnyH P .any ops Q (St W s) (fuel + 1) listed a w := Zpc hr (by simp) fun j hj => by
 rcases (by simpa using hj : j = i ∨ j = k ∨ j = m) with rfl | rfl | rfl
 ·exact h
 ·exact h'
 ·exact h''
theorem Zpo (i k m p : Nat) (h : ∀ a, Fr N a l → Zby P ops Q W s fuel listed i a w) (h' : ∀ a, Fr N a l → Zby P ops Q W s fuel listed k a w) (h'' : ∀ a, Fr N a l → Zby P ops Q W s fuel listed m a w) (h5 : ∀ a, Fr N a l → Zby P ops Q W s fuel listed p a w) (hr : Region.ready .any ops listed = [i, k, m, p] := by decide +kernel) : ∀ a, Fr N a l → wpAnyH P .any ops Q (St W s) (fuel + 1) listed a w := Zpc hr (by simp) fun j hj => by
 rcases (by simpa using hj : j = i ∨ j = k ∨ j = m ∨ j = p) with rfl | rfl | rfl | rfl
 ·exact h
 ·exact h'
 ·exact h''
 ·exact h5
end
theorem gdn {N : Nat} {l : List (Nat × Value)} (h : ∀ a, Fr N a l → Q .normal a w) (hr : Region.ready .any ops listed = [] := by decide +kernel) : ∀ a, Fr N a l → wpAnyH P .any ops Q (St W s) fuel listed a w := hdn h hr
end
theorem upG {W w : World} {s s2 : List Asr} {G : Prop} (h : Bx (St W s2 w)) (k : Bx (St W s w) → G) (hs : Xi s s2 := by repeat (first | with_reducible exact Xi.same _ | with_reducible refine Xi.keep ?_ | ((with_reducible apply Xi.keepB); exact rfl; exact rfl) | ((with_reducible apply Xi.keepR); exact rfl; exact rfl) | refine Xi.drop ?_)) : St W s w ∧ G := ⟨St.subA hs [] h.out, k ⟨St.subA hs [] h.out⟩⟩
theorem onb {N : Nat} {l : List (Nat × Value)} {G : Prop} {K : Act → Prop} (h : G) (k : ∀ a, Fr N a l → K a) : ∀ a, Fr N a l → G ∧ K a := fun a hF => ⟨h, k a hF⟩
open Go.Shelf
def Zg1 : Go.Shelf.Ren := ⟨fun | 129 => 167 | 171 => 50 | 172 => 58 | 205 => 145 | 243 => 75 | 244 => 80 | 245 => 81 | 246 => 102 | 247 => 105 | 279 => 106 | 280 => 107 | 281 => 108 | 282 => 109 | 283 => 135 | 284 => 136 | 285 => 137 | 286 => 138 | 287 => 144 | 316 => 79 | 317 => 166 | 318 => 168 | 319 => 169 | 320 => 170 | 321 => 174 | 322 => 175 | 337 => 192 | 338 => 193 | n => n, fun | 0 => 0 | 2 => 2 | 3 => 3 | 4 => 4 | 5 => 5 | 9 => 9 | 20 => 20 | 21 => 21 | 37 => 22 | 46 => 175 | 51 => 199 | 53 => 169 | 75 => 81 | 76 => 82 | 80 => 86 | 85 => 138 | 127 => 109 | 143 => 206 | 145 => 208 | 167 => 137 | 168 => 140 | 171 => 168 | 173 => 172 | 175 => 176 | 210 => 179 | 212 => 198 | 213 => 200 | 232 => 225 | 233 => 226 | n => n, fun | 15 => 1 | 16 => 2 | 17 => 3 | 18 => 4 | 19 => 5 | n => n⟩
theorem Znh : Go.Proofs.Lays.n172 prog Zg1 := {
 mixed := by kernel_rfl
 f129 := Tryz.func167.trans (congrArg some (by kernel_rfl))
 f171 := Tryz.func50.trans (congrArg some (by kernel_rfl))
 f172 := Tryz.func58.trans (congrArg some (by kernel_rfl))
 f205 := Tryz.func145.trans (congrArg some (by kernel_rfl))
 f243 := Tryz.func75.trans (congrArg some (by kernel_rfl))
 f244 := Tryz.func80.trans (congrArg some (by kernel_rfl))
 f245 := Tryz.func81.trans (congrArg some (by kernel_rfl))
 f246 := Tryz.func102.trans (congrArg some (by kernel_rfl))
 f247 := Tryz.func105.trans (congrArg some (by kernel_rfl))
 f279 := Tryz.func106.trans (congrArg some (by kernel_rfl))
 f280 := Tryz.func107.trans (congrArg some (by kernel_rfl))
 f281 := Tryz.func108.trans (congrArg some (by kernel_rfl))
 f282 := Tryz.func109.trans (congrArg some (by kernel_rfl))
 f283 := Tryz.func135.trans (congrArg some (by kernel_rfl))
 f284 := Tryz.func136.trans (congrArg some (by kernel_rfl))
 f285 := Tryz.func137.trans (congrArg some (by kernel_rfl))
 f286 := Tryz.func138.trans (congrArg some (by kernel_rfl))
 f287 := Tryz.func144.trans (congrArg some (by kernel_rfl))
 f316 := Tryz.func79.trans (congrArg some (by kernel_rfl))
 f317 := Tryz.func166.trans (congrArg some (by kernel_rfl))
 f318 := Tryz.func168.trans (congrArg some (by kernel_rfl))
 f319 := Tryz.func169.trans (congrArg some (by kernel_rfl))
 f320 := Tryz.func170.trans (congrArg some (by kernel_rfl))
 f321 := Tryz.func174.trans (congrArg some (by kernel_rfl))
 f322 := Tryz.func175.trans (congrArg some (by kernel_rfl))
 f337 := Tryz.func192.trans (congrArg some (by kernel_rfl))
 f338 := Tryz.func193.trans (congrArg some (by kernel_rfl))
 t0 := Tryz.underlying0
 a0 := Tryz.isAgg0
 z0 := Tryz.sizeOf0
 v0 := Tryz.zeroValue0
 t2 := Tryz.underlying2
 a2 := Tryz.isAgg2
 z2 := Tryz.sizeOf2
 v2 := Tryz.zeroValue2
 t3 := Tryz.underlying3
 a3 := Tryz.isAgg3
 z3 := Tryz.sizeOf3
 v3 := Tryz.zeroValue3
 t4 := Tryz.underlying4
 a4 := Tryz.isAgg4
 z4 := Tryz.sizeOf4
 v4 := Tryz.zeroValue4
 t5 := Tryz.underlying5
 a5 := Tryz.isAgg5
 z5 := Tryz.sizeOf5
 v5 := Tryz.zeroValue5
 t9 := Tryz.underlying9
 a9 := Tryz.isAgg9
 z9 := Tryz.sizeOf9
 v9 := Tryz.zeroValue9
 t20 := Tryz.underlying20
 a20 := Tryz.isAgg20
 z20 := Tryz.sizeOf20
 v20 := Tryz.zeroValue20
 t21 := Tryz.underlying21
 a21 := Tryz.isAgg21
 z21 := Tryz.sizeOf21
 v21 := Tryz.zeroValue21
 t37 := Tryz.underlying22
 a37 := Tryz.isAgg22
 z37 := Tryz.sizeOf22
 v37 := Tryz.zeroValue22
 t46 := Tryz.underlying175
 a46 := Tryz.isAgg175
 z46 := Tryz.sizeOf175
 v46 := Tryz.zeroValue175
 t51 := Tryz.underlying199
 a51 := Tryz.isAgg199
 z51 := Tryz.sizeOf199
 v51 := Tryz.zeroValue199
 t53 := Tryz.underlying169
 a53 := Tryz.isAgg169
 z53 := Tryz.sizeOf169
 v53 := Tryz.zeroValue169
 t75 := Tryz.underlying81
 a75 := Tryz.isAgg81
 z75 := Tryz.sizeOf81
 v75 := Tryz.zeroValue81
 t76 := Tryz.underlying82
 a76 := Tryz.isAgg82
 z76 := Tryz.sizeOf82
 v76 := Tryz.zeroValue82
 t85 := Tryz.underlying138
 a85 := Tryz.isAgg138
 z85 := Tryz.sizeOf138
 v85 := Tryz.zeroValue138
 t127 := Tryz.underlying109
 a127 := Tryz.isAgg109
 z127 := Tryz.sizeOf109
 v127 := Tryz.zeroValue109
 t143 := Tryz.underlying206
 a143 := Tryz.isAgg206
 z143 := Tryz.sizeOf206
 v143 := Tryz.zeroValue206
 t145 := Tryz.underlying208
 a145 := Tryz.isAgg208
 z145 := Tryz.sizeOf208
 v145 := Tryz.zeroValue208
 t167 := Tryz.underlying137
 a167 := Tryz.isAgg137
 z167 := Tryz.sizeOf137
 v167 := Tryz.zeroValue137
 t168 := Tryz.underlying140
 a168 := Tryz.isAgg140
 z168 := Tryz.sizeOf140
 v168 := Tryz.zeroValue140
 t171 := Tryz.underlying168
 a171 := Tryz.isAgg168
 z171 := Tryz.sizeOf168
 v171 := Tryz.zeroValue168
 t173 := Tryz.underlying172
 a173 := Tryz.isAgg172
 z173 := Tryz.sizeOf172
 v173 := Tryz.zeroValue172
 t175 := Tryz.underlying176
 a175 := Tryz.isAgg176
 z175 := Tryz.sizeOf176
 v175 := Tryz.zeroValue176
 t210 := Tryz.underlying179
 a210 := Tryz.isAgg179
 z210 := Tryz.sizeOf179
 v210 := Tryz.zeroValue179
 t212 := Tryz.underlying198
 a212 := Tryz.isAgg198
 z212 := Tryz.sizeOf198
 v212 := Tryz.zeroValue198
 t213 := Tryz.underlying200
 a213 := Tryz.isAgg200
 z213 := Tryz.sizeOf200
 t232 := Tryz.underlying225
 a232 := Tryz.isAgg225
 z232 := Tryz.sizeOf225
 v232 := Tryz.zeroValue225
 t233 := Tryz.underlying226
 a233 := Tryz.isAgg226
 z233 := Tryz.sizeOf226
 v233 := Tryz.zeroValue226
 g15 := by kernel_rfl
 g16 := by kernel_rfl
 g17 := by kernel_rfl
 g18 := by kernel_rfl
 g19 := by kernel_rfl }
theorem Zly : Go.Proofs.LaysC.n172 prog Zg1 := {
 mixed := by kernel_rfl
 f129 := Tryz.func167.trans (congrArg some (by kernel_rfl))
 f171 := Tryz.func50.trans (congrArg some (by kernel_rfl))
 f172 := Tryz.func58.trans (congrArg some (by kernel_rfl))
 f205 := Tryz.func145.trans (congrArg some (by kernel_rfl))
 f243 := Tryz.func75.trans (congrArg some (by kernel_rfl))
 f244 := Tryz.func80.trans (congrArg some (by kernel_rfl))
 f245 := Tryz.func81.trans (congrArg some (by kernel_rfl))
 f246 := Tryz.func102.trans (congrArg some (by kernel_rfl))
 f247 := Tryz.func105.trans (congrArg some (by kernel_rfl))
 f279 := Tryz.func106.trans (congrArg some (by kernel_rfl))
 f280 := Tryz.func107.trans (congrArg some (by kernel_rfl))
 f281 := Tryz.func108.trans (congrArg some (by kernel_rfl))
 f282 := Tryz.func109.trans (congrArg some (by kernel_rfl))
 f283 := Tryz.func135.trans (congrArg some (by kernel_rfl))
 f284 := Tryz.func136.trans (congrArg some (by kernel_rfl))
 f285 := Tryz.func137.trans (congrArg some (by kernel_rfl))
 f286 := Tryz.func138.trans (congrArg some (by kernel_rfl))
 f287 := Tryz.func144.trans (congrArg some (by kernel_rfl))
 f316 := Tryz.func79.trans (congrArg some (by kernel_rfl))
 f317 := Tryz.func166.trans (congrArg some (by kernel_rfl))
 f318 := Tryz.func168.trans (congrArg some (by kernel_rfl))
 f319 := Tryz.func169.trans (congrArg some (by kernel_rfl))
 f320 := Tryz.func170.trans (congrArg some (by kernel_rfl))
 f321 := Tryz.func174.trans (congrArg some (by kernel_rfl))
 f322 := Tryz.func175.trans (congrArg some (by kernel_rfl))
 f337 := Tryz.func192.trans (congrArg some (by kernel_rfl))
 f338 := Tryz.func193.trans (congrArg some (by kernel_rfl))
 t0 := Tryz.underlying0
 a0 := Tryz.isAgg0
 z0 := Tryz.sizeOf0
 v0 := Tryz.zeroValue0
 t2 := Tryz.underlying2
 a2 := Tryz.isAgg2
 z2 := Tryz.sizeOf2
 v2 := Tryz.zeroValue2
 t3 := Tryz.underlying3
 a3 := Tryz.isAgg3
 z3 := Tryz.sizeOf3
 v3 := Tryz.zeroValue3
 t4 := Tryz.underlying4
 a4 := Tryz.isAgg4
 z4 := Tryz.sizeOf4
 v4 := Tryz.zeroValue4
 t5 := Tryz.underlying5
 a5 := Tryz.isAgg5
 z5 := Tryz.sizeOf5
 v5 := Tryz.zeroValue5
 t9 := Tryz.underlying9
 a9 := Tryz.isAgg9
 z9 := Tryz.sizeOf9
 v9 := Tryz.zeroValue9
 t20 := Tryz.underlying20
 a20 := Tryz.isAgg20
 z20 := Tryz.sizeOf20
 v20 := Tryz.zeroValue20
 t21 := Tryz.underlying21
 a21 := Tryz.isAgg21
 z21 := Tryz.sizeOf21
 v21 := Tryz.zeroValue21
 t37 := Tryz.underlying22
 a37 := Tryz.isAgg22
 z37 := Tryz.sizeOf22
 v37 := Tryz.zeroValue22
 t46 := Tryz.underlying175
 a46 := Tryz.isAgg175
 z46 := Tryz.sizeOf175
 v46 := Tryz.zeroValue175
 t51 := Tryz.underlying199
 a51 := Tryz.isAgg199
 z51 := Tryz.sizeOf199
 v51 := Tryz.zeroValue199
 t53 := Tryz.underlying169
 a53 := Tryz.isAgg169
 z53 := Tryz.sizeOf169
 v53 := Tryz.zeroValue169
 t75 := Tryz.underlying81
 a75 := Tryz.isAgg81
 z75 := Tryz.sizeOf81
 v75 := Tryz.zeroValue81
 t76 := Tryz.underlying82
 a76 := Tryz.isAgg82
 z76 := Tryz.sizeOf82
 v76 := Tryz.zeroValue82
 t85 := Tryz.underlying138
 a85 := Tryz.isAgg138
 z85 := Tryz.sizeOf138
 v85 := Tryz.zeroValue138
 t127 := Tryz.underlying109
 a127 := Tryz.isAgg109
 z127 := Tryz.sizeOf109
 v127 := Tryz.zeroValue109
 t143 := Tryz.underlying206
 a143 := Tryz.isAgg206
 z143 := Tryz.sizeOf206
 v143 := Tryz.zeroValue206
 t145 := Tryz.underlying208
 a145 := Tryz.isAgg208
 z145 := Tryz.sizeOf208
 v145 := Tryz.zeroValue208
 t167 := Tryz.underlying137
 a167 := Tryz.isAgg137
 z167 := Tryz.sizeOf137
 v167 := Tryz.zeroValue137
 t168 := Tryz.underlying140
 a168 := Tryz.isAgg140
 z168 := Tryz.sizeOf140
 v168 := Tryz.zeroValue140
 t171 := Tryz.underlying168
 a171 := Tryz.isAgg168
 z171 := Tryz.sizeOf168
 v171 := Tryz.zeroValue168
 t173 := Tryz.underlying172
 a173 := Tryz.isAgg172
 z173 := Tryz.sizeOf172
 v173 := Tryz.zeroValue172
 t175 := Tryz.underlying176
 a175 := Tryz.isAgg176
 z175 := Tryz.sizeOf176
 v175 := Tryz.zeroValue176
 t210 := Tryz.underlying179
 a210 := Tryz.isAgg179
 z210 := Tryz.sizeOf179
 v210 := Tryz.zeroValue179
 t212 := Tryz.underlying198
 a212 := Tryz.isAgg198
 z212 := Tryz.sizeOf198
 v212 := Tryz.zeroValue198
 t213 := Tryz.underlying200
 a213 := Tryz.isAgg200
 z213 := Tryz.sizeOf200
 t232 := Tryz.underlying225
 a232 := Tryz.isAgg225
 z232 := Tryz.sizeOf225
 v232 := Tryz.zeroValue225
 t233 := Tryz.underlying226
 a233 := Tryz.isAgg226
 z233 := Tryz.sizeOf226
 v233 := Tryz.zeroValue226
 g15 := by kernel_rfl
 g16 := by kernel_rfl
 g17 := by kernel_rfl
 g18 := by kernel_rfl
 g19 := by kernel_rfl
 t80 := Tryz.underlying86
 a80 := Tryz.isAgg86
 z80 := Tryz.sizeOf86
 v80 := Tryz.zeroValue86
 i0 := by kernel_rfl
 i2 := by kernel_rfl
 i3 := by kernel_rfl
 i4 := by kernel_rfl
 i5 := by kernel_rfl
 i9 := by kernel_rfl
 i20 := by kernel_rfl
 i21 := by kernel_rfl
 i37 := by kernel_rfl
 i46 := by kernel_rfl
 i51 := by kernel_rfl
 i53 := by kernel_rfl
 i75 := by kernel_rfl
 i76 := by kernel_rfl
 i80 := by kernel_rfl
 i85 := by kernel_rfl
 i127 := by kernel_rfl
 i143 := by kernel_rfl
 i145 := by kernel_rfl
 i167 := by kernel_rfl
 i168 := by kernel_rfl
 i171 := by kernel_rfl
 i173 := by kernel_rfl
 i175 := by kernel_rfl
 i210 := by kernel_rfl
 i212 := by kernel_rfl
 i232 := by kernel_rfl
 i233 := by kernel_rfl
 m15 := by kernel_rfl
 m16 := by kernel_rfl
 m17 := by kernel_rfl
 m18 := by kernel_rfl
 m19 := by kernel_rfl
 c0 := by kernel_rfl
 c2 := by kernel_rfl
 c3 := by kernel_rfl
 c4 := by kernel_rfl
 c5 := by kernel_rfl
 c9 := by kernel_rfl
 c20 := by kernel_rfl
 c21 := by kernel_rfl
 c37 := by kernel_rfl
 c46 := by kernel_rfl
 c51 := by kernel_rfl
 c53 := by kernel_rfl
 c75 := by kernel_rfl
 c76 := by kernel_rfl
 c80 := by kernel_rfl
 c85 := by kernel_rfl
 c127 := by kernel_rfl
 c143 := by kernel_rfl
 c145 := by kernel_rfl
 c167 := by kernel_rfl
 c168 := by kernel_rfl
 c171 := by kernel_rfl
 c173 := by kernel_rfl
 c175 := by kernel_rfl
 c210 := by kernel_rfl
 c212 := by kernel_rfl
 c213 := by kernel_rfl
 c232 := by kernel_rfl
 c233 := by kernel_rfl }
def Zlz : Go.Shelf.Ren := ⟨fun | 129 => 167 | 171 => 50 | 243 => 75 | 246 => 102 | 283 => 135 | 284 => 136 | 285 => 137 | 286 => 138 | 317 => 166 | 318 => 168 | 319 => 169 | 320 => 170 | 337 => 192 | 338 => 193 | n => n, fun | 0 => 0 | 2 => 2 | 3 => 3 | 4 => 4 | 5 => 5 | 9 => 9 | 20 => 20 | 37 => 22 | 46 => 175 | 51 => 199 | 53 => 169 | 171 => 168 | 173 => 172 | 212 => 198 | 213 => 200 | 232 => 225 | 233 => 226 | n => n, fun | 17 => 3 | 18 => 4 | 19 => 5 | n => n⟩
theorem Zni : Go.Proofs.LaysM.n171 prog Zlz := {
 mixed := by kernel_rfl
 f129 := Tryz.func167.trans (congrArg some (by kernel_rfl))
 f171 := Tryz.func50.trans (congrArg some (by kernel_rfl))
 f243 := Tryz.func75.trans (congrArg some (by kernel_rfl))
 f246 := Tryz.func102.trans (congrArg some (by kernel_rfl))
 f283 := Tryz.func135.trans (congrArg some (by kernel_rfl))
 f284 := Tryz.func136.trans (congrArg some (by kernel_rfl))
 f285 := Tryz.func137.trans (congrArg some (by kernel_rfl))
 f286 := Tryz.func138.trans (congrArg some (by kernel_rfl))
 f317 := Tryz.func166.trans (congrArg some (by kernel_rfl))
 f318 := Tryz.func168.trans (congrArg some (by kernel_rfl))
 f319 := Tryz.func169.trans (congrArg some (by kernel_rfl))
 f320 := Tryz.func170.trans (congrArg some (by kernel_rfl))
 f337 := Tryz.func192.trans (congrArg some (by kernel_rfl))
 f338 := Tryz.func193.trans (congrArg some (by kernel_rfl))
 t0 := Tryz.underlying0
 a0 := Tryz.isAgg0
 z0 := Tryz.sizeOf0
 v0 := Tryz.zeroValue0
 t2 := Tryz.underlying2
 a2 := Tryz.isAgg2
 z2 := Tryz.sizeOf2
 v2 := Tryz.zeroValue2
 t3 := Tryz.underlying3
 a3 := Tryz.isAgg3
 z3 := Tryz.sizeOf3
 v3 := Tryz.zeroValue3
 t4 := Tryz.underlying4
 a4 := Tryz.isAgg4
 z4 := Tryz.sizeOf4
 v4 := Tryz.zeroValue4
 t5 := Tryz.underlying5
 a5 := Tryz.isAgg5
 z5 := Tryz.sizeOf5
 v5 := Tryz.zeroValue5
 t9 := Tryz.underlying9
 a9 := Tryz.isAgg9
 z9 := Tryz.sizeOf9
 v9 := Tryz.zeroValue9
 t20 := Tryz.underlying20
 a20 := Tryz.isAgg20
 z20 := Tryz.sizeOf20
 v20 := Tryz.zeroValue20
 t37 := Tryz.underlying22
 a37 := Tryz.isAgg22
 z37 := Tryz.sizeOf22
 v37 := Tryz.zeroValue22
 t46 := Tryz.underlying175
 a46 := Tryz.isAgg175
 z46 := Tryz.sizeOf175
 v46 := Tryz.zeroValue175
 t51 := Tryz.underlying199
 a51 := Tryz.isAgg199
 z51 := Tryz.sizeOf199
 v51 := Tryz.zeroValue199
 t53 := Tryz.underlying169
 a53 := Tryz.isAgg169
 z53 := Tryz.sizeOf169
 v53 := Tryz.zeroValue169
 t171 := Tryz.underlying168
 a171 := Tryz.isAgg168
 z171 := Tryz.sizeOf168
 v171 := Tryz.zeroValue168
 t173 := Tryz.underlying172
 a173 := Tryz.isAgg172
 z173 := Tryz.sizeOf172
 v173 := Tryz.zeroValue172
 t212 := Tryz.underlying198
 a212 := Tryz.isAgg198
 z212 := Tryz.sizeOf198
 v212 := Tryz.zeroValue198
 t213 := Tryz.underlying200
 a213 := Tryz.isAgg200
 z213 := Tryz.sizeOf200
 t232 := Tryz.underlying225
 a232 := Tryz.isAgg225
 z232 := Tryz.sizeOf225
 v232 := Tryz.zeroValue225
 t233 := Tryz.underlying226
 a233 := Tryz.isAgg226
 z233 := Tryz.sizeOf226
 v233 := Tryz.zeroValue226
 g17 := by kernel_rfl
 g18 := by kernel_rfl
 g19 := by kernel_rfl
 i0 := by kernel_rfl
 i2 := by kernel_rfl
 i3 := by kernel_rfl
 i4 := by kernel_rfl
 i5 := by kernel_rfl
 i9 := by kernel_rfl
 i20 := by kernel_rfl
 i37 := by kernel_rfl
 i46 := by kernel_rfl
 i51 := by kernel_rfl
 i53 := by kernel_rfl
 i171 := by kernel_rfl
 i173 := by kernel_rfl
 i212 := by kernel_rfl
 i232 := by kernel_rfl
 i233 := by kernel_rfl
 m17 := by kernel_rfl
 m18 := by kernel_rfl
 m19 := by kernel_rfl }
def Zam : Go.Shelf.Ren := ⟨fun | 156 => 77 | 165 => 103 | 166 => 49 | 169 => 53 | 240 => 74 | 241 => 139 | 276 => 101 | 277 => 171 | n => n, fun | 0 => 0 | 3 => 3 | 4 => 4 | 5 => 5 | 9 => 9 | 20 => 20 | 31 => 38 | 37 => 22 | 70 => 77 | 72 => 79 | 75 => 81 | 76 => 82 | 80 => 86 | 127 => 109 | 164 => 132 | n => n, fun | n => n⟩
theorem Zjq : Go.Proofs.Builder.Extra prog Zam := {
 sizeBuilder := by kernel_rfl
 liesBuilder := by kernel_rfl
 t5 := Tryz.underlying5
 a5 := Tryz.isAgg5
 z5 := Tryz.sizeOf5
 v5 := Tryz.zeroValue5
 infoByte := by kernel_rfl
 cellsByte := by kernel_rfl
 sizeByte := by kernel_rfl
 neB5 := by decide }
theorem Zpd : Go.Proofs.Lays.n166 prog Zam := {
 mixed := by kernel_rfl
 f166 := Tryz.func49.trans (congrArg some (by kernel_rfl))
 f240 := Tryz.func74.trans (congrArg some (by kernel_rfl))
 f276 := Tryz.func101.trans (congrArg some (by kernel_rfl))
 t0 := Tryz.underlying0
 a0 := Tryz.isAgg0
 z0 := Tryz.sizeOf0
 v0 := Tryz.zeroValue0
 t3 := Tryz.underlying3
 a3 := Tryz.isAgg3
 z3 := Tryz.sizeOf3
 v3 := Tryz.zeroValue3
 t4 := Tryz.underlying4
 a4 := Tryz.isAgg4
 z4 := Tryz.sizeOf4
 v4 := Tryz.zeroValue4
 t9 := Tryz.underlying9
 a9 := Tryz.isAgg9
 z9 := Tryz.sizeOf9
 v9 := Tryz.zeroValue9
 t20 := Tryz.underlying20
 a20 := Tryz.isAgg20
 z20 := Tryz.sizeOf20
 v20 := Tryz.zeroValue20
 t37 := Tryz.underlying22
 a37 := Tryz.isAgg22
 z37 := Tryz.sizeOf22
 v37 := Tryz.zeroValue22
 t70 := Tryz.underlying77
 a70 := Tryz.isAgg77
 z70 := Tryz.sizeOf77
 v70 := Tryz.zeroValue77
 t72 := Tryz.underlying79
 a72 := Tryz.isAgg79
 z72 := Tryz.sizeOf79
 v72 := Tryz.zeroValue79
 t75 := Tryz.underlying81
 a75 := Tryz.isAgg81
 z75 := Tryz.sizeOf81
 v75 := Tryz.zeroValue81
 t164 := Tryz.underlying132
 a164 := Tryz.isAgg132
 z164 := Tryz.sizeOf132
 v164 := Tryz.zeroValue132 }
theorem Zpe : Go.Proofs.Lays.n169 prog Zam := {
 mixed := by kernel_rfl
 f169 := Tryz.func53.trans (congrArg some (by kernel_rfl))
 t0 := Tryz.underlying0
 a0 := Tryz.isAgg0
 z0 := Tryz.sizeOf0
 v0 := Tryz.zeroValue0
 t3 := Tryz.underlying3
 a3 := Tryz.isAgg3
 z3 := Tryz.sizeOf3
 v3 := Tryz.zeroValue3
 t9 := Tryz.underlying9
 a9 := Tryz.isAgg9
 z9 := Tryz.sizeOf9
 v9 := Tryz.zeroValue9
 t37 := Tryz.underlying22
 a37 := Tryz.isAgg22
 z37 := Tryz.sizeOf22
 v37 := Tryz.zeroValue22
 t70 := Tryz.underlying77
 a70 := Tryz.isAgg77
 z70 := Tryz.sizeOf77
 v70 := Tryz.zeroValue77
 t72 := Tryz.underlying79
 a72 := Tryz.isAgg79
 z72 := Tryz.sizeOf79
 v72 := Tryz.zeroValue79
 t127 := Tryz.underlying109
 a127 := Tryz.isAgg109
 z127 := Tryz.sizeOf109
 v127 := Tryz.zeroValue109 }
theorem Zjr : Go.Proofs.Lays.n156 prog Zam := {
 mixed := by kernel_rfl
 f156 := Tryz.func77.trans (congrArg some (by kernel_rfl))
 f165 := Tryz.func103.trans (congrArg some (by kernel_rfl))
 f166 := Tryz.func49.trans (congrArg some (by kernel_rfl))
 f169 := Tryz.func53.trans (congrArg some (by kernel_rfl))
 f240 := Tryz.func74.trans (congrArg some (by kernel_rfl))
 f241 := Tryz.func139.trans (congrArg some (by kernel_rfl))
 f276 := Tryz.func101.trans (congrArg some (by kernel_rfl))
 f277 := Tryz.func171.trans (congrArg some (by kernel_rfl))
 t0 := Tryz.underlying0
 a0 := Tryz.isAgg0
 z0 := Tryz.sizeOf0
 v0 := Tryz.zeroValue0
 t3 := Tryz.underlying3
 a3 := Tryz.isAgg3
 z3 := Tryz.sizeOf3
 v3 := Tryz.zeroValue3
 t4 := Tryz.underlying4
 a4 := Tryz.isAgg4
 z4 := Tryz.sizeOf4
 v4 := Tryz.zeroValue4
 t9 := Tryz.underlying9
 a9 := Tryz.isAgg9
 z9 := Tryz.sizeOf9
 v9 := Tryz.zeroValue9
 t20 := Tryz.underlying20
 a20 := Tryz.isAgg20
 z20 := Tryz.sizeOf20
 v20 := Tryz.zeroValue20
 t31 := Tryz.underlying38
 a31 := Tryz.isAgg38
 z31 := Tryz.sizeOf38
 v31 := Tryz.zeroValue38
 t37 := Tryz.underlying22
 a37 := Tryz.isAgg22
 z37 := Tryz.sizeOf22
 v37 := Tryz.zeroValue22
 t70 := Tryz.underlying77
 a70 := Tryz.isAgg77
 z70 := Tryz.sizeOf77
 v70 := Tryz.zeroValue77
 t72 := Tryz.underlying79
 a72 := Tryz.isAgg79
 z72 := Tryz.sizeOf79
 v72 := Tryz.zeroValue79
 t75 := Tryz.underlying81
 a75 := Tryz.isAgg81
 z75 := Tryz.sizeOf81
 v75 := Tryz.zeroValue81
 t76 := Tryz.underlying82
 a76 := Tryz.isAgg82
 z76 := Tryz.sizeOf82
 v76 := Tryz.zeroValue82
 t127 := Tryz.underlying109
 a127 := Tryz.isAgg109
 z127 := Tryz.sizeOf109
 v127 := Tryz.zeroValue109
 t164 := Tryz.underlying132
 a164 := Tryz.isAgg132
 z164 := Tryz.sizeOf132
 v164 := Tryz.zeroValue132 }
def Ze3 : Go.Shelf.Ren := ⟨fun | 167 => 51 | 240 => 74 | 276 => 101 | n => n, fun | 0 => 0 | 4 => 4 | 5 => 5 | 9 => 9 | 20 => 20 | 37 => 22 | 70 => 77 | 72 => 79 | 75 => 81 | 80 => 86 | 164 => 132 | n => n, fun | n => n⟩
theorem Zox : Go.Proofs.Builder.Extra prog Ze3 := {
 sizeBuilder := by kernel_rfl
 liesBuilder := by kernel_rfl
 t5 := Tryz.underlying5
 a5 := Tryz.isAgg5
 z5 := Tryz.sizeOf5
 v5 := Tryz.zeroValue5
 infoByte := by kernel_rfl
 cellsByte := by kernel_rfl
 sizeByte := by kernel_rfl
 neB5 := by decide }
theorem Zpf : Go.Proofs.Lays.n167 prog Ze3 := {
 mixed := by kernel_rfl
 f167 := Tryz.func51.trans (congrArg some (by kernel_rfl))
 f240 := Tryz.func74.trans (congrArg some (by kernel_rfl))
 f276 := Tryz.func101.trans (congrArg some (by kernel_rfl))
 t0 := Tryz.underlying0
 a0 := Tryz.isAgg0
 z0 := Tryz.sizeOf0
 v0 := Tryz.zeroValue0
 t4 := Tryz.underlying4
 a4 := Tryz.isAgg4
 z4 := Tryz.sizeOf4
 v4 := Tryz.zeroValue4
 t5 := Tryz.underlying5
 a5 := Tryz.isAgg5
 z5 := Tryz.sizeOf5
 v5 := Tryz.zeroValue5
 t9 := Tryz.underlying9
 a9 := Tryz.isAgg9
 z9 := Tryz.sizeOf9
 v9 := Tryz.zeroValue9
 t20 := Tryz.underlying20
 a20 := Tryz.isAgg20
 z20 := Tryz.sizeOf20
 v20 := Tryz.zeroValue20
 t37 := Tryz.underlying22
 a37 := Tryz.isAgg22
 z37 := Tryz.sizeOf22
 v37 := Tryz.zeroValue22
 t70 := Tryz.underlying77
 a70 := Tryz.isAgg77
 z70 := Tryz.sizeOf77
 v70 := Tryz.zeroValue77
 t72 := Tryz.underlying79
 a72 := Tryz.isAgg79
 z72 := Tryz.sizeOf79
 v72 := Tryz.zeroValue79
 t75 := Tryz.underlying81
 a75 := Tryz.isAgg81
 z75 := Tryz.sizeOf81
 v75 := Tryz.zeroValue81
 t164 := Tryz.underlying132
 a164 := Tryz.isAgg132
 z164 := Tryz.sizeOf132
 v164 := Tryz.zeroValue132 }
def Zj6 : Go.Shelf.Ren := ⟨fun | 170 => 52 | n => n, fun | 0 => 0 | 3 => 3 | 5 => 5 | 37 => 22 | 70 => 77 | 72 => 79 | n => n, fun | n => n⟩
theorem Zpg : Go.Proofs.Lays.n170 prog Zj6 := {
 mixed := by kernel_rfl
 f170 := Tryz.func52.trans (congrArg some (by kernel_rfl))
 t0 := Tryz.underlying0
 a0 := Tryz.isAgg0
 z0 := Tryz.sizeOf0
 v0 := Tryz.zeroValue0
 t3 := Tryz.underlying3
 a3 := Tryz.isAgg3
 z3 := Tryz.sizeOf3
 v3 := Tryz.zeroValue3
 t37 := Tryz.underlying22
 a37 := Tryz.isAgg22
 z37 := Tryz.sizeOf22
 v37 := Tryz.zeroValue22
 t70 := Tryz.underlying77
 a70 := Tryz.isAgg77
 z70 := Tryz.sizeOf77
 v70 := Tryz.zeroValue77
 t72 := Tryz.underlying79
 a72 := Tryz.isAgg79
 z72 := Tryz.sizeOf79
 v72 := Tryz.zeroValue79 }
structure Zph where
  aC : Int
  aF : ByteArray
structure Zop where
  fCells : List ByteArray
  fWaits : List Zph
  ak : Bool
theorem Yx {a b : ByteArray} (h : a.data.toList = b.data.toList) : a = b := by
 cases a; cases b
 congr
 exact Array.toList_inj.1 h
theorem Zh (a : ByteArray) : a.size = a.data.toList.length := by show a.data.size = _; rw [Array.length_toList]
theorem Yd (a : ByteArray) (i j : Nat) : (a.extract i j).data.toList = (a.data.toList.drop i).take (j - i) := by
 rw [ByteArray.data_extract, Array.toList_extract, List.extract_eq_take_drop]
theorem ZC (a b : ByteArray) : (a ++ b).data.toList = a.data.toList ++ b.data.toList := by simp
theorem ZlA (a : ByteArray) (i : Nat) : a.get! i = a.data.toList.getD i 0 := by
 cases a with | mk d =>
 show d[i]! = d.toList.getD i 0;rw [List.getD_eq_getElem?_getD, Array.getElem?_toList]
 cases h : d[i]? <;> simp [getElem!_def, h] <;> rfl
def Za.zero : Za := { ac := [], aa := { ag := [], au := [] }, av := 0, ak := [], az := 0, ar := [], aA := false }
def Zcm (s : ByteArray) : Nat → Int × Int
 | 0 => (1, 0)
 | k + 1 => (((Zcm s k).1 + ((s.get! k).toNat : Int) + 1) % 9973, ((Zcm s k).2 + ((Zcm s k).1 + ((s.get! k).toNat : Int) + 1) % 9973) % 9973)
def UF (s : ByteArray) : Int := (Zcm s s.size).1 * 9973 + (Zcm s s.size).2
theorem Zjs (s : ByteArray) (k : Nat) : 0 ≤ (Zcm s k).1 ∧ (Zcm s k).1 < 9973 ∧ 0 ≤ (Zcm s k).2 ∧ (Zcm s k).2 < 9973 := by
 cases k with
 | zero => simp [Zcm]
 | succ k => unfold Zcm; dsimp only; omega
theorem ZlB (s : ByteArray) : 0 ≤ UF s ∧ UF s ≤ 99460728 := by
 have := Zjs s s.size;unfold UF; omega
theorem Zjt (s : ByteArray) (k : Nat) : (0 : Int) ≤ ((s.get! k).toNat : Int) ∧ ((s.get! k).toNat : Int) ≤ 255 := by
 have := (s.get! k).toNat_lt
 omega
def ZT (p : Nat → Bool) : Nat → Nat → Nat
 | 0, k => k
 | f + 1, k => if p k then k else ZT p f (k + 1)
theorem ZaT {p : Nat → Bool} {f k : Nat} (h : p k = true) : ZT p (f + 1) k = k := by simp [ZT, h]
theorem Zan {p : Nat → Bool} {f k : Nat} (h : p k = false) : ZT p (f + 1) k = ZT p f (k + 1) := by simp [ZT, h]
theorem Qi (p : Nat → Bool) (f k : Nat) : k ≤ ZT p f k ∧ ZT p f k ≤ k + f := by
 induction f generalizing k with
 | zero => simp [ZT]
 | succ f ih =>
  unfold ZT
  split
  ·omega
  ·have := ih (k + 1); omega
theorem ZdA (p : Nat → Bool) (f k : Nat) (h : ZT p f k < k + f) : p (ZT p f k) = true := by
 induction f generalizing k with
 | zero => simp [ZT] at h
 | succ f ih =>
  unfold ZT at h ⊢
  split
  ·assumption
  ·rename_i hp
   rw [if_neg hp] at h;exact ih (k + 1) (by omega)
theorem ZbA {p q : Nat → Bool} (f k : Nat) (h : ∀ i, k ≤ i → i < k + f → p i = q i) : ZT p f k = ZT q f k := by
 induction f generalizing k with
 | zero => rfl
 | succ f ih =>
  unfold ZT;rw [h k (Nat.le_refl _) (by omega), ih (k + 1) (fun i h1 h2 => h i (by omega) (by omega))]
theorem Zg2 {p : Nat → Bool} (n f k : Nat) (h : ∀ i, k ≤ i → i < k + n → p i = false) : ZT p (n + f) k = ZT p f (k + n) := by
 induction n generalizing k with
 | zero => simp
 | succ n ih =>
  rw [show n + 1 + f = (n + f) + 1 by omega, Zan (h k (Nat.le_refl _) (by omega)), ih (k + 1) (fun i h1 h2 => h i (by omega) (by omega)), show k + 1 + n = k + (n + 1) by omega]
def YY (at_ birth level : Int) (text : ByteArray) : PtrD := { aC := at_, al := birth, am := text.size, aB := UF text, aq := level }
def PtrD.zero : PtrD := { aC := 0, al := 0, am := 0, aB := 0, aq := 0 }
def XI (at_ birth level : Int) (text : ByteArray) : Bool := inB text.size 1 128 && (YY at_ birth level text).ok
def Xa (at_ birth level : Int) (text : ByteArray) : PtrD := if XI at_ birth level text then YY at_ birth level text else PtrD.zero
theorem Zg3 {a b l : Int} {s : ByteArray} (h : XI a b l s = false) : Xa a b l s = PtrD.zero := by unfold Xa; rw [h]; rfl
theorem Ze4 {a b l : Int} {s : ByteArray} (h : XI a b l s = true) : Xa a b l s = YY a b l s := by unfold Xa; rw [h]; rfl
def Ui (st : Za) (text : ByteArray) (i : Nat) : Bool := ((st.ac.getD i ByteArray.empty).toList == text.toList) && decide (st.aa.au.getD i 0 < st.av) && decide (st.aa.ag.getD i 0 < st.av)
def Zf3 (k : Nat) : Int := if k < 64 then (k : Int) else -1
def ZaF (st : Za) (text : ByteArray) : Int := Zf3 (ZT (Ui st text) 56 8)
def VL (s : Zq) (i : Nat) : Bool := s.ag.getD i 0 == 0
def Uj (s : Zq) : Int := Zf3 (ZT (VL s) 56 8)
theorem Zju {k : Nat} (h : k < 64) : Zf3 k = k := by simp [Zf3, h]
theorem Zcn {p : Nat → Bool} {k : Nat} (hk : k < 64) (hp : p k = false) {n : Nat} (h : ZT p 56 8 = n) (hn : n = ZT p (64 - k) k) : ZT p 56 8 = ZT p (64 - (k + 1)) (k + 1) := by
 rw [h, hn, show 64 - k = (64 - (k + 1)) + 1 by omega, Zan hp]
theorem Zj7 {p : Nat → Bool} {k : Nat} (hk : k < 64) (hp : p k = true) (h : ZT p 56 8 = ZT p (64 - k) k) : ZT p 56 8 = k := by
 rw [h, show 64 - k = (63 - k) + 1 by omega, ZaT hp]
theorem ZlC {p : Nat → Bool} {k : Nat} (hk : k = 64) (h : ZT p 56 8 = ZT p (64 - k) k) : ZT p 56 8 = 64 := by
 rw [h, hk]; rfl
def inL (xs : List Int) (n : Int) : Bool := xs.any (· == n)
theorem ZlD {xs : List Int} {k : Nat} {n : Int} (hk : k < xs.length) (h : (xs.getD k 0 == n) = true) : inL xs n = true := by
 unfold inL;rw [List.any_eq_true];refine ⟨xs[k], List.getElem_mem hk, ?_⟩
 simpa [List.getD, hk] using h
theorem ZlE {xs : List Int} {k : Nat} {n : Int} (hk : k < xs.length) (h : (xs.getD k 0 == n) = false) (hp : (xs.take k).any (· == n) = false) : (xs.take (k + 1)).any (· == n) = false := by
 rw [List.take_succ_eq_append_getElem hk, List.any_append, hp]
 simpa [List.getD, hk] using h
theorem Znj {xs : List Int} {k : Nat} {n : Int} (hk : ¬ k < xs.length) (hp : (xs.take k).any (· == n) = false) : inL xs n = false := by
 rw [List.take_of_length_le (by omega)] at hp; exact hp
def ZaG (st : Za) (text : ByteArray) (i : Nat) : Bool := decide (0 < st.aa.ag.getD i 0) && ((st.ac.getD i ByteArray.empty).toList == text.toList) && decide (st.aa.au.getD i 0 < st.av) && decide (st.aa.ag.getD i 0 < st.av)
def ZbB (st : Za) (i : Nat) : Bool := !decide (0 < st.aa.ag.getD i 0)
def Jq (st : Za) (text : ByteArray) (level : Int) : Nat := if st.aA && (level == 0) then ZT (ZaG st text) 64 0 else 64
def writeAt (st : Za) (text : ByteArray) (level : Int) : Nat := if Jq st text level < 64 then Jq st text level else ZT (ZbB st) 56 8
def Za.putAt (st : Za) (i : Nat) (rows : List ByteArray) : Za := { st with ac := rows, aa := { ag := st.aa.ag.set i (st.aa.ag.getD i 0 + 1), au := st.aa.au.set i st.av } }
end Go.Proofs.YtfhdmfcfcgbgeaaGreatDoor
