/- A part of the proof in YtoaopmkbfifhaaaGreatDoorIwLZ29. -/
import Derived.BigQuiet
import Derived.Deep.QuietTactic
import Derived.Deep.RegionWith
import Derived.StillTailTactics
import Derived.Test.YtoaopmkbfifhaaaGreatDoorRows
import Derived.Test.YtoaopmkbfifhaaaGreatDoorIwLZ1
/- The laws' helpers over pointers. -/
namespace Go.Proofs.YtoaopmkbfifhaaaGreatDoor
set_option linter.unusedVariables false
set_option linter.unusedSimpArgs false
set_option maxHeartbeats 1000000
set_option maxRecDepth 100000
open Go.RowKit

structure PtrD where
  fAt : Int
  fBirth : Int
  fSize : Int
  fSum : Int
  fLevel : Int
def PtrD.cells (x : PtrD) : List Value := [.int .i64 x.fAt, .int .i64 x.fBirth, .int .i64 x.fSize, .int .i64 x.fSum, .int .i64 x.fLevel]
theorem PtrD.cells_len (x : PtrD) : x.cells.length = 5 := rfl
theorem PtrD.at_ {w : World} {b o : Nat} {x : PtrD} (h : w.rangeAt b o x.cells) :
    w.cell? ⟨b, o, none⟩ = some (.int .i64 x.fAt) ∧ w.cell? ⟨b, o + 1, none⟩ = some (.int .i64 x.fBirth) ∧ w.cell? ⟨b, o + 2, none⟩ = some (.int .i64 x.fSize) ∧ w.cell? ⟨b, o + 3, none⟩ = some (.int .i64 x.fSum) ∧ w.cell? ⟨b, o + 4, none⟩ = some (.int .i64 x.fLevel) :=
  ⟨h 0 _ rfl, h 1 _ rfl, h 2 _ rfl, h 3 _ rfl, h 4 _ rfl⟩

end Go.Proofs.YtoaopmkbfifhaaaGreatDoor

/- Tests of numbers, rows, pointers: of the reference and of the program. -/
namespace Go.Proofs.YtoaopmkbfifhaaaGreatDoor
set_option linter.unusedVariables false
set_option linter.unusedSimpArgs false
set_option maxHeartbeats 1000000
set_option maxRecDepth 100000
open Go.RowKit

/-- A number lies between two. -/
def inB (n lo hi : Int) : Bool := decide (lo ≤ n) && decide (n ≤ hi)
theorem inB_true {n lo hi : Int} (h : inB n lo hi = true) : lo ≤ n ∧ n ≤ hi := by simpa [inB] using h
theorem l6In_any (a b c : Int) (w : World) :
    Calls Tryz.prog 61 #[.int .i64 a, .int .i64 b, .int .i64 c] w fun e w' => e = .returned (.bool (inB a b c)) ∧ w = w' := by
  by_cases h1 : b ≤ a
  · have H : Hid (inB a b c = decide (a ≤ c)) := by show _ = _; simp [inB, h1]
    go_enter Tryz.func61, Tryz.ntmps61
    go_wp2
    all_goals (go_ret; exact ⟨ret_bool H.out.symm, rfl⟩)
  · have H : Hid (inB a b c = false) := by show _ = _; simp [inB, h1]
    go_enter Tryz.func61, Tryz.ntmps61
    go_wp2
    all_goals (go_ret; exact ⟨ret_bool H.out.symm, rfl⟩)

theorem within_any (a b c : Int) (w : World) :
    Calls Tryz.prog 52 #[.int .i64 a, .int .i64 b, .int .i64 c] w fun e w' => e = .returned (.bool (inB a b c)) ∧ w = w' := by
  by_cases h1 : b ≤ a
  · have H : Hid (inB a b c = decide (a ≤ c)) := by show _ = _; simp [inB, h1]
    go_enter Tryz.func52, Tryz.ntmps52
    go_wp2
    all_goals (go_ret; exact ⟨ret_bool H.out.symm, rfl⟩)
  · have H : Hid (inB a b c = false) := by show _ = _; simp [inB, h1]
    go_enter Tryz.func52, Tryz.ntmps52
    go_wp2
    all_goals (go_ret; exact ⟨ret_bool H.out.symm, rfl⟩)

/-- The zero pointer. -/
def PtrD.hole (p : PtrD) : Bool := p.fAt == 0 && p.fBirth == 0 && p.fSize == 0 && p.fSum == 0 && p.fLevel == 0
def PtrD.ok (p : PtrD) : Bool := p.hole || inB p.fAt 8 63 && inB p.fBirth 1 900 && inB p.fSize 1 128 && inB p.fSum 0 99460728 && inB p.fLevel 0 2

end Go.Proofs.YtoaopmkbfifhaaaGreatDoor

/- The laws' helpers over slices of numbers and of strings. -/
namespace Go.Proofs.YtoaopmkbfifhaaaGreatDoor
set_option linter.unusedVariables false
set_option linter.unusedSimpArgs false
set_option maxHeartbeats 1000000
set_option maxRecDepth 100000
open Go.RowKit

theorem Tryz.infoStringS : (Tryz.prog.info? 9).map (fun i => (i.zero, i.size, i.bytes)) = some (some (.string ByteArray.empty), 1, 16) := by kernel_rfl
end Go.Proofs.YtoaopmkbfifhaaaGreatDoor

/- The laws' helpers over space. -/
namespace Go.Proofs.YtoaopmkbfifhaaaGreatDoor
set_option linter.unusedVariables false
set_option linter.unusedSimpArgs false
set_option maxHeartbeats 1000000
set_option maxRecDepth 100000
open Go.RowKit

structure SpaceD where
  fRefs : List Int
  fLast : List Int
def SpaceD.Reads (w : World) (v : Value) (x : SpaceD) : Prop := ∃ (a0 : Option Addr) (c0 : Nat) (a1 : Option Addr) (c1 : Nat), v = .agg #[.slice a0 x.fRefs.length c0, .slice a1 x.fLast.length c1] ∧ Rd encI 1 w a0 x.fRefs.length x.fRefs ∧ Rd encI 1 w a1 x.fLast.length x.fLast
def SpaceD.Own (w : World) (B B1 : Nat) (v : Value) (x : SpaceD) : Prop := ∃ (a0 : Option Addr) (c0 : Nat) (a1 : Option Addr) (c1 : Nat), v = .agg #[.slice a0 x.fRefs.length c0, .slice a1 x.fLast.length c1] ∧ RowO encI 1 3 w B B1 (.slice a0 x.fRefs.length c0) x.fRefs ∧ RowO encI 1 3 w B B1 (.slice a1 x.fLast.length c1) x.fLast ∧ Apart (.slice a0 x.fRefs.length c0) (.slice a1 x.fLast.length c1)
theorem SpaceD.Reads.below {w w' : World} {v : Value} {x : SpaceD} (h : SpaceD.Reads w v x) (hb : Below w.heap.size w w') : SpaceD.Reads w' v x := by
  obtain ⟨a0, c0, a1, c1, rfl, r0, r1⟩ := h
  exact ⟨a0, c0, a1, c1, rfl, r0.below hb, r1.below hb⟩
theorem SpaceD.Own.rd {w : World} {B B1 : Nat} {v : Value} {x : SpaceD} (h : SpaceD.Own w B B1 v x) : SpaceD.Reads w v x := by
  obtain ⟨a0, c0, a1, c1, rfl, r0, r1, p0_1⟩ := h
  obtain ⟨u0, e0, k0, d0⟩ := r0.rd encI_len
  simp only [Value.slice.injEq, true_and] at k0
  obtain ⟨rfl, rfl⟩ := k0
  obtain ⟨u1, e1, k1, d1⟩ := r1.rd encI_len
  simp only [Value.slice.injEq, true_and] at k1
  obtain ⟨rfl, rfl⟩ := k1
  exact ⟨_, _, _, _, rfl, d0, d1⟩
theorem SpaceD.Own.below {w : World} {B B1 : Nat} {v : Value} {x : SpaceD} (h : SpaceD.Own w B B1 v x) {w' : World} {C : Nat} (hb : Below C w w') (hC : w.heap.size ≤ C) : SpaceD.Own w' B B1 v x := by
  obtain ⟨a0, c0, a1, c1, rfl, r0, r1, p0_1⟩ := h
  exact ⟨a0, c0, a1, c1, rfl, r0.below hb hC, r1.below hb hC, p0_1⟩
theorem SpaceD.Own.mono {w : World} {B B1 : Nat} {v : Value} {x : SpaceD} (h : SpaceD.Own w B B1 v x) {B' B1' : Nat} (hB : B' ≤ B) (hB1 : B1 ≤ B1') : SpaceD.Own w B' B1' v x := by
  obtain ⟨a0, c0, a1, c1, rfl, r0, r1, p0_1⟩ := h
  exact ⟨a0, c0, a1, c1, rfl, r0.mono hB hB1, r1.mono hB hB1, p0_1⟩
theorem SpaceD.Own.set {w : World} {B B1 : Nat} {v : Value} {x : SpaceD} (h : SpaceD.Own w B B1 v x) {p : Addr} (hp : p.block < B) (u : Value) : SpaceD.Own (w.setCell p u) B B1 v x := by
  obtain ⟨a0, c0, a1, c1, rfl, r0, r1, p0_1⟩ := h
  exact ⟨a0, c0, a1, c1, rfl, r0.set hp u, r1.set hp u, p0_1⟩
end Go.Proofs.YtoaopmkbfifhaaaGreatDoor

/- SpaceOk: of the reference and of the program. -/
namespace Go.Proofs.YtoaopmkbfifhaaaGreatDoor
set_option linter.unusedVariables false
set_option linter.unusedSimpArgs false
set_option maxHeartbeats 1000000
set_option maxRecDepth 100000
open Go.RowKit

/-- A row's two numbers are as they may be. -/
def rowOk (i : Nat) (r l : Int) : Bool := inB l 0 900 && (inB r 0 l && ((r != 0 || l == 0) && (inB i 8 63 || decide (r ≤ 0))))
/-- The first k rows are. -/
def rowsOk (s : SpaceD) (k : Nat) : Bool := (List.range k).all fun i => rowOk i (s.fRefs.getD i 0) (s.fLast.getD i 0)
def SpaceD.ok (s : SpaceD) : Bool := s.fRefs.length == 64 && s.fLast.length == 64 && rowsOk s 64
end Go.Proofs.YtoaopmkbfifhaaaGreatDoor

/- The laws' helpers over stores. -/
namespace Go.Proofs.YtoaopmkbfifhaaaGreatDoor
set_option linter.unusedVariables false
set_option linter.unusedSimpArgs false
set_option maxHeartbeats 1000000
set_option maxRecDepth 100000
open Go.RowKit

structure StoreD where
  fRows : List ByteArray
  fSpace : SpaceD
  fTxg : Int
  fGone : List PtrD
  fKeep : Int
  fDead : List PtrD
  fSame : Bool
def StoreD.Reads (w : World) (v : Value) (x : StoreD) : Prop := ∃ (a0 : Option Addr) (c0 : Nat) (a1 : Option Addr) (c1 : Nat) (a2 : Option Addr) (c2 : Nat) (a4 : Option Addr) (c4 : Nat) (a6 : Option Addr) (c6 : Nat), v = .agg #[.slice a0 x.fRows.length c0, .slice a1 x.fSpace.fRefs.length c1, .slice a2 x.fSpace.fLast.length c2, .int .i64 x.fTxg, .slice a4 x.fGone.length c4, .int .i64 x.fKeep, .slice a6 x.fDead.length c6, .bool x.fSame] ∧ Rd encS 1 w a0 x.fRows.length x.fRows ∧ Rd encI 1 w a1 x.fSpace.fRefs.length x.fSpace.fRefs ∧ Rd encI 1 w a2 x.fSpace.fLast.length x.fSpace.fLast ∧ Rd PtrD.cells 5 w a4 x.fGone.length x.fGone ∧ Rd PtrD.cells 5 w a6 x.fDead.length x.fDead
def StoreD.Own (w : World) (B B1 : Nat) (v : Value) (x : StoreD) : Prop := ∃ (a0 : Option Addr) (c0 : Nat) (a1 : Option Addr) (c1 : Nat) (a2 : Option Addr) (c2 : Nat) (a4 : Option Addr) (c4 : Nat) (a6 : Option Addr) (c6 : Nat), v = .agg #[.slice a0 x.fRows.length c0, .slice a1 x.fSpace.fRefs.length c1, .slice a2 x.fSpace.fLast.length c2, .int .i64 x.fTxg, .slice a4 x.fGone.length c4, .int .i64 x.fKeep, .slice a6 x.fDead.length c6, .bool x.fSame] ∧ RowO encS 1 9 w B B1 (.slice a0 x.fRows.length c0) x.fRows ∧ RowO encI 1 3 w B B1 (.slice a1 x.fSpace.fRefs.length c1) x.fSpace.fRefs ∧ RowO encI 1 3 w B B1 (.slice a2 x.fSpace.fLast.length c2) x.fSpace.fLast ∧ RowO PtrD.cells 5 38 w B B1 (.slice a4 x.fGone.length c4) x.fGone ∧ RowO PtrD.cells 5 38 w B B1 (.slice a6 x.fDead.length c6) x.fDead ∧ Apart (.slice a0 x.fRows.length c0) (.slice a1 x.fSpace.fRefs.length c1) ∧ Apart (.slice a0 x.fRows.length c0) (.slice a2 x.fSpace.fLast.length c2) ∧ Apart (.slice a0 x.fRows.length c0) (.slice a4 x.fGone.length c4) ∧ Apart (.slice a0 x.fRows.length c0) (.slice a6 x.fDead.length c6) ∧ Apart (.slice a1 x.fSpace.fRefs.length c1) (.slice a2 x.fSpace.fLast.length c2) ∧ Apart (.slice a1 x.fSpace.fRefs.length c1) (.slice a4 x.fGone.length c4) ∧ Apart (.slice a1 x.fSpace.fRefs.length c1) (.slice a6 x.fDead.length c6) ∧ Apart (.slice a2 x.fSpace.fLast.length c2) (.slice a4 x.fGone.length c4) ∧ Apart (.slice a2 x.fSpace.fLast.length c2) (.slice a6 x.fDead.length c6) ∧ Apart (.slice a4 x.fGone.length c4) (.slice a6 x.fDead.length c6)
theorem StoreD.Reads.below {w w' : World} {v : Value} {x : StoreD} (h : StoreD.Reads w v x) (hb : Below w.heap.size w w') : StoreD.Reads w' v x := by
  obtain ⟨a0, c0, a1, c1, a2, c2, a4, c4, a6, c6, rfl, r0, r1, r2, r4, r6⟩ := h
  exact ⟨a0, c0, a1, c1, a2, c2, a4, c4, a6, c6, rfl, r0.below hb, r1.below hb, r2.below hb, r4.below hb, r6.below hb⟩
theorem StoreD.Own.rd {w : World} {B B1 : Nat} {v : Value} {x : StoreD} (h : StoreD.Own w B B1 v x) : StoreD.Reads w v x := by
  obtain ⟨a0, c0, a1, c1, a2, c2, a4, c4, a6, c6, rfl, r0, r1, r2, r4, r6, p0_1, p0_2, p0_4, p0_6, p1_2, p1_4, p1_6, p2_4, p2_6, p4_6⟩ := h
  obtain ⟨u0, e0, k0, d0⟩ := r0.rd encS_len
  simp only [Value.slice.injEq, true_and] at k0
  obtain ⟨rfl, rfl⟩ := k0
  obtain ⟨u1, e1, k1, d1⟩ := r1.rd encI_len
  simp only [Value.slice.injEq, true_and] at k1
  obtain ⟨rfl, rfl⟩ := k1
  obtain ⟨u2, e2, k2, d2⟩ := r2.rd encI_len
  simp only [Value.slice.injEq, true_and] at k2
  obtain ⟨rfl, rfl⟩ := k2
  obtain ⟨u4, e4, k4, d4⟩ := r4.rd PtrD.cells_len
  simp only [Value.slice.injEq, true_and] at k4
  obtain ⟨rfl, rfl⟩ := k4
  obtain ⟨u6, e6, k6, d6⟩ := r6.rd PtrD.cells_len
  simp only [Value.slice.injEq, true_and] at k6
  obtain ⟨rfl, rfl⟩ := k6
  exact ⟨_, _, _, _, _, _, _, _, _, _, rfl, d0, d1, d2, d4, d6⟩
theorem StoreD.Own.below {w : World} {B B1 : Nat} {v : Value} {x : StoreD} (h : StoreD.Own w B B1 v x) {w' : World} {C : Nat} (hb : Below C w w') (hC : w.heap.size ≤ C) : StoreD.Own w' B B1 v x := by
  obtain ⟨a0, c0, a1, c1, a2, c2, a4, c4, a6, c6, rfl, r0, r1, r2, r4, r6, p0_1, p0_2, p0_4, p0_6, p1_2, p1_4, p1_6, p2_4, p2_6, p4_6⟩ := h
  exact ⟨a0, c0, a1, c1, a2, c2, a4, c4, a6, c6, rfl, r0.below hb hC, r1.below hb hC, r2.below hb hC, r4.below hb hC, r6.below hb hC, p0_1, p0_2, p0_4, p0_6, p1_2, p1_4, p1_6, p2_4, p2_6, p4_6⟩
theorem StoreD.Own.mono {w : World} {B B1 : Nat} {v : Value} {x : StoreD} (h : StoreD.Own w B B1 v x) {B' B1' : Nat} (hB : B' ≤ B) (hB1 : B1 ≤ B1') : StoreD.Own w B' B1' v x := by
  obtain ⟨a0, c0, a1, c1, a2, c2, a4, c4, a6, c6, rfl, r0, r1, r2, r4, r6, p0_1, p0_2, p0_4, p0_6, p1_2, p1_4, p1_6, p2_4, p2_6, p4_6⟩ := h
  exact ⟨a0, c0, a1, c1, a2, c2, a4, c4, a6, c6, rfl, r0.mono hB hB1, r1.mono hB hB1, r2.mono hB hB1, r4.mono hB hB1, r6.mono hB hB1, p0_1, p0_2, p0_4, p0_6, p1_2, p1_4, p1_6, p2_4, p2_6, p4_6⟩
theorem StoreD.Own.set {w : World} {B B1 : Nat} {v : Value} {x : StoreD} (h : StoreD.Own w B B1 v x) {p : Addr} (hp : p.block < B) (u : Value) : StoreD.Own (w.setCell p u) B B1 v x := by
  obtain ⟨a0, c0, a1, c1, a2, c2, a4, c4, a6, c6, rfl, r0, r1, r2, r4, r6, p0_1, p0_2, p0_4, p0_6, p1_2, p1_4, p1_6, p2_4, p2_6, p4_6⟩ := h
  exact ⟨a0, c0, a1, c1, a2, c2, a4, c4, a6, c6, rfl, r0.set hp u, r1.set hp u, r2.set hp u, r4.set hp u, r6.set hp u, p0_1, p0_2, p0_4, p0_6, p1_2, p1_4, p1_6, p2_4, p2_6, p4_6⟩
end Go.Proofs.YtoaopmkbfifhaaaGreatDoor

/- What a valid store is: plain, no program in sight but the numbers of types. -/
namespace Go.Proofs.YtoaopmkbfifhaaaGreatDoor
set_option linter.unusedVariables false
set_option linter.unusedSimpArgs false
set_option maxHeartbeats 1000000
set_option maxRecDepth 100000
open Go.RowKit

/-- How many pointers lead to a row. -/
def cnt (ps : List PtrD) (i : Nat) : Nat := (ps.filter fun p => p.fAt == (i : Int)).length
theorem cnt_snoc (ps : List PtrD) (p : PtrD) (i : Nat) : cnt (ps ++ [p]) i = cnt ps i + if p.fAt = (i : Int) then 1 else 0 := by
  unfold cnt
  rw [List.filter_append, List.length_append]
  by_cases h : p.fAt = (i : Int) <;> simp [h]
/-- A pointer that was given up. -/
def ptrIn (p : PtrD) (most : Int) : Bool := p.ok && (!p.hole && decide (p.fBirth ≤ most))
def rowSt (st : StoreD) (i : Nat) : Bool := decide ((st.fRows.getD i ByteArray.empty).size ≤ 128) && (((st.fRows.getD i ByteArray.empty).size == 0) == (st.fSpace.fRefs.getD i 0 == 0) && decide (st.fSpace.fLast.getD i 0 ≤ st.fTxg))
def rowsSt (st : StoreD) (k : Nat) : Bool := (List.range k).all fun i => rowSt st i
/-- What was given up: no more of a row than there are references. -/
def owedOk (refs : List Int) (ps : List PtrD) : Bool := (List.range 64).all fun i => decide ((cnt ps i : Int) ≤ refs.getD i 0)
def StoreD.ok (st : StoreD) : Bool :=
  st.fRows.length == 64 && (st.fSpace.ok && (inB st.fTxg 1 900 && (inB st.fKeep 0 (st.fTxg - 1) && (rowsSt st 64 &&
    (st.fGone.all (fun p => ptrIn p (st.fTxg - 1)) && (st.fDead.all (fun p => ptrIn p st.fKeep) && owedOk st.fSpace.fRefs (st.fGone ++ st.fDead)))))))

/-- The pointer at a place among those given up, and the greatest birth that it may have. -/
def outAt (st : StoreD) (j : Nat) : Option PtrD := (st.fGone ++ st.fDead)[j]?
def mostAt (st : StoreD) (j : Nat) : Int := if j < st.fGone.length then st.fTxg - 1 else st.fKeep
/-- The first j pointers given up are as they may be. -/
structure Given (st : StoreD) (j : Nat) : Prop where
  each : ∀ i p, i < j → outAt st i = some p → ptrIn p (mostAt st i) = true
  few : ∀ i, i < 64 → 0 < cnt ((st.fGone ++ st.fDead).take j) i → (cnt ((st.fGone ++ st.fDead).take j) i : Int) ≤ st.fSpace.fRefs.getD i 0
theorem Given.zero (st : StoreD) : Given st 0 := ⟨fun i p h => absurd h (Nat.not_lt_zero _), fun i hi h => by simp [cnt] at h⟩
theorem Given.succ {st : StoreD} {j : Nat} (h : Given st j) {p : PtrD} (hp : outAt st j = some p) (hin : ptrIn p (mostAt st j) = true) (a : Nat) (ha : p.fAt = (a : Int)) (hle : ((cnt ((st.fGone ++ st.fDead).take j) a + 1 : Nat) : Int) ≤ st.fSpace.fRefs.getD a 0) : Given st (j + 1) := by
  obtain ⟨hj, hpe⟩ := List.getElem?_eq_some_iff.1 hp
  have hs : (st.fGone ++ st.fDead).take (j + 1) = (st.fGone ++ st.fDead).take j ++ [p] := by rw [List.take_succ_eq_append_getElem hj, hpe]
  refine ⟨fun i q hi hq => ?_, fun i hi hc => ?_⟩
  · by_cases hij : i = j
    · subst hij
      obtain rfl := Option.some.inj (hp.symm.trans hq)
      exact hin
    · exact h.each i q (by omega) hq
  · rw [hs, cnt_snoc] at hc ⊢
    by_cases hai : p.fAt = (i : Int)
    · have : a = i := by omega
      subst this
      rw [if_pos hai]
      exact hle
    · rw [if_neg hai] at hc ⊢
      exact h.few i hi hc
theorem Given.all {st : StoreD} (h : Given st (st.fGone ++ st.fDead).length) (hr : ∀ i, i < 64 → 0 ≤ st.fSpace.fRefs.getD i 0) :
    (st.fGone.all (fun p => ptrIn p (st.fTxg - 1)) && (st.fDead.all (fun p => ptrIn p st.fKeep) && owedOk st.fSpace.fRefs (st.fGone ++ st.fDead))) = true := by
  rw [Bool.and_eq_true, Bool.and_eq_true]
  refine ⟨List.all_eq_true.2 fun p hp => ?_, List.all_eq_true.2 fun p hp => ?_, List.all_eq_true.2 fun i hi => ?_⟩
  · obtain ⟨i, hi, hpe⟩ := List.mem_iff_getElem.1 hp
    have := h.each i p (by rw [List.length_append]; omega) (by unfold outAt; rw [List.getElem?_append_left hi, List.getElem?_eq_getElem hi, hpe])
    rwa [mostAt, if_pos hi] at this
  · obtain ⟨i, hi, hpe⟩ := List.mem_iff_getElem.1 hp
    have := h.each (st.fGone.length + i) p (by rw [List.length_append]; omega) (by unfold outAt; rw [List.getElem?_append_right (by omega), Nat.add_sub_cancel_left, List.getElem?_eq_getElem hi, hpe])
    rwa [mostAt, if_neg (by omega)] at this
  · have hi' := List.mem_range.1 hi
    simp only [decide_eq_true_eq]
    by_cases hc : 0 < cnt (st.fGone ++ st.fDead) i
    · have := h.few i hi' (by rw [List.take_of_length_le (Nat.le_refl _)]; exact hc)
      rwa [List.take_of_length_le (Nat.le_refl _)] at this
    · have := hr i hi'
      omega
end Go.Proofs.YtoaopmkbfifhaaaGreatDoor
