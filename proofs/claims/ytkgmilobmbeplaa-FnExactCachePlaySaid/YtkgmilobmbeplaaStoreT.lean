/- The laws' helpers over stores. -/
import Derived.Test.YtkgmilobmbeplaaRows
import Derived.Test.YtkgmilobmbeplaaSpaceT
import Derived.StillTailTactics
import Derived.BigQuiet
import Derived.Deep.QuietTactic
import Derived.Deep.RegionWith
namespace Go.Proofs.Ytkgmilobmbeplaa
open Go.RowKit

structure StoreD where
  fRows : List ByteArray
  fSpace : SpaceD
  fTxg : Int
  fGone : List PtrD
  fKeep : Int
  fDead : List PtrD
  fSame : Bool
def StoreD.Reads (w : World) (v : Value) (x : StoreD) : Prop := ∃ (a0 : Option Addr) (c0 : Nat) (a1 : Option Addr) (c1 : Nat) (a2 : Option Addr) (c2 : Nat) (a4 : Option Addr) (c4 : Nat) (a6 : Option Addr) (c6 : Nat), v = .agg #[.slice a0 x.fRows.length c0, .slice a1 x.fSpace.fRefs.length c1, .slice a2 x.fSpace.fLast.length c2, .int .i64 x.fTxg, .slice a4 x.fGone.length c4, .int .i64 x.fKeep, .slice a6 x.fDead.length c6, .bool x.fSame] ∧ Rd encS 1 w a0 x.fRows.length x.fRows ∧ Rd encI 1 w a1 x.fSpace.fRefs.length x.fSpace.fRefs ∧ Rd encI 1 w a2 x.fSpace.fLast.length x.fSpace.fLast ∧ Rd PtrD.cells 5 w a4 x.fGone.length x.fGone ∧ Rd PtrD.cells 5 w a6 x.fDead.length x.fDead
def StoreD.Own (w : World) (B B1 : Nat) (v : Value) (x : StoreD) : Prop := ∃ (a0 : Option Addr) (c0 : Nat) (a1 : Option Addr) (c1 : Nat) (a2 : Option Addr) (c2 : Nat) (a4 : Option Addr) (c4 : Nat) (a6 : Option Addr) (c6 : Nat), v = .agg #[.slice a0 x.fRows.length c0, .slice a1 x.fSpace.fRefs.length c1, .slice a2 x.fSpace.fLast.length c2, .int .i64 x.fTxg, .slice a4 x.fGone.length c4, .int .i64 x.fKeep, .slice a6 x.fDead.length c6, .bool x.fSame] ∧ RowO encS 1 9 w B B1 (.slice a0 x.fRows.length c0) x.fRows ∧ RowO encI 1 3 w B B1 (.slice a1 x.fSpace.fRefs.length c1) x.fSpace.fRefs ∧ RowO encI 1 3 w B B1 (.slice a2 x.fSpace.fLast.length c2) x.fSpace.fLast ∧ RowO PtrD.cells 5 78 w B B1 (.slice a4 x.fGone.length c4) x.fGone ∧ RowO PtrD.cells 5 78 w B B1 (.slice a6 x.fDead.length c6) x.fDead ∧ Apart (.slice a0 x.fRows.length c0) (.slice a1 x.fSpace.fRefs.length c1) ∧ Apart (.slice a0 x.fRows.length c0) (.slice a2 x.fSpace.fLast.length c2) ∧ Apart (.slice a0 x.fRows.length c0) (.slice a4 x.fGone.length c4) ∧ Apart (.slice a0 x.fRows.length c0) (.slice a6 x.fDead.length c6) ∧ Apart (.slice a1 x.fSpace.fRefs.length c1) (.slice a2 x.fSpace.fLast.length c2) ∧ Apart (.slice a1 x.fSpace.fRefs.length c1) (.slice a4 x.fGone.length c4) ∧ Apart (.slice a1 x.fSpace.fRefs.length c1) (.slice a6 x.fDead.length c6) ∧ Apart (.slice a2 x.fSpace.fLast.length c2) (.slice a4 x.fGone.length c4) ∧ Apart (.slice a2 x.fSpace.fLast.length c2) (.slice a6 x.fDead.length c6) ∧ Apart (.slice a4 x.fGone.length c4) (.slice a6 x.fDead.length c6)
theorem StoreD.Reads.below {w w' : World} {v : Value} {x : StoreD} (h : StoreD.Reads w v x) (hb : Below w.heap.size w w') : StoreD.Reads w' v x := by
  obtain ⟨a0, c0, a1, c1, a2, c2, a4, c4, a6, c6, rfl, r0, r1, r2, r4, r6⟩ := h
  exact ⟨a0, c0, a1, c1, a2, c2, a4, c4, a6, c6, rfl, r0.below hb, r1.below hb, r2.below hb, r4.below hb, r6.below hb⟩
theorem StoreD.Own.rd {w : World} {B B1 : Nat} {v : Value} {x : StoreD} (h : StoreD.Own w B B1 v x) : StoreD.Reads w v x := by
  obtain ⟨a0, c0, a1, c1, a2, c2, a4, c4, a6, c6, rfl, r0, r1, r2, r4, r6, p0_1, p0_2, p0_4, p0_6, p1_2, p1_4, p1_6, p2_4, p2_6, p4_6⟩ := h
  obtain ⟨u0, e0, k0, d0⟩ := r0.rd encS_len
  simp only [Value.slice.injEq, true_and] at k0
  obtain ⟨rfl, rfl⟩ := k0
  obtain ⟨u1, e1, k1, d1⟩ := r1.rd encI_len
  simp only [Value.slice.injEq, true_and] at k1
  obtain ⟨rfl, rfl⟩ := k1
  obtain ⟨u2, e2, k2, d2⟩ := r2.rd encI_len
  simp only [Value.slice.injEq, true_and] at k2
  obtain ⟨rfl, rfl⟩ := k2
  obtain ⟨u4, e4, k4, d4⟩ := r4.rd PtrD.cells_len
  simp only [Value.slice.injEq, true_and] at k4
  obtain ⟨rfl, rfl⟩ := k4
  obtain ⟨u6, e6, k6, d6⟩ := r6.rd PtrD.cells_len
  simp only [Value.slice.injEq, true_and] at k6
  obtain ⟨rfl, rfl⟩ := k6
  exact ⟨_, _, _, _, _, _, _, _, _, _, rfl, d0, d1, d2, d4, d6⟩
theorem StoreD.Own.below {w : World} {B B1 : Nat} {v : Value} {x : StoreD} (h : StoreD.Own w B B1 v x) {w' : World} {C : Nat} (hb : Below C w w') (hC : w.heap.size ≤ C) : StoreD.Own w' B B1 v x := by
  obtain ⟨a0, c0, a1, c1, a2, c2, a4, c4, a6, c6, rfl, r0, r1, r2, r4, r6, p0_1, p0_2, p0_4, p0_6, p1_2, p1_4, p1_6, p2_4, p2_6, p4_6⟩ := h
  exact ⟨a0, c0, a1, c1, a2, c2, a4, c4, a6, c6, rfl, r0.below hb hC, r1.below hb hC, r2.below hb hC, r4.below hb hC, r6.below hb hC, p0_1, p0_2, p0_4, p0_6, p1_2, p1_4, p1_6, p2_4, p2_6, p4_6⟩
theorem StoreD.Own.mono {w : World} {B B1 : Nat} {v : Value} {x : StoreD} (h : StoreD.Own w B B1 v x) {B' B1' : Nat} (hB : B' ≤ B) (hB1 : B1 ≤ B1') : StoreD.Own w B' B1' v x := by
  obtain ⟨a0, c0, a1, c1, a2, c2, a4, c4, a6, c6, rfl, r0, r1, r2, r4, r6, p0_1, p0_2, p0_4, p0_6, p1_2, p1_4, p1_6, p2_4, p2_6, p4_6⟩ := h
  exact ⟨a0, c0, a1, c1, a2, c2, a4, c4, a6, c6, rfl, r0.mono hB hB1, r1.mono hB hB1, r2.mono hB hB1, r4.mono hB hB1, r6.mono hB hB1, p0_1, p0_2, p0_4, p0_6, p1_2, p1_4, p1_6, p2_4, p2_6, p4_6⟩
theorem StoreD.Own.outside {w : World} {B B1 : Nat} {v : Value} {x : StoreD} (h : StoreD.Own w B B1 v x) {w' : World} {C C1 : Nat} (ho : Outside C C1 w w') (hap : B1 ≤ C ∨ C1 ≤ B) : StoreD.Own w' B B1 v x := by
  obtain ⟨a0, c0, a1, c1, a2, c2, a4, c4, a6, c6, rfl, r0, r1, r2, r4, r6, p0_1, p0_2, p0_4, p0_6, p1_2, p1_4, p1_6, p2_4, p2_6, p4_6⟩ := h
  exact ⟨a0, c0, a1, c1, a2, c2, a4, c4, a6, c6, rfl, r0.outside ho hap, r1.outside ho hap, r2.outside ho hap, r4.outside ho hap, r6.outside ho hap, p0_1, p0_2, p0_4, p0_6, p1_2, p1_4, p1_6, p2_4, p2_6, p4_6⟩
theorem StoreD.Own.set {w : World} {B B1 : Nat} {v : Value} {x : StoreD} (h : StoreD.Own w B B1 v x) {p : Addr} (hp : p.block < B) (u : Value) : StoreD.Own (w.setCell p u) B B1 v x := by
  obtain ⟨a0, c0, a1, c1, a2, c2, a4, c4, a6, c6, rfl, r0, r1, r2, r4, r6, p0_1, p0_2, p0_4, p0_6, p1_2, p1_4, p1_6, p2_4, p2_6, p4_6⟩ := h
  exact ⟨a0, c0, a1, c1, a2, c2, a4, c4, a6, c6, rfl, r0.set hp u, r1.set hp u, r2.set hp u, r4.set hp u, r6.set hp u, p0_1, p0_2, p0_4, p0_6, p1_2, p1_4, p1_6, p2_4, p2_6, p4_6⟩
def StoreD.bulk (x : StoreD) : Nat := (x.fRows.length + tot ByteArray.size x.fRows) + x.fSpace.fRefs.length + x.fSpace.fLast.length + x.fGone.length + x.fDead.length
structure StoreD.Small (x : StoreD) : Prop where
  s0_0 : x.fRows.length ≤ 9223372036854775807
  s0_1 : (∀ e ∈ x.fRows, e.size ≤ 9223372036854775807)
  s1_0 : x.fSpace.fRefs.length ≤ 9223372036854775807
  s2_0 : x.fSpace.fLast.length ≤ 9223372036854775807
  s4_0 : x.fGone.length ≤ 9223372036854775807
  s6_0 : x.fDead.length ≤ 9223372036854775807
structure StoreD.Fit (x : StoreD) : Prop where
  f0 : x.fRows.length ≤ 1048576
  f1 : x.fSpace.fRefs.length ≤ 1048576
  f2 : x.fSpace.fLast.length ≤ 1048576
  f4 : x.fGone.length ≤ 1048576
  f6 : x.fDead.length ≤ 1048576
theorem StoreD.fit {x : StoreD} (h : x.bulk ≤ 1048576) : x.Fit := by
  unfold StoreD.bulk at h
  exact ⟨by omega, by omega, by omega, by omega, by omega⟩

set_option maxHeartbeats 400000 in
set_option maxRecDepth 100000 in
theorem szStore_any (v : Value) (x : StoreD) (l : Int) (w : World) (hl0 : 0 ≤ l) (hl1 : l ≤ 1048576) (hr : StoreD.Reads w v x) (hs : x.Small) :
    Calls Try.prog 31 #[v, .int .i64 l] w fun e w' => e = .returned (.int .i64 (leftOf l x.bulk)) ∧ Below w.heap.size w w' := by
  obtain ⟨a0, c0, a1, c1, a2, c2, a4, c4, a6, c6, rfl, r0, r1, r2, r4, r6⟩ := hr
  have hbA : Below w.heap.size w (w.alloc (.cells #[.slice a0 x.fRows.length c0, .slice a1 x.fSpace.fRefs.length c1, .slice a2 x.fSpace.fLast.length c2, .int .i64 x.fTxg, .slice a4 x.fGone.length c4, .int .i64 x.fKeep, .slice a6 x.fDead.length c6, .bool x.fSame] 63)) := (Below.refl _ _).alloc (Nat.le_refl _) _
  have hA0 := blk_new w (.cells #[.slice a0 x.fRows.length c0, .slice a1 x.fSpace.fRefs.length c1, .slice a2 x.fSpace.fLast.length c2, .int .i64 x.fTxg, .slice a4 x.fGone.length c4, .int .i64 x.fKeep, .slice a6 x.fDead.length c6, .bool x.fSame] 63) _ rfl
  obtain ⟨t0, ht0⟩ : ∃ t : Nat, t = (x.fRows.length + tot ByteArray.size x.fRows) := ⟨_, rfl⟩
  obtain ⟨t1, ht1⟩ : ∃ t : Nat, t = x.fSpace.bulk := ⟨_, rfl⟩
  obtain ⟨t2, ht2⟩ : ∃ t : Nat, t = x.fGone.length := ⟨_, rfl⟩
  obtain ⟨t3, ht3⟩ : ∃ t : Nat, t = x.fDead.length := ⟨_, rfl⟩
  have HB : Hid (x.bulk = t0 + t1 + t2 + t3) := by
    show x.bulk = _
    simp only [ht0, ht1, ht2, ht3]
    unfold StoreD.bulk
    simp only [SpaceD.bulk]
    omega
  have HT0 := Lib.hid ht0
  clear ht0
  have HT1 := Lib.hid ht1
  clear ht1
  have HT2 := Lib.hid ht2
  clear ht2
  have HT3 := Lib.hid ht3
  clear ht3
  go_enter Try.func31, Try.ntmps31
  go_wp2_with fail
  refine (szStringS_any _ _ _ x.fRows _ _ (by omega) (by omega) hs.s0_0 (r0.below hbA) hs.s0_1).mono ?_
  rintro e w1 ⟨rfl, b1⟩
  rw [← HT0.out]
  have hA1 := blk_below hA0 b1 (Nat.le_refl _)
  have hb1 := hbA.trans (b1.mono hbA.size)
  clear b1 hA0
  by_cases g0 : l < (t0 : Int)
  · rw [leftOf_no g0]
    go_wp2
    go_ret
    exact ⟨ret_int (by rw [HB.out, leftOf_no (by omega)]), hb1⟩
  rw [leftOf_yes (Int.not_lt.1 g0)]
  have p1 : w1.cell? ⟨w.heap.size, 1, none⟩ = some (.slice a1 x.fSpace.fRefs.length c1) := blk_cell hA1 1
  have p2 : w1.cell? ⟨w.heap.size, 2, none⟩ = some (.slice a2 x.fSpace.fLast.length c2) := blk_cell hA1 2
  go_wp2_with fail
  refine (szSpace_any _ x.fSpace _ _ (by omega) (by omega) ⟨_, _, _, _, rfl, r1.below hb1, r2.below hb1⟩ ⟨hs.s1_0, hs.s2_0⟩).mono ?_
  rintro e w2 ⟨rfl, b2⟩
  rw [← HT1.out]
  have hA2 := blk_below hA1 b2 (Nat.le_refl _)
  have hb2 := hb1.trans (b2.mono hb1.size)
  clear b2 hA1
  by_cases g1 : l - t0 < (t1 : Int)
  · rw [leftOf_no g1]
    go_wp2
    go_ret
    exact ⟨ret_int (by rw [HB.out, leftOf_no (by omega)]), hb2⟩
  rw [leftOf_yes (Int.not_lt.1 g1)]
  have p4 : w2.cell? ⟨w.heap.size, 4, none⟩ = some (.slice a4 x.fGone.length c4) := blk_cell hA2 4
  go_wp2_with fail
  refine (szPtrS_any _ _ _ _ _ (by omega) (by omega) hs.s4_0).mono ?_
  rintro e w3 ⟨rfl, b3⟩
  rw [← HT2.out]
  have hA3 := blk_below hA2 b3 (Nat.le_refl _)
  have hb3 := hb2.trans (b3.mono hb2.size)
  clear b3 hA2
  by_cases g2 : l - t0 - t1 < (t2 : Int)
  · rw [leftOf_no g2]
    go_wp2
    go_ret
    exact ⟨ret_int (by rw [HB.out, leftOf_no (by omega)]), hb3⟩
  rw [leftOf_yes (Int.not_lt.1 g2)]
  have p6 : w3.cell? ⟨w.heap.size, 6, none⟩ = some (.slice a6 x.fDead.length c6) := blk_cell hA3 6
  go_wp2_with fail
  refine (szPtrS_any _ _ _ _ _ (by omega) (by omega) hs.s6_0).mono ?_
  rintro e w4 ⟨rfl, b4⟩
  rw [← HT3.out]
  have hA4 := blk_below hA3 b4 (Nat.le_refl _)
  have hb4 := hb3.trans (b4.mono hb3.size)
  clear b4 hA3
  by_cases g3 : l - t0 - t1 - t2 < (t3 : Int)
  · rw [leftOf_no g3]
    go_wp2
    go_ret
    exact ⟨ret_int (by rw [HB.out, leftOf_no (by omega)]), hb4⟩
  rw [leftOf_yes (Int.not_lt.1 g3)]
  go_wp2
  go_ret
  exact ⟨ret_int (by rw [HB.out, leftOf_yes (by omega)]; omega), hb4⟩

set_option maxHeartbeats 400000 in
set_option maxRecDepth 100000 in
theorem toStore_any (v : Value) (x : StoreD) (w : World) (hf : x.Fit) (hr : StoreD.Reads w v x) :
    Calls Try.prog 33 #[v] w fun e w' => ∃ v', e = .returned v' ∧ StoreD.Own w' w.heap.size w'.heap.size v' x ∧ Below w.heap.size w w' := by
  obtain ⟨a0, c0, a1, c1, a2, c2, a4, c4, a6, c6, rfl, r0, r1, r2, r4, r6⟩ := hr
  go_enter Try.func33, Try.ntmps33
  go_wp2_with fail
  have hb0 : Below w.heap.size w (((w.alloc (.cells #[.slice a0 x.fRows.length c0, .slice a1 x.fSpace.fRefs.length c1, .slice a2 x.fSpace.fLast.length c2, .int .i64 x.fTxg, .slice a4 x.fGone.length c4, .int .i64 x.fKeep, .slice a6 x.fDead.length c6, .bool x.fSame] 63)).alloc (.cells #[.slice none 0 0, .slice none 0 0, .slice none 0 0, .int .i64 0, .slice none 0 0, .int .i64 0, .slice none 0 0, .bool false] 68)).alloc (.cells #[.slice none 0 0, .slice none 0 0, .slice none 0 0, .int .i64 0, .slice none 0 0, .int .i64 0, .slice none 0 0, .bool false] 68)) := (((Below.refl _ _).alloc (Nat.le_refl _) _).alloc (by simp) _).alloc (by simp; omega) _
  have hA0 : (((w.alloc (.cells #[.slice a0 x.fRows.length c0, .slice a1 x.fSpace.fRefs.length c1, .slice a2 x.fSpace.fLast.length c2, .int .i64 x.fTxg, .slice a4 x.fGone.length c4, .int .i64 x.fKeep, .slice a6 x.fDead.length c6, .bool x.fSame] 63)).alloc (.cells #[.slice none 0 0, .slice none 0 0, .slice none 0 0, .int .i64 0, .slice none 0 0, .int .i64 0, .slice none 0 0, .bool false] 68)).alloc (.cells #[.slice none 0 0, .slice none 0 0, .slice none 0 0, .int .i64 0, .slice none 0 0, .int .i64 0, .slice none 0 0, .bool false] 68)).heap[w.heap.size]? = some (.cells #[.slice a0 x.fRows.length c0, .slice a1 x.fSpace.fRefs.length c1, .slice a2 x.fSpace.fLast.length c2, .int .i64 x.fTxg, .slice a4 x.fGone.length c4, .int .i64 x.fKeep, .slice a6 x.fDead.length c6, .bool x.fSame] 63 (0, 0)) := blk_alloc (blk_alloc (blk_new w _ _ rfl) _) _
  have hR0 : (((w.alloc (.cells #[.slice a0 x.fRows.length c0, .slice a1 x.fSpace.fRefs.length c1, .slice a2 x.fSpace.fLast.length c2, .int .i64 x.fTxg, .slice a4 x.fGone.length c4, .int .i64 x.fKeep, .slice a6 x.fDead.length c6, .bool x.fSame] 63)).alloc (.cells #[.slice none 0 0, .slice none 0 0, .slice none 0 0, .int .i64 0, .slice none 0 0, .int .i64 0, .slice none 0 0, .bool false] 68)).alloc (.cells #[.slice none 0 0, .slice none 0 0, .slice none 0 0, .int .i64 0, .slice none 0 0, .int .i64 0, .slice none 0 0, .bool false] 68)).heap[w.heap.size + 1]? = some (.cells #[.slice none 0 0, .slice none 0 0, .slice none 0 0, .int .i64 0, .slice none 0 0, .int .i64 0, .slice none 0 0, .bool false] 68 (0, 0)) := blk_alloc (blk_new _ _ (w.heap.size + 1) (by simp)) _
  have hO0 : (((w.alloc (.cells #[.slice a0 x.fRows.length c0, .slice a1 x.fSpace.fRefs.length c1, .slice a2 x.fSpace.fLast.length c2, .int .i64 x.fTxg, .slice a4 x.fGone.length c4, .int .i64 x.fKeep, .slice a6 x.fDead.length c6, .bool x.fSame] 63)).alloc (.cells #[.slice none 0 0, .slice none 0 0, .slice none 0 0, .int .i64 0, .slice none 0 0, .int .i64 0, .slice none 0 0, .bool false] 68)).alloc (.cells #[.slice none 0 0, .slice none 0 0, .slice none 0 0, .int .i64 0, .slice none 0 0, .int .i64 0, .slice none 0 0, .bool false] 68)).heap[w.heap.size + 1 + 1]? = some (.cells #[.slice none 0 0, .slice none 0 0, .slice none 0 0, .int .i64 0, .slice none 0 0, .int .i64 0, .slice none 0 0, .bool false] 68 (0, 0)) := blk_new _ _ (w.heap.size + 1 + 1) (by simp)
  have hz0 : w.heap.size + 1 + 1 < (((w.alloc (.cells #[.slice a0 x.fRows.length c0, .slice a1 x.fSpace.fRefs.length c1, .slice a2 x.fSpace.fLast.length c2, .int .i64 x.fTxg, .slice a4 x.fGone.length c4, .int .i64 x.fKeep, .slice a6 x.fDead.length c6, .bool x.fSame] 63)).alloc (.cells #[.slice none 0 0, .slice none 0 0, .slice none 0 0, .int .i64 0, .slice none 0 0, .int .i64 0, .slice none 0 0, .bool false] 68)).alloc (.cells #[.slice none 0 0, .slice none 0 0, .slice none 0 0, .int .i64 0, .slice none 0 0, .int .i64 0, .slice none 0 0, .bool false] 68)).heap.size := blk_lt hO0
  refine (toStringS_any _ _ _ x.fRows _ hf.f0 (r0.below hb0)).mono ?_
  rintro e w1 ⟨rfl, on0, b1⟩
  have ro0 : RowO encS 1 9 w1 _ w1.heap.size _ x.fRows := RowO.mk on0 (fun g hg => (on0.lt g hg).2)
  try simp only [sz_alloc] at ro0
  try simp only [sz_set] at ro0
  clear on0
  have hbW := hb0
  have hb1 := hbW.trans (b1.mono hbW.size)
  have hA1 : w1.heap[w.heap.size]? = some (.cells #[.slice a0 x.fRows.length c0, .slice a1 x.fSpace.fRefs.length c1, .slice a2 x.fSpace.fLast.length c2, .int .i64 x.fTxg, .slice a4 x.fGone.length c4, .int .i64 x.fKeep, .slice a6 x.fDead.length c6, .bool x.fSame] 63 (0, 0)) := blk_below hA0 b1 (Nat.le_refl _)
  have hR1 : w1.heap[w.heap.size + 1]? = some (.cells #[.slice none 0 0, .slice none 0 0, .slice none 0 0, .int .i64 0, .slice none 0 0, .int .i64 0, .slice none 0 0, .bool false] 68 (0, 0)) := blk_below hR0 b1 (Nat.le_refl _)
  have hO1 : w1.heap[w.heap.size + 1 + 1]? = some (.cells #[.slice none 0 0, .slice none 0 0, .slice none 0 0, .int .i64 0, .slice none 0 0, .int .i64 0, .slice none 0 0, .bool false] 68 (0, 0)) := blk_below hO0 b1 (Nat.le_refl _)
  have hz1 : w.heap.size + 1 + 1 < w1.heap.size := blk_lt hO1
  have hs1 := b1.size
  try simp only [sz_alloc] at hs1
  try simp only [sz_set] at hs1
  clear b1 hbW hA0 hR0 hO0
  have pa1 : w1.cell? ⟨w.heap.size, 1, none⟩ = some (.slice a1 x.fSpace.fRefs.length c1) := blk_cell hA1 1
  have pa2 : w1.cell? ⟨w.heap.size, 2, none⟩ = some (.slice a2 x.fSpace.fLast.length c2) := blk_cell hA1 2
  have po0 : w1.cell? ⟨w.heap.size + 1 + 1, 0, none⟩ = some (.slice none 0 0) := blk_cell hO1 0
  have pf0 := blk_frozen hO1 0
  go_wp2_with fail
  refine (toSpace_any _ x.fSpace _ ⟨hf.f1, hf.f2⟩ ⟨_, _, _, _, rfl, r1.below (hb1.setCell (p := ⟨w.heap.size + 1 + 1, 0, none⟩) (by simp; try omega) (.slice (some ⟨w.heap.size + 1 + 1 + 1, 0, none⟩) x.fRows.length x.fRows.length)), r2.below (hb1.setCell (p := ⟨w.heap.size + 1 + 1, 0, none⟩) (by simp; try omega) (.slice (some ⟨w.heap.size + 1 + 1 + 1, 0, none⟩) x.fRows.length x.fRows.length))⟩).mono ?_
  rintro e w2 ⟨v2, rfl, ow2, b2⟩
  obtain ⟨x1, y1, x2, y2, rfl, ro1, ro2, ap1_2⟩ := ow2
  try simp only [sz_alloc, sz_set] at ro1 ro2
  have hbW := (hb1.setCell (p := ⟨w.heap.size + 1 + 1, 0, none⟩) (by simp; try omega) (.slice (some ⟨w.heap.size + 1 + 1 + 1, 0, none⟩) x.fRows.length x.fRows.length))
  have hb2 := hbW.trans (b2.mono hbW.size)
  have hA2 : w2.heap[w.heap.size]? = some (.cells #[.slice a0 x.fRows.length c0, .slice a1 x.fSpace.fRefs.length c1, .slice a2 x.fSpace.fLast.length c2, .int .i64 x.fTxg, .slice a4 x.fGone.length c4, .int .i64 x.fKeep, .slice a6 x.fDead.length c6, .bool x.fSame] 63 (0, 0)) := blk_below (blk_set_other hA1 (p := ⟨w.heap.size + 1 + 1, 0, none⟩) (by simp; try omega) _) b2 (Nat.le_refl _)
  have hR2 : w2.heap[w.heap.size + 1]? = some (.cells #[.slice none 0 0, .slice none 0 0, .slice none 0 0, .int .i64 0, .slice none 0 0, .int .i64 0, .slice none 0 0, .bool false] 68 (0, 0)) := blk_below (blk_set_other hR1 (p := ⟨w.heap.size + 1 + 1, 0, none⟩) (by simp; try omega) _) b2 (Nat.le_refl _)
  have hO2 : w2.heap[w.heap.size + 1 + 1]? = some (.cells #[.slice (some ⟨w.heap.size + 1 + 1 + 1, 0, none⟩) x.fRows.length x.fRows.length, .slice none 0 0, .slice none 0 0, .int .i64 0, .slice none 0 0, .int .i64 0, .slice none 0 0, .bool false] 68 (0, 0)) := blk_below (blk_set hO1 (i := 0) _) b2 (Nat.le_refl _)
  have hz2 : w.heap.size + 1 + 1 < w2.heap.size := blk_lt hO2
  have ro0 := RowO.below (ro0.set (p := ⟨w.heap.size + 1 + 1, 0, none⟩) (by simp; try omega) (.slice (some ⟨w.heap.size + 1 + 1 + 1, 0, none⟩) x.fRows.length x.fRows.length)) b2 (Nat.le_refl _)
  have hs2 := b2.size
  try simp only [sz_alloc] at hs2
  try simp only [sz_set] at hs2
  clear b2 hbW hA1 hR1 hO1
  clear pa1 pa2 po0 pf0
  have pa3 : w2.cell? ⟨w.heap.size, 3, none⟩ = some (.int .i64 x.fTxg) := blk_cell hA2 3
  have pa4 : w2.cell? ⟨w.heap.size, 4, none⟩ = some (.slice a4 x.fGone.length c4) := blk_cell hA2 4
  have po1 : w2.cell? ⟨w.heap.size + 1 + 1, 1, none⟩ = some (.slice none 0 0) := blk_cell hO2 1
  have pf1 := blk_frozen hO2 1
  have po2 : w2.cell? ⟨w.heap.size + 1 + 1, 2, none⟩ = some (.slice none 0 0) := blk_cell hO2 2
  have pf2 := blk_frozen hO2 2
  have po3 : w2.cell? ⟨w.heap.size + 1 + 1, 3, none⟩ = some (.int .i64 0) := blk_cell hO2 3
  have pf3 := blk_frozen hO2 3
  go_wp2_with fail
  refine (toPtrS_any _ _ _ x.fGone _ hf.f4 (r4.below (((hb2.setCell (p := ⟨w.heap.size + 1 + 1, 1, none⟩) (by simp; try omega) (.slice x1 x.fSpace.fRefs.length y1)).setCell (p := ⟨w.heap.size + 1 + 1, 2, none⟩) (by simp; try omega) (.slice x2 x.fSpace.fLast.length y2)).setCell (p := ⟨w.heap.size + 1 + 1, 3, none⟩) (by simp; try omega) (.int .i64 x.fTxg)))).mono ?_
  rintro e w3 ⟨rfl, on4, b3⟩
  have ro4 : RowO PtrD.cells 5 78 w3 _ w3.heap.size _ x.fGone := RowO.mk on4 (fun g hg => (on4.lt g hg).2)
  try simp only [sz_alloc] at ro4
  try simp only [sz_set] at ro4
  clear on4
  have hbW := (((hb2.setCell (p := ⟨w.heap.size + 1 + 1, 1, none⟩) (by simp; try omega) (.slice x1 x.fSpace.fRefs.length y1)).setCell (p := ⟨w.heap.size + 1 + 1, 2, none⟩) (by simp; try omega) (.slice x2 x.fSpace.fLast.length y2)).setCell (p := ⟨w.heap.size + 1 + 1, 3, none⟩) (by simp; try omega) (.int .i64 x.fTxg))
  have hb3 := hbW.trans (b3.mono hbW.size)
  have hA3 : w3.heap[w.heap.size]? = some (.cells #[.slice a0 x.fRows.length c0, .slice a1 x.fSpace.fRefs.length c1, .slice a2 x.fSpace.fLast.length c2, .int .i64 x.fTxg, .slice a4 x.fGone.length c4, .int .i64 x.fKeep, .slice a6 x.fDead.length c6, .bool x.fSame] 63 (0, 0)) := blk_below (blk_set_other (blk_set_other (blk_set_other hA2 (p := ⟨w.heap.size + 1 + 1, 1, none⟩) (by simp; try omega) _) (p := ⟨w.heap.size + 1 + 1, 2, none⟩) (by simp; try omega) _) (p := ⟨w.heap.size + 1 + 1, 3, none⟩) (by simp; try omega) _) b3 (Nat.le_refl _)
  have hR3 : w3.heap[w.heap.size + 1]? = some (.cells #[.slice none 0 0, .slice none 0 0, .slice none 0 0, .int .i64 0, .slice none 0 0, .int .i64 0, .slice none 0 0, .bool false] 68 (0, 0)) := blk_below (blk_set_other (blk_set_other (blk_set_other hR2 (p := ⟨w.heap.size + 1 + 1, 1, none⟩) (by simp; try omega) _) (p := ⟨w.heap.size + 1 + 1, 2, none⟩) (by simp; try omega) _) (p := ⟨w.heap.size + 1 + 1, 3, none⟩) (by simp; try omega) _) b3 (Nat.le_refl _)
  have hO3 : w3.heap[w.heap.size + 1 + 1]? = some (.cells #[.slice (some ⟨w.heap.size + 1 + 1 + 1, 0, none⟩) x.fRows.length x.fRows.length, .slice x1 x.fSpace.fRefs.length y1, .slice x2 x.fSpace.fLast.length y2, .int .i64 x.fTxg, .slice none 0 0, .int .i64 0, .slice none 0 0, .bool false] 68 (0, 0)) := blk_below (blk_set (blk_set (blk_set hO2 (i := 1) _) (i := 2) _) (i := 3) _) b3 (Nat.le_refl _)
  have hz3 : w.heap.size + 1 + 1 < w3.heap.size := blk_lt hO3
  have ro0 := RowO.below (((ro0.set (p := ⟨w.heap.size + 1 + 1, 1, none⟩) (by simp; try omega) (.slice x1 x.fSpace.fRefs.length y1)).set (p := ⟨w.heap.size + 1 + 1, 2, none⟩) (by simp; try omega) (.slice x2 x.fSpace.fLast.length y2)).set (p := ⟨w.heap.size + 1 + 1, 3, none⟩) (by simp; try omega) (.int .i64 x.fTxg)) b3 (Nat.le_refl _)
  have ro1 := RowO.below (((ro1.set (p := ⟨w.heap.size + 1 + 1, 1, none⟩) (by simp; try omega) (.slice x1 x.fSpace.fRefs.length y1)).set (p := ⟨w.heap.size + 1 + 1, 2, none⟩) (by simp; try omega) (.slice x2 x.fSpace.fLast.length y2)).set (p := ⟨w.heap.size + 1 + 1, 3, none⟩) (by simp; try omega) (.int .i64 x.fTxg)) b3 (Nat.le_refl _)
  have ro2 := RowO.below (((ro2.set (p := ⟨w.heap.size + 1 + 1, 1, none⟩) (by simp; try omega) (.slice x1 x.fSpace.fRefs.length y1)).set (p := ⟨w.heap.size + 1 + 1, 2, none⟩) (by simp; try omega) (.slice x2 x.fSpace.fLast.length y2)).set (p := ⟨w.heap.size + 1 + 1, 3, none⟩) (by simp; try omega) (.int .i64 x.fTxg)) b3 (Nat.le_refl _)
  have hs3 := b3.size
  try simp only [sz_alloc] at hs3
  try simp only [sz_set] at hs3
  clear b3 hbW hA2 hR2 hO2
  clear pa3 pa4 po1 pf1 po2 pf2 po3 pf3
  have pa5 : w3.cell? ⟨w.heap.size, 5, none⟩ = some (.int .i64 x.fKeep) := blk_cell hA3 5
  have pa6 : w3.cell? ⟨w.heap.size, 6, none⟩ = some (.slice a6 x.fDead.length c6) := blk_cell hA3 6
  have po4 : w3.cell? ⟨w.heap.size + 1 + 1, 4, none⟩ = some (.slice none 0 0) := blk_cell hO3 4
  have pf4 := blk_frozen hO3 4
  have po5 : w3.cell? ⟨w.heap.size + 1 + 1, 5, none⟩ = some (.int .i64 0) := blk_cell hO3 5
  have pf5 := blk_frozen hO3 5
  go_wp2_with fail
  refine (toPtrS_any _ _ _ x.fDead _ hf.f6 (r6.below ((hb3.setCell (p := ⟨w.heap.size + 1 + 1, 4, none⟩) (by simp; try omega) (.slice (some ⟨w2.heap.size, 0, none⟩) x.fGone.length x.fGone.length)).setCell (p := ⟨w.heap.size + 1 + 1, 5, none⟩) (by simp; try omega) (.int .i64 x.fKeep)))).mono ?_
  rintro e w4 ⟨rfl, on6, b4⟩
  have ro6 : RowO PtrD.cells 5 78 w4 _ w4.heap.size _ x.fDead := RowO.mk on6 (fun g hg => (on6.lt g hg).2)
  try simp only [sz_alloc] at ro6
  try simp only [sz_set] at ro6
  clear on6
  have hbW := ((hb3.setCell (p := ⟨w.heap.size + 1 + 1, 4, none⟩) (by simp; try omega) (.slice (some ⟨w2.heap.size, 0, none⟩) x.fGone.length x.fGone.length)).setCell (p := ⟨w.heap.size + 1 + 1, 5, none⟩) (by simp; try omega) (.int .i64 x.fKeep))
  have hb4 := hbW.trans (b4.mono hbW.size)
  have hA4 : w4.heap[w.heap.size]? = some (.cells #[.slice a0 x.fRows.length c0, .slice a1 x.fSpace.fRefs.length c1, .slice a2 x.fSpace.fLast.length c2, .int .i64 x.fTxg, .slice a4 x.fGone.length c4, .int .i64 x.fKeep, .slice a6 x.fDead.length c6, .bool x.fSame] 63 (0, 0)) := blk_below (blk_set_other (blk_set_other hA3 (p := ⟨w.heap.size + 1 + 1, 4, none⟩) (by simp; try omega) _) (p := ⟨w.heap.size + 1 + 1, 5, none⟩) (by simp; try omega) _) b4 (Nat.le_refl _)
  have hR4 : w4.heap[w.heap.size + 1]? = some (.cells #[.slice none 0 0, .slice none 0 0, .slice none 0 0, .int .i64 0, .slice none 0 0, .int .i64 0, .slice none 0 0, .bool false] 68 (0, 0)) := blk_below (blk_set_other (blk_set_other hR3 (p := ⟨w.heap.size + 1 + 1, 4, none⟩) (by simp; try omega) _) (p := ⟨w.heap.size + 1 + 1, 5, none⟩) (by simp; try omega) _) b4 (Nat.le_refl _)
  have hO4 : w4.heap[w.heap.size + 1 + 1]? = some (.cells #[.slice (some ⟨w.heap.size + 1 + 1 + 1, 0, none⟩) x.fRows.length x.fRows.length, .slice x1 x.fSpace.fRefs.length y1, .slice x2 x.fSpace.fLast.length y2, .int .i64 x.fTxg, .slice (some ⟨w2.heap.size, 0, none⟩) x.fGone.length x.fGone.length, .int .i64 x.fKeep, .slice none 0 0, .bool false] 68 (0, 0)) := blk_below (blk_set (blk_set hO3 (i := 4) _) (i := 5) _) b4 (Nat.le_refl _)
  have hz4 : w.heap.size + 1 + 1 < w4.heap.size := blk_lt hO4
  have ro0 := RowO.below ((ro0.set (p := ⟨w.heap.size + 1 + 1, 4, none⟩) (by simp; try omega) (.slice (some ⟨w2.heap.size, 0, none⟩) x.fGone.length x.fGone.length)).set (p := ⟨w.heap.size + 1 + 1, 5, none⟩) (by simp; try omega) (.int .i64 x.fKeep)) b4 (Nat.le_refl _)
  have ro1 := RowO.below ((ro1.set (p := ⟨w.heap.size + 1 + 1, 4, none⟩) (by simp; try omega) (.slice (some ⟨w2.heap.size, 0, none⟩) x.fGone.length x.fGone.length)).set (p := ⟨w.heap.size + 1 + 1, 5, none⟩) (by simp; try omega) (.int .i64 x.fKeep)) b4 (Nat.le_refl _)
  have ro2 := RowO.below ((ro2.set (p := ⟨w.heap.size + 1 + 1, 4, none⟩) (by simp; try omega) (.slice (some ⟨w2.heap.size, 0, none⟩) x.fGone.length x.fGone.length)).set (p := ⟨w.heap.size + 1 + 1, 5, none⟩) (by simp; try omega) (.int .i64 x.fKeep)) b4 (Nat.le_refl _)
  have ro4 := RowO.below ((ro4.set (p := ⟨w.heap.size + 1 + 1, 4, none⟩) (by simp; try omega) (.slice (some ⟨w2.heap.size, 0, none⟩) x.fGone.length x.fGone.length)).set (p := ⟨w.heap.size + 1 + 1, 5, none⟩) (by simp; try omega) (.int .i64 x.fKeep)) b4 (Nat.le_refl _)
  have hs4 := b4.size
  try simp only [sz_alloc] at hs4
  try simp only [sz_set] at hs4
  clear b4 hbW hA3 hR3 hO3
  clear pa5 pa6 po4 pf4 po5 pf5
  have pa7 : w4.cell? ⟨w.heap.size, 7, none⟩ = some (.bool x.fSame) := blk_cell hA4 7
  have po0 : w4.cell? ⟨w.heap.size + 1 + 1, 0, none⟩ = some (.slice (some ⟨w.heap.size + 1 + 1 + 1, 0, none⟩) x.fRows.length x.fRows.length) := blk_cell hO4 0
  have pf0 := blk_frozen hO4 0
  have po1 : w4.cell? ⟨w.heap.size + 1 + 1, 1, none⟩ = some (.slice x1 x.fSpace.fRefs.length y1) := blk_cell hO4 1
  have pf1 := blk_frozen hO4 1
  have po2 : w4.cell? ⟨w.heap.size + 1 + 1, 2, none⟩ = some (.slice x2 x.fSpace.fLast.length y2) := blk_cell hO4 2
  have pf2 := blk_frozen hO4 2
  have po3 : w4.cell? ⟨w.heap.size + 1 + 1, 3, none⟩ = some (.int .i64 x.fTxg) := blk_cell hO4 3
  have pf3 := blk_frozen hO4 3
  have po4 : w4.cell? ⟨w.heap.size + 1 + 1, 4, none⟩ = some (.slice (some ⟨w2.heap.size, 0, none⟩) x.fGone.length x.fGone.length) := blk_cell hO4 4
  have pf4 := blk_frozen hO4 4
  have po5 : w4.cell? ⟨w.heap.size + 1 + 1, 5, none⟩ = some (.int .i64 x.fKeep) := blk_cell hO4 5
  have pf5 := blk_frozen hO4 5
  have po6 : w4.cell? ⟨w.heap.size + 1 + 1, 6, none⟩ = some (.slice none 0 0) := blk_cell hO4 6
  have pf6 := blk_frozen hO4 6
  have po7 : w4.cell? ⟨w.heap.size + 1 + 1, 7, none⟩ = some (.bool false) := blk_cell hO4 7
  have pf7 := blk_frozen hO4 7
  have pr0 : w4.cell? ⟨w.heap.size + 1, 0, none⟩ = some (.slice none 0 0) := blk_cell hR4 0
  have pg0 := blk_frozen hR4 0
  have pr1 : w4.cell? ⟨w.heap.size + 1, 1, none⟩ = some (.slice none 0 0) := blk_cell hR4 1
  have pg1 := blk_frozen hR4 1
  have pr2 : w4.cell? ⟨w.heap.size + 1, 2, none⟩ = some (.slice none 0 0) := blk_cell hR4 2
  have pg2 := blk_frozen hR4 2
  have pr3 : w4.cell? ⟨w.heap.size + 1, 3, none⟩ = some (.int .i64 0) := blk_cell hR4 3
  have pg3 := blk_frozen hR4 3
  have pr4 : w4.cell? ⟨w.heap.size + 1, 4, none⟩ = some (.slice none 0 0) := blk_cell hR4 4
  have pg4 := blk_frozen hR4 4
  have pr5 : w4.cell? ⟨w.heap.size + 1, 5, none⟩ = some (.int .i64 0) := blk_cell hR4 5
  have pg5 := blk_frozen hR4 5
  have pr6 : w4.cell? ⟨w.heap.size + 1, 6, none⟩ = some (.slice none 0 0) := blk_cell hR4 6
  have pg6 := blk_frozen hR4 6
  have pr7 : w4.cell? ⟨w.heap.size + 1, 7, none⟩ = some (.bool false) := blk_cell hR4 7
  have pg7 := blk_frozen hR4 7
  go_wp2
  refine bodyPost_ret (v := .agg #[.slice (some ⟨w.heap.size + 1 + 1 + 1, 0, none⟩) x.fRows.length x.fRows.length, .slice x1 x.fSpace.fRefs.length y1, .slice x2 x.fSpace.fLast.length y2, .int .i64 x.fTxg, .slice (some ⟨w2.heap.size, 0, none⟩) x.fGone.length x.fGone.length, .int .i64 x.fKeep, .slice (some ⟨w3.heap.size, 0, none⟩) x.fDead.length x.fDead.length, .bool x.fSame]) (by simp [results, Try.results33, go_sem, pr0, pr1, pr2, pr3, pr4, pr5, pr6, pr7]) rfl ?_
  refine ⟨_, rfl, ⟨_, _, _, _, _, _, _, _, _, _, rfl, ?q0, ?q1, ?q2, ?q4, ?q6, ?q0_1, ?q0_2, ?q0_4, ?q0_6, ?q1_2, ?q1_4, ?q1_6, ?q2_4, ?q2_6, ?q4_6⟩, ?_⟩
  case q0 =>
    refine RowO.mono ((((((((((ro0.set ?_ _).set ?_ _).set ?_ _).set ?_ _).set ?_ _).set ?_ _).set ?_ _).set ?_ _).set ?_ _).set ?_ _) ?_ ?_
    all_goals (first | omega | (simp; done) | (simp; omega))
  case q1 =>
    refine RowO.mono ((((((((((ro1.set ?_ _).set ?_ _).set ?_ _).set ?_ _).set ?_ _).set ?_ _).set ?_ _).set ?_ _).set ?_ _).set ?_ _) ?_ ?_
    all_goals (first | omega | (simp; done) | (simp; omega))
  case q2 =>
    refine RowO.mono ((((((((((ro2.set ?_ _).set ?_ _).set ?_ _).set ?_ _).set ?_ _).set ?_ _).set ?_ _).set ?_ _).set ?_ _).set ?_ _) ?_ ?_
    all_goals (first | omega | (simp; done) | (simp; omega))
  case q4 =>
    refine RowO.mono ((((((((((ro4.set ?_ _).set ?_ _).set ?_ _).set ?_ _).set ?_ _).set ?_ _).set ?_ _).set ?_ _).set ?_ _).set ?_ _) ?_ ?_
    all_goals (first | omega | (simp; done) | (simp; omega))
  case q6 =>
    refine RowO.mono ((((((((((ro6.set ?_ _).set ?_ _).set ?_ _).set ?_ _).set ?_ _).set ?_ _).set ?_ _).set ?_ _).set ?_ _).set ?_ _) ?_ ?_
    all_goals (first | omega | (simp; done) | (simp; omega))
  case q0_1 => exact Apart.of_lt (m := w1.heap.size) (fun g hg => (ro0.lt g hg).2.1) (fun g hg => by have := (ro1.lt g hg).1; first | exact this | omega | (simp at this; omega))
  case q0_2 => exact Apart.of_lt (m := w1.heap.size) (fun g hg => (ro0.lt g hg).2.1) (fun g hg => by have := (ro2.lt g hg).1; first | exact this | omega | (simp at this; omega))
  case q0_4 => exact Apart.of_lt (m := w1.heap.size) (fun g hg => (ro0.lt g hg).2.1) (fun g hg => by have := (ro4.lt g hg).1; first | exact this | omega | (simp at this; omega))
  case q0_6 => exact Apart.of_lt (m := w1.heap.size) (fun g hg => (ro0.lt g hg).2.1) (fun g hg => by have := (ro6.lt g hg).1; first | exact this | omega | (simp at this; omega))
  case q1_2 => exact ap1_2
  case q1_4 => exact Apart.of_lt (m := w2.heap.size) (fun g hg => (ro1.lt g hg).2.1) (fun g hg => by have := (ro4.lt g hg).1; first | exact this | omega | (simp at this; omega))
  case q1_6 => exact Apart.of_lt (m := w2.heap.size) (fun g hg => (ro1.lt g hg).2.1) (fun g hg => by have := (ro6.lt g hg).1; first | exact this | omega | (simp at this; omega))
  case q2_4 => exact Apart.of_lt (m := w2.heap.size) (fun g hg => (ro2.lt g hg).2.1) (fun g hg => by have := (ro4.lt g hg).1; first | exact this | omega | (simp at this; omega))
  case q2_6 => exact Apart.of_lt (m := w2.heap.size) (fun g hg => (ro2.lt g hg).2.1) (fun g hg => by have := (ro6.lt g hg).1; first | exact this | omega | (simp at this; omega))
  case q4_6 => exact Apart.of_lt (m := w3.heap.size) (fun g hg => (ro4.lt g hg).2.1) (fun g hg => by have := (ro6.lt g hg).1; first | exact this | omega | (simp at this; omega))
  refine (Below.setCell (Below.setCell (Below.setCell (Below.setCell (Below.setCell (Below.setCell (Below.setCell (Below.setCell (Below.setCell (Below.setCell hb4 ?_ _) ?_ _) ?_ _) ?_ _) ?_ _) ?_ _) ?_ _) ?_ _) ?_ _) ?_ _)
  all_goals (first | omega | (simp; done) | (simp; omega))

set_option maxHeartbeats 400000 in
set_option maxRecDepth 100000 in
theorem eqStore_yes (u v : Value) (x : StoreD) (w : World) (hf : x.Fit) (hr : StoreD.Reads w u x) (hs : StoreD.Reads w v x) :
    Calls Try.prog 35 #[u, v] w fun e w' => e = .returned (.bool true) ∧ Below w.heap.size w w' := by
  obtain ⟨a0, c0, a1, c1, a2, c2, a4, c4, a6, c6, rfl, r0, r1, r2, r4, r6⟩ := hr
  obtain ⟨b0, d0, b1, d1, b2, d2, b4, d4, b6, d6, rfl, s0, s1, s2, s4, s6⟩ := hs
  have hb0 : Below w.heap.size w ((w.alloc (.cells #[.slice a0 x.fRows.length c0, .slice a1 x.fSpace.fRefs.length c1, .slice a2 x.fSpace.fLast.length c2, .int .i64 x.fTxg, .slice a4 x.fGone.length c4, .int .i64 x.fKeep, .slice a6 x.fDead.length c6, .bool x.fSame] 68)).alloc (.cells #[.slice b0 x.fRows.length d0, .slice b1 x.fSpace.fRefs.length d1, .slice b2 x.fSpace.fLast.length d2, .int .i64 x.fTxg, .slice b4 x.fGone.length d4, .int .i64 x.fKeep, .slice b6 x.fDead.length d6, .bool x.fSame] 68)) := ((Below.refl _ _).alloc (Nat.le_refl _) _).alloc (by simp) _
  have hA0 : ((w.alloc (.cells #[.slice a0 x.fRows.length c0, .slice a1 x.fSpace.fRefs.length c1, .slice a2 x.fSpace.fLast.length c2, .int .i64 x.fTxg, .slice a4 x.fGone.length c4, .int .i64 x.fKeep, .slice a6 x.fDead.length c6, .bool x.fSame] 68)).alloc (.cells #[.slice b0 x.fRows.length d0, .slice b1 x.fSpace.fRefs.length d1, .slice b2 x.fSpace.fLast.length d2, .int .i64 x.fTxg, .slice b4 x.fGone.length d4, .int .i64 x.fKeep, .slice b6 x.fDead.length d6, .bool x.fSame] 68)).heap[w.heap.size]? = some (.cells #[.slice a0 x.fRows.length c0, .slice a1 x.fSpace.fRefs.length c1, .slice a2 x.fSpace.fLast.length c2, .int .i64 x.fTxg, .slice a4 x.fGone.length c4, .int .i64 x.fKeep, .slice a6 x.fDead.length c6, .bool x.fSame] 68 (0, 0)) := blk_alloc (blk_new w _ _ rfl) _
  have hB0 : ((w.alloc (.cells #[.slice a0 x.fRows.length c0, .slice a1 x.fSpace.fRefs.length c1, .slice a2 x.fSpace.fLast.length c2, .int .i64 x.fTxg, .slice a4 x.fGone.length c4, .int .i64 x.fKeep, .slice a6 x.fDead.length c6, .bool x.fSame] 68)).alloc (.cells #[.slice b0 x.fRows.length d0, .slice b1 x.fSpace.fRefs.length d1, .slice b2 x.fSpace.fLast.length d2, .int .i64 x.fTxg, .slice b4 x.fGone.length d4, .int .i64 x.fKeep, .slice b6 x.fDead.length d6, .bool x.fSame] 68)).heap[w.heap.size + 1]? = some (.cells #[.slice b0 x.fRows.length d0, .slice b1 x.fSpace.fRefs.length d1, .slice b2 x.fSpace.fLast.length d2, .int .i64 x.fTxg, .slice b4 x.fGone.length d4, .int .i64 x.fKeep, .slice b6 x.fDead.length d6, .bool x.fSame] 68 (0, 0)) := blk_new _ _ (w.heap.size + 1) (by simp)
  go_enter Try.func35, Try.ntmps35
  go_wp2_with fail
  refine (eqStringS_yes _ _ _ _ _ x.fRows _ hf.f0 (r0.below hb0) (s0.below hb0)).mono ?_
  rintro e w1 ⟨rfl, b1⟩
  have hb1 := hb0.trans (b1.mono hb0.size)
  have hA1 := blk_below hA0 b1 (Nat.le_refl _)
  have hB1 := blk_below hB0 b1 (Nat.le_refl _)
  clear b1 hA0 hB0
  have p1 : w1.cell? ⟨w.heap.size, 1, none⟩ = some (.slice a1 x.fSpace.fRefs.length c1) := blk_cell hA1 1
  have q1 : w1.cell? ⟨w.heap.size + 1, 1, none⟩ = some (.slice b1 x.fSpace.fRefs.length d1) := blk_cell hB1 1
  have p2 : w1.cell? ⟨w.heap.size, 2, none⟩ = some (.slice a2 x.fSpace.fLast.length c2) := blk_cell hA1 2
  have q2 : w1.cell? ⟨w.heap.size + 1, 2, none⟩ = some (.slice b2 x.fSpace.fLast.length d2) := blk_cell hB1 2
  go_wp2_with fail
  refine (eqSpace_yes _ _ x.fSpace _ ⟨hf.f1, hf.f2⟩ ⟨_, _, _, _, rfl, r1.below hb1, r2.below hb1⟩ ⟨_, _, _, _, rfl, s1.below hb1, s2.below hb1⟩).mono ?_
  rintro e w2 ⟨rfl, b2⟩
  have hb2 := hb1.trans (b2.mono hb1.size)
  have hA2 := blk_below hA1 b2 (Nat.le_refl _)
  have hB2 := blk_below hB1 b2 (Nat.le_refl _)
  clear b2 hA1 hB1
  clear p1 q1 p2 q2
  have p3 : w2.cell? ⟨w.heap.size, 3, none⟩ = some (.int .i64 x.fTxg) := blk_cell hA2 3
  have q3 : w2.cell? ⟨w.heap.size + 1, 3, none⟩ = some (.int .i64 x.fTxg) := blk_cell hB2 3
  have p4 : w2.cell? ⟨w.heap.size, 4, none⟩ = some (.slice a4 x.fGone.length c4) := blk_cell hA2 4
  have q4 : w2.cell? ⟨w.heap.size + 1, 4, none⟩ = some (.slice b4 x.fGone.length d4) := blk_cell hB2 4
  go_wp2_with fail
  refine (eqPtrS_yes _ _ _ _ _ x.fGone _ hf.f4 (r4.below hb2) (s4.below hb2)).mono ?_
  rintro e w3 ⟨rfl, b3⟩
  have hb3 := hb2.trans (b3.mono hb2.size)
  have hA3 := blk_below hA2 b3 (Nat.le_refl _)
  have hB3 := blk_below hB2 b3 (Nat.le_refl _)
  clear b3 hA2 hB2
  clear p3 q3 p4 q4
  have p5 : w3.cell? ⟨w.heap.size, 5, none⟩ = some (.int .i64 x.fKeep) := blk_cell hA3 5
  have q5 : w3.cell? ⟨w.heap.size + 1, 5, none⟩ = some (.int .i64 x.fKeep) := blk_cell hB3 5
  have p6 : w3.cell? ⟨w.heap.size, 6, none⟩ = some (.slice a6 x.fDead.length c6) := blk_cell hA3 6
  have q6 : w3.cell? ⟨w.heap.size + 1, 6, none⟩ = some (.slice b6 x.fDead.length d6) := blk_cell hB3 6
  go_wp2_with fail
  refine (eqPtrS_yes _ _ _ _ _ x.fDead _ hf.f6 (r6.below hb3) (s6.below hb3)).mono ?_
  rintro e w4 ⟨rfl, b4⟩
  have hb4 := hb3.trans (b4.mono hb3.size)
  have hA4 := blk_below hA3 b4 (Nat.le_refl _)
  have hB4 := blk_below hB3 b4 (Nat.le_refl _)
  clear b4 hA3 hB3
  clear p5 q5 p6 q6
  have p7 : w4.cell? ⟨w.heap.size, 7, none⟩ = some (.bool x.fSame) := blk_cell hA4 7
  have q7 : w4.cell? ⟨w.heap.size + 1, 7, none⟩ = some (.bool x.fSame) := blk_cell hB4 7
  go_wp2
  go_ret
  exact ⟨rfl, hb4⟩

end Go.Proofs.Ytkgmilobmbeplaa
