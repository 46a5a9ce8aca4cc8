/- Marking stores. -/
import Derived.Test.YtfijfjjleelphaaRows
import Derived.Test.YtfijfjjleelphaaStoreT
import Derived.Test.YtfijfjjleelphaaSpaceM
import Derived.Test.YtfijfjjleelphaaStrM
import Derived.Test.YtfijfjjleelphaaPtrM
import Derived.StillTailTactics
import Derived.BigQuiet
import Derived.Deep.QuietTactic
import Derived.Deep.RegionWith
namespace Go.Proofs.Ytfijfjjleelphaa
open Go.RowKit

def StoreD.marked (x : StoreD) (k : Int) : StoreD := { fRows := marks markT 1 (k) x.fRows.length, fSpace := { fRefs := marks mkI 1 (k + (x.fRows.length : Int) * 1) x.fSpace.fRefs.length, fLast := marks mkI 1 (k + (x.fRows.length : Int) * 1 + (x.fSpace.fRefs.length : Int) * 1) x.fSpace.fLast.length }, fTxg := x.fTxg, fGone := marks mkPtr 5 (k + (x.fRows.length : Int) * 1 + (x.fSpace.fRefs.length : Int) * 1 + (x.fSpace.fLast.length : Int) * 1) x.fGone.length, fKeep := x.fKeep, fDead := marks mkPtr 5 (k + (x.fRows.length : Int) * 1 + (x.fSpace.fRefs.length : Int) * 1 + (x.fSpace.fLast.length : Int) * 1 + (x.fGone.length : Int) * 5) x.fDead.length, fSame := x.fSame }
def StoreD.past (x : StoreD) (k : Int) : Int := k + (x.fRows.length : Int) * 1 + (x.fSpace.fRefs.length : Int) * 1 + (x.fSpace.fLast.length : Int) * 1 + (x.fGone.length : Int) * 5 + (x.fDead.length : Int) * 5
set_option maxHeartbeats 400000 in
set_option maxRecDepth 100000 in
theorem markStore_x (a0 : Option Addr) (c0 : Nat) (a1 : Option Addr) (c1 : Nat) (a2 : Option Addr) (c2 : Nat) (a4 : Option Addr) (c4 : Nat) (a6 : Option Addr) (c6 : Nat) (x : StoreD) (B B1 : Nat) (k : Int) (w : World) (hk0 : 0 < k) (hk1 : k ≤ 1000000000) (hf : x.Fit) (r0 : RowO encS 1 9 w B B1 (.slice a0 x.fRows.length c0) x.fRows) (r1 : RowO encI 1 3 w B B1 (.slice a1 x.fSpace.fRefs.length c1) x.fSpace.fRefs) (r2 : RowO encI 1 3 w B B1 (.slice a2 x.fSpace.fLast.length c2) x.fSpace.fLast) (r4 : RowO PtrD.cells 5 33 w B B1 (.slice a4 x.fGone.length c4) x.fGone) (r6 : RowO PtrD.cells 5 33 w B B1 (.slice a6 x.fDead.length c6) x.fDead) (p0_1 : Apart (.slice a0 x.fRows.length c0) (.slice a1 x.fSpace.fRefs.length c1)) (p0_2 : Apart (.slice a0 x.fRows.length c0) (.slice a2 x.fSpace.fLast.length c2)) (p0_4 : Apart (.slice a0 x.fRows.length c0) (.slice a4 x.fGone.length c4)) (p0_6 : Apart (.slice a0 x.fRows.length c0) (.slice a6 x.fDead.length c6)) (p1_2 : Apart (.slice a1 x.fSpace.fRefs.length c1) (.slice a2 x.fSpace.fLast.length c2)) (p1_4 : Apart (.slice a1 x.fSpace.fRefs.length c1) (.slice a4 x.fGone.length c4)) (p1_6 : Apart (.slice a1 x.fSpace.fRefs.length c1) (.slice a6 x.fDead.length c6)) (p2_4 : Apart (.slice a2 x.fSpace.fLast.length c2) (.slice a4 x.fGone.length c4)) (p2_6 : Apart (.slice a2 x.fSpace.fLast.length c2) (.slice a6 x.fDead.length c6)) (p4_6 : Apart (.slice a4 x.fGone.length c4) (.slice a6 x.fDead.length c6)) (hB : B1 ≤ w.heap.size) :
    Calls Try.prog 30 #[.agg #[.slice a0 x.fRows.length c0, .slice a1 x.fSpace.fRefs.length c1, .slice a2 x.fSpace.fLast.length c2, .int .i64 x.fTxg, .slice a4 x.fGone.length c4, .int .i64 x.fKeep, .slice a6 x.fDead.length c6, .bool x.fSame], .int .i64 k] w fun e w' => e = .returned (.int .i64 (k + (x.fRows.length : Int) * 1 + (x.fSpace.fRefs.length : Int) * 1 + (x.fSpace.fLast.length : Int) * 1 + (x.fGone.length : Int) * 5 + (x.fDead.length : Int) * 5)) ∧ RowO encS 1 9 w' B B1 (.slice a0 x.fRows.length c0) (marks markT 1 (k) x.fRows.length) ∧ RowO encI 1 3 w' B B1 (.slice a1 x.fSpace.fRefs.length c1) (marks mkI 1 (k + (x.fRows.length : Int) * 1) x.fSpace.fRefs.length) ∧ RowO encI 1 3 w' B B1 (.slice a2 x.fSpace.fLast.length c2) (marks mkI 1 (k + (x.fRows.length : Int) * 1 + (x.fSpace.fRefs.length : Int) * 1) x.fSpace.fLast.length) ∧ RowO PtrD.cells 5 33 w' B B1 (.slice a4 x.fGone.length c4) (marks mkPtr 5 (k + (x.fRows.length : Int) * 1 + (x.fSpace.fRefs.length : Int) * 1 + (x.fSpace.fLast.length : Int) * 1) x.fGone.length) ∧ RowO PtrD.cells 5 33 w' B B1 (.slice a6 x.fDead.length c6) (marks mkPtr 5 (k + (x.fRows.length : Int) * 1 + (x.fSpace.fRefs.length : Int) * 1 + (x.fSpace.fLast.length : Int) * 1 + (x.fGone.length : Int) * 5) x.fDead.length) ∧ GrownAll [.slice a0 x.fRows.length c0, .slice a1 x.fSpace.fRefs.length c1, .slice a2 x.fSpace.fLast.length c2, .slice a4 x.fGone.length c4, .slice a6 x.fDead.length c6] w w' := by
  have hO0 : GrownAll [.slice a0 x.fRows.length c0, .slice a1 x.fSpace.fRefs.length c1, .slice a2 x.fSpace.fLast.length c2, .slice a4 x.fGone.length c4, .slice a6 x.fDead.length c6] w (w.alloc (.cells #[.slice a0 x.fRows.length c0, .slice a1 x.fSpace.fRefs.length c1, .slice a2 x.fSpace.fLast.length c2, .int .i64 x.fTxg, .slice a4 x.fGone.length c4, .int .i64 x.fKeep, .slice a6 x.fDead.length c6, .bool x.fSame] 65)) := GrownAll.alloc _ _ _
  have hne0 : Value.rowBlock (.slice a0 x.fRows.length c0) ≠ some w.heap.size := fun e => by have := (r0.lt _ e).2.1; omega
  have hne1 : Value.rowBlock (.slice a1 x.fSpace.fRefs.length c1) ≠ some w.heap.size := fun e => by have := (r1.lt _ e).2.1; omega
  have hne2 : Value.rowBlock (.slice a2 x.fSpace.fLast.length c2) ≠ some w.heap.size := fun e => by have := (r2.lt _ e).2.1; omega
  have hne4 : Value.rowBlock (.slice a4 x.fGone.length c4) ≠ some w.heap.size := fun e => by have := (r4.lt _ e).2.1; omega
  have hne6 : Value.rowBlock (.slice a6 x.fDead.length c6) ≠ some w.heap.size := fun e => by have := (r6.lt _ e).2.1; omega
  have hA0 := blk_new w (.cells #[.slice a0 x.fRows.length c0, .slice a1 x.fSpace.fRefs.length c1, .slice a2 x.fSpace.fLast.length c2, .int .i64 x.fTxg, .slice a4 x.fGone.length c4, .int .i64 x.fKeep, .slice a6 x.fDead.length c6, .bool x.fSame] 65) _ rfl
  have r0 := r0.below ((Below.refl w.heap.size w).alloc (Nat.le_refl _) (.cells #[.slice a0 x.fRows.length c0, .slice a1 x.fSpace.fRefs.length c1, .slice a2 x.fSpace.fLast.length c2, .int .i64 x.fTxg, .slice a4 x.fGone.length c4, .int .i64 x.fKeep, .slice a6 x.fDead.length c6, .bool x.fSame] 65)) (Nat.le_refl _)
  have r1 := r1.below ((Below.refl w.heap.size w).alloc (Nat.le_refl _) (.cells #[.slice a0 x.fRows.length c0, .slice a1 x.fSpace.fRefs.length c1, .slice a2 x.fSpace.fLast.length c2, .int .i64 x.fTxg, .slice a4 x.fGone.length c4, .int .i64 x.fKeep, .slice a6 x.fDead.length c6, .bool x.fSame] 65)) (Nat.le_refl _)
  have r2 := r2.below ((Below.refl w.heap.size w).alloc (Nat.le_refl _) (.cells #[.slice a0 x.fRows.length c0, .slice a1 x.fSpace.fRefs.length c1, .slice a2 x.fSpace.fLast.length c2, .int .i64 x.fTxg, .slice a4 x.fGone.length c4, .int .i64 x.fKeep, .slice a6 x.fDead.length c6, .bool x.fSame] 65)) (Nat.le_refl _)
  have r4 := r4.below ((Below.refl w.heap.size w).alloc (Nat.le_refl _) (.cells #[.slice a0 x.fRows.length c0, .slice a1 x.fSpace.fRefs.length c1, .slice a2 x.fSpace.fLast.length c2, .int .i64 x.fTxg, .slice a4 x.fGone.length c4, .int .i64 x.fKeep, .slice a6 x.fDead.length c6, .bool x.fSame] 65)) (Nat.le_refl _)
  have r6 := r6.below ((Below.refl w.heap.size w).alloc (Nat.le_refl _) (.cells #[.slice a0 x.fRows.length c0, .slice a1 x.fSpace.fRefs.length c1, .slice a2 x.fSpace.fLast.length c2, .int .i64 x.fTxg, .slice a4 x.fGone.length c4, .int .i64 x.fKeep, .slice a6 x.fDead.length c6, .bool x.fSame] 65)) (Nat.le_refl _)
  go_enter Try.func30, Try.ntmps30
  go_wp2_with fail
  obtain ⟨k1, hk1⟩ : ∃ z : Int, z = k + (x.fRows.length : Int) * 1 := ⟨_, rfl⟩
  have hbk1 : 0 < k1 ∧ k1 ≤ k + 10000000 := by
    rw [hk1]
    have := hf.f0
    omega
  have Hk1 := Lib.hid hk1
  clear hk1
  obtain ⟨hbk1a, hbk1b⟩ := hbk1
  refine (markStringS_r _ _ _ _ _ _ _ (by omega) (by omega) hf.f0 r0).mono ?_
  rintro e w1 ⟨rfl, on0, hg1⟩
  have hq1 := GrownAll.one hg1
  have r1 := r1.grown hg1 (p0_1).symm
  have r2 := r2.grown hg1 (p0_2).symm
  have r4 := r4.grown hg1 (p0_4).symm
  have r6 := r6.grown hg1 (p0_6).symm
  clear r0
  have r0 := on0
  clear on0 hg1
  have hA1 := blk_all hA0 hq1 (all1 hne0)
  have hO1 := hO0.trans (hq1.mono (by simp))
  clear hq1 hA0 hO0
  rw [← Hk1.out]
  have pa1 : w1.cell? ⟨w.heap.size, 1, none⟩ = some (.slice a1 x.fSpace.fRefs.length c1) := blk_cell hA1 1
  have pa2 : w1.cell? ⟨w.heap.size, 2, none⟩ = some (.slice a2 x.fSpace.fLast.length c2) := blk_cell hA1 2
  go_wp2_with fail
  obtain ⟨k2, hk2⟩ : ∃ z : Int, z = k1 + (x.fSpace.fRefs.length : Int) * 1 + (x.fSpace.fLast.length : Int) * 1 := ⟨_, rfl⟩
  have hbk2 : 0 < k2 ∧ k2 ≤ k1 + 20000000 := by
    rw [hk2]
    have := hf.f1
    have := hf.f2
    omega
  have Hk2 := Lib.hid hk2
  clear hk2
  obtain ⟨hbk2a, hbk2b⟩ := hbk2
  refine (markSpace_x _ _ _ _ x.fSpace B B1 _ _ (by omega) (by omega) ⟨hf.f1, hf.f2⟩ r1 r2 p1_2 ?_).mono ?_
  · have := hO1.size; omega
  rintro e w2 ⟨rfl, rn1, rn2, hq2⟩
  have r0 := r0.all hq2 (all2 p0_1 p0_2)
  have r4 := r4.all hq2 (all2 (p1_4).symm (p2_4).symm)
  have r6 := r6.all hq2 (all2 (p1_6).symm (p2_6).symm)
  clear r1
  have r1 := rn1
  clear rn1
  clear r2
  have r2 := rn2
  clear rn2
  have hA2 := blk_all hA1 hq2 (all2 hne1 hne2)
  have hO2 := hO1.trans (hq2.mono (by simp))
  clear hq2 hA1 hO1
  rw [← Hk2.out]
  clear pa1 pa2
  have pa4 : w2.cell? ⟨w.heap.size, 4, none⟩ = some (.slice a4 x.fGone.length c4) := blk_cell hA2 4
  go_wp2_with fail
  obtain ⟨k3, hk3⟩ : ∃ z : Int, z = k2 + (x.fGone.length : Int) * 5 := ⟨_, rfl⟩
  have hbk3 : 0 < k3 ∧ k3 ≤ k2 + 10000000 := by
    rw [hk3]
    have := hf.f4
    omega
  have Hk3 := Lib.hid hk3
  clear hk3
  obtain ⟨hbk3a, hbk3b⟩ := hbk3
  refine (markPtrS_r _ _ _ _ _ _ _ (by omega) (by omega) hf.f4 r4).mono ?_
  rintro e w3 ⟨rfl, on4, hg3⟩
  have hq3 := GrownAll.one hg3
  have r0 := r0.grown hg3 p0_4
  have r1 := r1.grown hg3 p1_4
  have r2 := r2.grown hg3 p2_4
  have r6 := r6.grown hg3 (p4_6).symm
  clear r4
  have r4 := on4
  clear on4 hg3
  have hA3 := blk_all hA2 hq3 (all1 hne4)
  have hO3 := hO2.trans (hq3.mono (by simp))
  clear hq3 hA2 hO2
  rw [← Hk3.out]
  clear pa4
  have pa6 : w3.cell? ⟨w.heap.size, 6, none⟩ = some (.slice a6 x.fDead.length c6) := blk_cell hA3 6
  go_wp2_with fail
  obtain ⟨k4, hk4⟩ : ∃ z : Int, z = k3 + (x.fDead.length : Int) * 5 := ⟨_, rfl⟩
  have hbk4 : 0 < k4 ∧ k4 ≤ k3 + 10000000 := by
    rw [hk4]
    have := hf.f6
    omega
  have Hk4 := Lib.hid hk4
  clear hk4
  obtain ⟨hbk4a, hbk4b⟩ := hbk4
  refine (markPtrS_r _ _ _ _ _ _ _ (by omega) (by omega) hf.f6 r6).mono ?_
  rintro e w4 ⟨rfl, on6, hg4⟩
  have hq4 := GrownAll.one hg4
  have r0 := r0.grown hg4 p0_6
  have r1 := r1.grown hg4 p1_6
  have r2 := r2.grown hg4 p2_6
  have r4 := r4.grown hg4 p4_6
  clear r6
  have r6 := on6
  clear on6 hg4
  have hA4 := blk_all hA3 hq4 (all1 hne6)
  have hO4 := hO3.trans (hq4.mono (by simp))
  clear hq4 hA3 hO3
  rw [← Hk4.out]
  clear pa6
  go_wp2
  go_ret
  obtain rfl := Hk1.out
  obtain rfl := Hk2.out
  obtain rfl := Hk3.out
  obtain rfl := Hk4.out
  exact ⟨rfl, r0, r1, r2, r4, r6, hO4⟩
theorem markStore_any (v : Value) (x : StoreD) (B B1 : Nat) (k : Int) (w : World) (hk0 : 0 < k) (hk1 : k ≤ 1000000000) (hf : x.Fit) (ho : StoreD.Own w B B1 v x) (hB : B1 ≤ w.heap.size) :
    Calls Try.prog 30 #[v, .int .i64 k] w fun e w' => e = .returned (.int .i64 (x.past k)) ∧ StoreD.Own w' B B1 v (x.marked k) ∧ Outside B B1 w w' := by
  obtain ⟨a0, c0, a1, c1, a2, c2, a4, c4, a6, c6, rfl, r0, r1, r2, r4, r6, p0_1, p0_2, p0_4, p0_6, p1_2, p1_4, p1_6, p2_4, p2_6, p4_6⟩ := ho
  refine (markStore_x a0 c0 a1 c1 a2 c2 a4 c4 a6 c6 x B B1 k w hk0 hk1 hf r0 r1 r2 r4 r6 p0_1 p0_2 p0_4 p0_6 p1_2 p1_4 p1_6 p2_4 p2_6 p4_6 hB).mono ?_
  rintro e w' ⟨rfl, q0, q1, q2, q4, q6, hO⟩
  have hO := hO.outside (B := B) (B1 := B1) (all5 (fun g h => ⟨(r0.lt g h).1, (r0.lt g h).2.1⟩) (fun g h => ⟨(r1.lt g h).1, (r1.lt g h).2.1⟩) (fun g h => ⟨(r2.lt g h).1, (r2.lt g h).2.1⟩) (fun g h => ⟨(r4.lt g h).1, (r4.lt g h).2.1⟩) (fun g h => ⟨(r6.lt g h).1, (r6.lt g h).2.1⟩))
  refine ⟨rfl, ⟨a0, c0, a1, c1, a2, c2, a4, c4, a6, c6, by simp only [StoreD.marked, marks_len], ?_, ?_, ?_, ?_, ?_, ?_, ?_, ?_, ?_, ?_, ?_, ?_, ?_, ?_, ?_⟩, hO⟩
  · simp only [StoreD.marked, marks_len]; exact q0
  · simp only [StoreD.marked, marks_len]; exact q1
  · simp only [StoreD.marked, marks_len]; exact q2
  · simp only [StoreD.marked, marks_len]; exact q4
  · simp only [StoreD.marked, marks_len]; exact q6
  · simp only [StoreD.marked, marks_len]; exact p0_1
  · simp only [StoreD.marked, marks_len]; exact p0_2
  · simp only [StoreD.marked, marks_len]; exact p0_4
  · simp only [StoreD.marked, marks_len]; exact p0_6
  · simp only [StoreD.marked, marks_len]; exact p1_2
  · simp only [StoreD.marked, marks_len]; exact p1_4
  · simp only [StoreD.marked, marks_len]; exact p1_6
  · simp only [StoreD.marked, marks_len]; exact p2_4
  · simp only [StoreD.marked, marks_len]; exact p2_6
  · simp only [StoreD.marked, marks_len]; exact p4_6
set_option maxHeartbeats 400000 in
set_option maxRecDepth 100000 in
theorem heldStore_x (a0 : Option Addr) (c0 : Nat) (a1 : Option Addr) (c1 : Nat) (a2 : Option Addr) (c2 : Nat) (a4 : Option Addr) (c4 : Nat) (a6 : Option Addr) (c6 : Nat) (x : StoreD) (k : Int) (w : World) (hk0 : 0 < k) (hk1 : k ≤ 1000000000) (hf : x.Fit) (r0 : Rd encS 1 w a0 x.fRows.length (marks markT 1 (k) x.fRows.length)) (r1 : Rd encI 1 w a1 x.fSpace.fRefs.length (marks mkI 1 (k + (x.fRows.length : Int) * 1) x.fSpace.fRefs.length)) (r2 : Rd encI 1 w a2 x.fSpace.fLast.length (marks mkI 1 (k + (x.fRows.length : Int) * 1 + (x.fSpace.fRefs.length : Int) * 1) x.fSpace.fLast.length)) (r4 : Rd PtrD.cells 5 w a4 x.fGone.length (marks mkPtr 5 (k + (x.fRows.length : Int) * 1 + (x.fSpace.fRefs.length : Int) * 1 + (x.fSpace.fLast.length : Int) * 1) x.fGone.length)) (r6 : Rd PtrD.cells 5 w a6 x.fDead.length (marks mkPtr 5 (k + (x.fRows.length : Int) * 1 + (x.fSpace.fRefs.length : Int) * 1 + (x.fSpace.fLast.length : Int) * 1 + (x.fGone.length : Int) * 5) x.fDead.length)) :
    Calls Try.prog 31 #[.agg #[.slice a0 x.fRows.length c0, .slice a1 x.fSpace.fRefs.length c1, .slice a2 x.fSpace.fLast.length c2, .int .i64 x.fTxg, .slice a4 x.fGone.length c4, .int .i64 x.fKeep, .slice a6 x.fDead.length c6, .bool x.fSame], .int .i64 k] w fun e w' => e = .returned (.int .i64 (k + (x.fRows.length : Int) * 1 + (x.fSpace.fRefs.length : Int) * 1 + (x.fSpace.fLast.length : Int) * 1 + (x.fGone.length : Int) * 5 + (x.fDead.length : Int) * 5)) ∧ Below w.heap.size w w' := by
  have hb0 : Below w.heap.size w (w.alloc (.cells #[.slice a0 x.fRows.length c0, .slice a1 x.fSpace.fRefs.length c1, .slice a2 x.fSpace.fLast.length c2, .int .i64 x.fTxg, .slice a4 x.fGone.length c4, .int .i64 x.fKeep, .slice a6 x.fDead.length c6, .bool x.fSame] 65)) := (Below.refl _ _).alloc (Nat.le_refl _) _
  have hA0 := blk_new w (.cells #[.slice a0 x.fRows.length c0, .slice a1 x.fSpace.fRefs.length c1, .slice a2 x.fSpace.fLast.length c2, .int .i64 x.fTxg, .slice a4 x.fGone.length c4, .int .i64 x.fKeep, .slice a6 x.fDead.length c6, .bool x.fSame] 65) _ rfl
  obtain ⟨k1, hk1⟩ : ∃ z : Int, z = k + (x.fRows.length : Int) * 1 := ⟨_, rfl⟩
  have hbk1 : 0 < k1 ∧ k1 ≤ k + 10000000 := by
    rw [hk1]
    have := hf.f0
    omega
  rw [← hk1] at r1 r2 r4 r6
  have Hk1 := Lib.hid hk1
  clear hk1
  obtain ⟨hbk1a, hbk1b⟩ := hbk1
  obtain ⟨k2, hk2⟩ : ∃ z : Int, z = k1 + (x.fSpace.fRefs.length : Int) * 1 + (x.fSpace.fLast.length : Int) * 1 := ⟨_, rfl⟩
  have hbk2 : 0 < k2 ∧ k2 ≤ k1 + 20000000 := by
    rw [hk2]
    have := hf.f1
    have := hf.f2
    omega
  rw [← hk2] at r4 r6
  have Hk2 := Lib.hid hk2
  clear hk2
  obtain ⟨hbk2a, hbk2b⟩ := hbk2
  obtain ⟨k3, hk3⟩ : ∃ z : Int, z = k2 + (x.fGone.length : Int) * 5 := ⟨_, rfl⟩
  have hbk3 : 0 < k3 ∧ k3 ≤ k2 + 10000000 := by
    rw [hk3]
    have := hf.f4
    omega
  rw [← hk3] at r6
  have Hk3 := Lib.hid hk3
  clear hk3
  obtain ⟨hbk3a, hbk3b⟩ := hbk3
  obtain ⟨k4, hk4⟩ : ∃ z : Int, z = k3 + (x.fDead.length : Int) * 5 := ⟨_, rfl⟩
  have hbk4 : 0 < k4 ∧ k4 ≤ k3 + 10000000 := by
    rw [hk4]
    have := hf.f6
    omega
  have Hk4 := Lib.hid hk4
  clear hk4
  obtain ⟨hbk4a, hbk4b⟩ := hbk4
  go_enter Try.func31, Try.ntmps31
  go_wp2_with fail
  refine (heldStringS_any _ _ _ _ _ (by omega) (by omega) hf.f0 (r0.below hb0)).mono ?_
  rintro e w1 ⟨rfl, b1⟩
  rw [← Hk1.out]
  have hA1 := blk_below hA0 b1 (Nat.le_refl _)
  have hb1 := hb0.trans (b1.mono hb0.size)
  clear b1 hA0
  have pa1 : w1.cell? ⟨w.heap.size, 1, none⟩ = some (.slice a1 x.fSpace.fRefs.length c1) := blk_cell hA1 1
  have pa2 : w1.cell? ⟨w.heap.size, 2, none⟩ = some (.slice a2 x.fSpace.fLast.length c2) := blk_cell hA1 2
  go_wp2_with fail
  refine (heldSpace_x _ _ _ _ x.fSpace _ _ (by omega) (by omega) ⟨hf.f1, hf.f2⟩ (r1.below hb1) (r2.below hb1)).mono ?_
  rintro e w2 ⟨rfl, b2⟩
  rw [← Hk2.out]
  have hA2 := blk_below hA1 b2 (Nat.le_refl _)
  have hb2 := hb1.trans (b2.mono hb1.size)
  clear b2 hA1
  clear pa1 pa2
  have pa4 : w2.cell? ⟨w.heap.size, 4, none⟩ = some (.slice a4 x.fGone.length c4) := blk_cell hA2 4
  go_wp2_with fail
  refine (heldPtrS_any _ _ _ _ _ (by omega) (by omega) hf.f4 (r4.below hb2)).mono ?_
  rintro e w3 ⟨rfl, b3⟩
  rw [← Hk3.out]
  have hA3 := blk_below hA2 b3 (Nat.le_refl _)
  have hb3 := hb2.trans (b3.mono hb2.size)
  clear b3 hA2
  clear pa4
  have pa6 : w3.cell? ⟨w.heap.size, 6, none⟩ = some (.slice a6 x.fDead.length c6) := blk_cell hA3 6
  go_wp2_with fail
  refine (heldPtrS_any _ _ _ _ _ (by omega) (by omega) hf.f6 (r6.below hb3)).mono ?_
  rintro e w4 ⟨rfl, b4⟩
  rw [← Hk4.out]
  have hA4 := blk_below hA3 b4 (Nat.le_refl _)
  have hb4 := hb3.trans (b4.mono hb3.size)
  clear b4 hA3
  clear pa6
  go_wp2
  go_ret
  obtain rfl := Hk1.out
  obtain rfl := Hk2.out
  obtain rfl := Hk3.out
  obtain rfl := Hk4.out
  exact ⟨rfl, hb4⟩
theorem heldStore_any (v : Value) (x : StoreD) (k : Int) (w : World) (hk0 : 0 < k) (hk1 : k ≤ 1000000000) (hf : x.Fit) (hr : StoreD.Reads w v (x.marked k)) :
    Calls Try.prog 31 #[v, .int .i64 k] w fun e w' => e = .returned (.int .i64 (x.past k)) ∧ Below w.heap.size w w' := by
  obtain ⟨a0, c0, a1, c1, a2, c2, a4, c4, a6, c6, rfl, r0, r1, r2, r4, r6⟩ := hr
  simp only [StoreD.marked, marks_len] at r0 r1 r2 r4 r6 ⊢
  exact heldStore_x a0 c0 a1 c1 a2 c2 a4 c4 a6 c6 x k w hk0 hk1 hf r0 r1 r2 r4 r6

end Go.Proofs.Ytfijfjjleelphaa
