/- Marking caches. -/
import Derived.Test.YtkgmilobmbeplaaRows
import Derived.Test.YtkgmilobmbeplaaCacheT
import Derived.Test.YtkgmilobmbeplaaPrimM
import Derived.StillTailTactics
import Derived.BigQuiet
import Derived.Deep.QuietTactic
import Derived.Deep.RegionWith
namespace Go.Proofs.Ytkgmilobmbeplaa
open Go.RowKit

def CacheD.marked (x : CacheD) (k : Int) : CacheD := { fRoom := x.fRoom, fGoal := x.fGoal, fOnce := marks mkI 1 (k) x.fOnce.length, fOften := marks mkI 1 (k + (x.fOnce.length : Int) * 1) x.fOften.length, fPast := marks mkI 1 (k + (x.fOnce.length : Int) * 1 + (x.fOften.length : Int) * 1) x.fPast.length, fFormer := marks mkI 1 (k + (x.fOnce.length : Int) * 1 + (x.fOften.length : Int) * 1 + (x.fPast.length : Int) * 1) x.fFormer.length }
def CacheD.past (x : CacheD) (k : Int) : Int := k + (x.fOnce.length : Int) * 1 + (x.fOften.length : Int) * 1 + (x.fPast.length : Int) * 1 + (x.fFormer.length : Int) * 1
set_option maxHeartbeats 400000 in
set_option maxRecDepth 100000 in
theorem markCache_x (a2 : Option Addr) (c2 : Nat) (a3 : Option Addr) (c3 : Nat) (a4 : Option Addr) (c4 : Nat) (a5 : Option Addr) (c5 : Nat) (x : CacheD) (B B1 : Nat) (k : Int) (w : World) (hk0 : 0 < k) (hk1 : k ≤ 100000000000) (hf : x.Fit) (r2 : RowO encI 1 3 w B B1 (.slice a2 x.fOnce.length c2) x.fOnce) (r3 : RowO encI 1 3 w B B1 (.slice a3 x.fOften.length c3) x.fOften) (r4 : RowO encI 1 3 w B B1 (.slice a4 x.fPast.length c4) x.fPast) (r5 : RowO encI 1 3 w B B1 (.slice a5 x.fFormer.length c5) x.fFormer) (p2_3 : Apart (.slice a2 x.fOnce.length c2) (.slice a3 x.fOften.length c3)) (p2_4 : Apart (.slice a2 x.fOnce.length c2) (.slice a4 x.fPast.length c4)) (p2_5 : Apart (.slice a2 x.fOnce.length c2) (.slice a5 x.fFormer.length c5)) (p3_4 : Apart (.slice a3 x.fOften.length c3) (.slice a4 x.fPast.length c4)) (p3_5 : Apart (.slice a3 x.fOften.length c3) (.slice a5 x.fFormer.length c5)) (p4_5 : Apart (.slice a4 x.fPast.length c4) (.slice a5 x.fFormer.length c5)) (hB : B1 ≤ w.heap.size) :
    Calls Try.prog 28 #[.agg #[.int .i64 x.fRoom, .int .i64 x.fGoal, .slice a2 x.fOnce.length c2, .slice a3 x.fOften.length c3, .slice a4 x.fPast.length c4, .slice a5 x.fFormer.length c5], .int .i64 k] w fun e w' => e = .returned (.int .i64 (k + (x.fOnce.length : Int) * 1 + (x.fOften.length : Int) * 1 + (x.fPast.length : Int) * 1 + (x.fFormer.length : Int) * 1)) ∧ RowO encI 1 3 w' B B1 (.slice a2 x.fOnce.length c2) (marks mkI 1 (k) x.fOnce.length) ∧ RowO encI 1 3 w' B B1 (.slice a3 x.fOften.length c3) (marks mkI 1 (k + (x.fOnce.length : Int) * 1) x.fOften.length) ∧ RowO encI 1 3 w' B B1 (.slice a4 x.fPast.length c4) (marks mkI 1 (k + (x.fOnce.length : Int) * 1 + (x.fOften.length : Int) * 1) x.fPast.length) ∧ RowO encI 1 3 w' B B1 (.slice a5 x.fFormer.length c5) (marks mkI 1 (k + (x.fOnce.length : Int) * 1 + (x.fOften.length : Int) * 1 + (x.fPast.length : Int) * 1) x.fFormer.length) ∧ GrownAll [.slice a2 x.fOnce.length c2, .slice a3 x.fOften.length c3, .slice a4 x.fPast.length c4, .slice a5 x.fFormer.length c5] w w' := by
  have hO0 : GrownAll [.slice a2 x.fOnce.length c2, .slice a3 x.fOften.length c3, .slice a4 x.fPast.length c4, .slice a5 x.fFormer.length c5] w (w.alloc (.cells #[.int .i64 x.fRoom, .int .i64 x.fGoal, .slice a2 x.fOnce.length c2, .slice a3 x.fOften.length c3, .slice a4 x.fPast.length c4, .slice a5 x.fFormer.length c5] 48)) := GrownAll.alloc _ _ _
  have hne2 : Value.rowBlock (.slice a2 x.fOnce.length c2) ≠ some w.heap.size := fun e => by have := (r2.lt _ e).2.1; omega
  have hne3 : Value.rowBlock (.slice a3 x.fOften.length c3) ≠ some w.heap.size := fun e => by have := (r3.lt _ e).2.1; omega
  have hne4 : Value.rowBlock (.slice a4 x.fPast.length c4) ≠ some w.heap.size := fun e => by have := (r4.lt _ e).2.1; omega
  have hne5 : Value.rowBlock (.slice a5 x.fFormer.length c5) ≠ some w.heap.size := fun e => by have := (r5.lt _ e).2.1; omega
  have hA0 := blk_new w (.cells #[.int .i64 x.fRoom, .int .i64 x.fGoal, .slice a2 x.fOnce.length c2, .slice a3 x.fOften.length c3, .slice a4 x.fPast.length c4, .slice a5 x.fFormer.length c5] 48) _ rfl
  have r2 := r2.below ((Below.refl w.heap.size w).alloc (Nat.le_refl _) (.cells #[.int .i64 x.fRoom, .int .i64 x.fGoal, .slice a2 x.fOnce.length c2, .slice a3 x.fOften.length c3, .slice a4 x.fPast.length c4, .slice a5 x.fFormer.length c5] 48)) (Nat.le_refl _)
  have r3 := r3.below ((Below.refl w.heap.size w).alloc (Nat.le_refl _) (.cells #[.int .i64 x.fRoom, .int .i64 x.fGoal, .slice a2 x.fOnce.length c2, .slice a3 x.fOften.length c3, .slice a4 x.fPast.length c4, .slice a5 x.fFormer.length c5] 48)) (Nat.le_refl _)
  have r4 := r4.below ((Below.refl w.heap.size w).alloc (Nat.le_refl _) (.cells #[.int .i64 x.fRoom, .int .i64 x.fGoal, .slice a2 x.fOnce.length c2, .slice a3 x.fOften.length c3, .slice a4 x.fPast.length c4, .slice a5 x.fFormer.length c5] 48)) (Nat.le_refl _)
  have r5 := r5.below ((Below.refl w.heap.size w).alloc (Nat.le_refl _) (.cells #[.int .i64 x.fRoom, .int .i64 x.fGoal, .slice a2 x.fOnce.length c2, .slice a3 x.fOften.length c3, .slice a4 x.fPast.length c4, .slice a5 x.fFormer.length c5] 48)) (Nat.le_refl _)
  go_enter Try.func28, Try.ntmps28
  go_wp2_with fail
  obtain ⟨k1, hk1⟩ : ∃ z : Int, z = k + (x.fOnce.length : Int) * 1 := ⟨_, rfl⟩
  have hbk1 : 0 < k1 ∧ k1 ≤ k + 10000000 := by
    rw [hk1]
    have := hf.f2
    omega
  have Hk1 := Lib.hid hk1
  clear hk1
  obtain ⟨hbk1a, hbk1b⟩ := hbk1
  refine (markIntS_r _ _ _ _ _ _ _ (by omega) (by omega) hf.f2 r2).mono ?_
  rintro e w1 ⟨rfl, on2, hg1⟩
  have hq1 := GrownAll.one hg1
  have r3 := r3.grown hg1 (p2_3).symm
  have r4 := r4.grown hg1 (p2_4).symm
  have r5 := r5.grown hg1 (p2_5).symm
  clear r2
  have r2 := on2
  clear on2 hg1
  have hA1 := blk_all hA0 hq1 (all1 hne2)
  have hO1 := hO0.trans (hq1.mono (by simp))
  clear hq1 hA0 hO0
  rw [← Hk1.out]
  have pa3 : w1.cell? ⟨w.heap.size, 3, none⟩ = some (.slice a3 x.fOften.length c3) := blk_cell hA1 3
  go_wp2_with fail
  obtain ⟨k2, hk2⟩ : ∃ z : Int, z = k1 + (x.fOften.length : Int) * 1 := ⟨_, rfl⟩
  have hbk2 : 0 < k2 ∧ k2 ≤ k1 + 10000000 := by
    rw [hk2]
    have := hf.f3
    omega
  have Hk2 := Lib.hid hk2
  clear hk2
  obtain ⟨hbk2a, hbk2b⟩ := hbk2
  refine (markIntS_r _ _ _ _ _ _ _ (by omega) (by omega) hf.f3 r3).mono ?_
  rintro e w2 ⟨rfl, on3, hg2⟩
  have hq2 := GrownAll.one hg2
  have r2 := r2.grown hg2 p2_3
  have r4 := r4.grown hg2 (p3_4).symm
  have r5 := r5.grown hg2 (p3_5).symm
  clear r3
  have r3 := on3
  clear on3 hg2
  have hA2 := blk_all hA1 hq2 (all1 hne3)
  have hO2 := hO1.trans (hq2.mono (by simp))
  clear hq2 hA1 hO1
  rw [← Hk2.out]
  clear pa3
  have pa4 : w2.cell? ⟨w.heap.size, 4, none⟩ = some (.slice a4 x.fPast.length c4) := blk_cell hA2 4
  go_wp2_with fail
  obtain ⟨k3, hk3⟩ : ∃ z : Int, z = k2 + (x.fPast.length : Int) * 1 := ⟨_, rfl⟩
  have hbk3 : 0 < k3 ∧ k3 ≤ k2 + 10000000 := by
    rw [hk3]
    have := hf.f4
    omega
  have Hk3 := Lib.hid hk3
  clear hk3
  obtain ⟨hbk3a, hbk3b⟩ := hbk3
  refine (markIntS_r _ _ _ _ _ _ _ (by omega) (by omega) hf.f4 r4).mono ?_
  rintro e w3 ⟨rfl, on4, hg3⟩
  have hq3 := GrownAll.one hg3
  have r2 := r2.grown hg3 p2_4
  have r3 := r3.grown hg3 p3_4
  have r5 := r5.grown hg3 (p4_5).symm
  clear r4
  have r4 := on4
  clear on4 hg3
  have hA3 := blk_all hA2 hq3 (all1 hne4)
  have hO3 := hO2.trans (hq3.mono (by simp))
  clear hq3 hA2 hO2
  rw [← Hk3.out]
  clear pa4
  have pa5 : w3.cell? ⟨w.heap.size, 5, none⟩ = some (.slice a5 x.fFormer.length c5) := blk_cell hA3 5
  go_wp2_with fail
  obtain ⟨k4, hk4⟩ : ∃ z : Int, z = k3 + (x.fFormer.length : Int) * 1 := ⟨_, rfl⟩
  have hbk4 : 0 < k4 ∧ k4 ≤ k3 + 10000000 := by
    rw [hk4]
    have := hf.f5
    omega
  have Hk4 := Lib.hid hk4
  clear hk4
  obtain ⟨hbk4a, hbk4b⟩ := hbk4
  refine (markIntS_r _ _ _ _ _ _ _ (by omega) (by omega) hf.f5 r5).mono ?_
  rintro e w4 ⟨rfl, on5, hg4⟩
  have hq4 := GrownAll.one hg4
  have r2 := r2.grown hg4 p2_5
  have r3 := r3.grown hg4 p3_5
  have r4 := r4.grown hg4 p4_5
  clear r5
  have r5 := on5
  clear on5 hg4
  have hA4 := blk_all hA3 hq4 (all1 hne5)
  have hO4 := hO3.trans (hq4.mono (by simp))
  clear hq4 hA3 hO3
  rw [← Hk4.out]
  clear pa5
  go_wp2
  go_ret
  obtain rfl := Hk1.out
  obtain rfl := Hk2.out
  obtain rfl := Hk3.out
  obtain rfl := Hk4.out
  exact ⟨rfl, r2, r3, r4, r5, hO4⟩
theorem markCache_any (v : Value) (x : CacheD) (B B1 : Nat) (k : Int) (w : World) (hk0 : 0 < k) (hk1 : k ≤ 100000000000) (hf : x.Fit) (ho : CacheD.Own w B B1 v x) (hB : B1 ≤ w.heap.size) :
    Calls Try.prog 28 #[v, .int .i64 k] w fun e w' => e = .returned (.int .i64 (x.past k)) ∧ CacheD.Own w' B B1 v (x.marked k) ∧ Outside B B1 w w' := by
  obtain ⟨a2, c2, a3, c3, a4, c4, a5, c5, rfl, r2, r3, r4, r5, p2_3, p2_4, p2_5, p3_4, p3_5, p4_5⟩ := ho
  refine (markCache_x a2 c2 a3 c3 a4 c4 a5 c5 x B B1 k w hk0 hk1 hf r2 r3 r4 r5 p2_3 p2_4 p2_5 p3_4 p3_5 p4_5 hB).mono ?_
  rintro e w' ⟨rfl, q2, q3, q4, q5, hO⟩
  have hO := hO.outside (B := B) (B1 := B1) (all4 (fun g h => ⟨(r2.lt g h).1, (r2.lt g h).2.1⟩) (fun g h => ⟨(r3.lt g h).1, (r3.lt g h).2.1⟩) (fun g h => ⟨(r4.lt g h).1, (r4.lt g h).2.1⟩) (fun g h => ⟨(r5.lt g h).1, (r5.lt g h).2.1⟩))
  refine ⟨rfl, ⟨a2, c2, a3, c3, a4, c4, a5, c5, by simp only [CacheD.marked, marks_len], ?_, ?_, ?_, ?_, ?_, ?_, ?_, ?_, ?_, ?_⟩, hO⟩
  · simp only [CacheD.marked, marks_len]; exact q2
  · simp only [CacheD.marked, marks_len]; exact q3
  · simp only [CacheD.marked, marks_len]; exact q4
  · simp only [CacheD.marked, marks_len]; exact q5
  · simp only [CacheD.marked, marks_len]; exact p2_3
  · simp only [CacheD.marked, marks_len]; exact p2_4
  · simp only [CacheD.marked, marks_len]; exact p2_5
  · simp only [CacheD.marked, marks_len]; exact p3_4
  · simp only [CacheD.marked, marks_len]; exact p3_5
  · simp only [CacheD.marked, marks_len]; exact p4_5
set_option maxHeartbeats 400000 in
set_option maxRecDepth 100000 in
theorem heldCache_x (a2 : Option Addr) (c2 : Nat) (a3 : Option Addr) (c3 : Nat) (a4 : Option Addr) (c4 : Nat) (a5 : Option Addr) (c5 : Nat) (x : CacheD) (k : Int) (w : World) (hk0 : 0 < k) (hk1 : k ≤ 100000000000) (hf : x.Fit) (r2 : Rd encI 1 w a2 x.fOnce.length (marks mkI 1 (k) x.fOnce.length)) (r3 : Rd encI 1 w a3 x.fOften.length (marks mkI 1 (k + (x.fOnce.length : Int) * 1) x.fOften.length)) (r4 : Rd encI 1 w a4 x.fPast.length (marks mkI 1 (k + (x.fOnce.length : Int) * 1 + (x.fOften.length : Int) * 1) x.fPast.length)) (r5 : Rd encI 1 w a5 x.fFormer.length (marks mkI 1 (k + (x.fOnce.length : Int) * 1 + (x.fOften.length : Int) * 1 + (x.fPast.length : Int) * 1) x.fFormer.length)) :
    Calls Try.prog 30 #[.agg #[.int .i64 x.fRoom, .int .i64 x.fGoal, .slice a2 x.fOnce.length c2, .slice a3 x.fOften.length c3, .slice a4 x.fPast.length c4, .slice a5 x.fFormer.length c5], .int .i64 k] w fun e w' => e = .returned (.int .i64 (k + (x.fOnce.length : Int) * 1 + (x.fOften.length : Int) * 1 + (x.fPast.length : Int) * 1 + (x.fFormer.length : Int) * 1)) ∧ Below w.heap.size w w' := by
  have hb0 : Below w.heap.size w (w.alloc (.cells #[.int .i64 x.fRoom, .int .i64 x.fGoal, .slice a2 x.fOnce.length c2, .slice a3 x.fOften.length c3, .slice a4 x.fPast.length c4, .slice a5 x.fFormer.length c5] 48)) := (Below.refl _ _).alloc (Nat.le_refl _) _
  have hA0 := blk_new w (.cells #[.int .i64 x.fRoom, .int .i64 x.fGoal, .slice a2 x.fOnce.length c2, .slice a3 x.fOften.length c3, .slice a4 x.fPast.length c4, .slice a5 x.fFormer.length c5] 48) _ rfl
  obtain ⟨k1, hk1⟩ : ∃ z : Int, z = k + (x.fOnce.length : Int) * 1 := ⟨_, rfl⟩
  have hbk1 : 0 < k1 ∧ k1 ≤ k + 10000000 := by
    rw [hk1]
    have := hf.f2
    omega
  rw [← hk1] at r3 r4 r5
  have Hk1 := Lib.hid hk1
  clear hk1
  obtain ⟨hbk1a, hbk1b⟩ := hbk1
  obtain ⟨k2, hk2⟩ : ∃ z : Int, z = k1 + (x.fOften.length : Int) * 1 := ⟨_, rfl⟩
  have hbk2 : 0 < k2 ∧ k2 ≤ k1 + 10000000 := by
    rw [hk2]
    have := hf.f3
    omega
  rw [← hk2] at r4 r5
  have Hk2 := Lib.hid hk2
  clear hk2
  obtain ⟨hbk2a, hbk2b⟩ := hbk2
  obtain ⟨k3, hk3⟩ : ∃ z : Int, z = k2 + (x.fPast.length : Int) * 1 := ⟨_, rfl⟩
  have hbk3 : 0 < k3 ∧ k3 ≤ k2 + 10000000 := by
    rw [hk3]
    have := hf.f4
    omega
  rw [← hk3] at r5
  have Hk3 := Lib.hid hk3
  clear hk3
  obtain ⟨hbk3a, hbk3b⟩ := hbk3
  obtain ⟨k4, hk4⟩ : ∃ z : Int, z = k3 + (x.fFormer.length : Int) * 1 := ⟨_, rfl⟩
  have hbk4 : 0 < k4 ∧ k4 ≤ k3 + 10000000 := by
    rw [hk4]
    have := hf.f5
    omega
  have Hk4 := Lib.hid hk4
  clear hk4
  obtain ⟨hbk4a, hbk4b⟩ := hbk4
  go_enter Try.func30, Try.ntmps30
  go_wp2_with fail
  refine (heldIntS_any _ _ _ _ _ (by omega) (by omega) hf.f2 (r2.below hb0)).mono ?_
  rintro e w1 ⟨rfl, b1⟩
  rw [← Hk1.out]
  have hA1 := blk_below hA0 b1 (Nat.le_refl _)
  have hb1 := hb0.trans (b1.mono hb0.size)
  clear b1 hA0
  have pa3 : w1.cell? ⟨w.heap.size, 3, none⟩ = some (.slice a3 x.fOften.length c3) := blk_cell hA1 3
  go_wp2_with fail
  refine (heldIntS_any _ _ _ _ _ (by omega) (by omega) hf.f3 (r3.below hb1)).mono ?_
  rintro e w2 ⟨rfl, b2⟩
  rw [← Hk2.out]
  have hA2 := blk_below hA1 b2 (Nat.le_refl _)
  have hb2 := hb1.trans (b2.mono hb1.size)
  clear b2 hA1
  clear pa3
  have pa4 : w2.cell? ⟨w.heap.size, 4, none⟩ = some (.slice a4 x.fPast.length c4) := blk_cell hA2 4
  go_wp2_with fail
  refine (heldIntS_any _ _ _ _ _ (by omega) (by omega) hf.f4 (r4.below hb2)).mono ?_
  rintro e w3 ⟨rfl, b3⟩
  rw [← Hk3.out]
  have hA3 := blk_below hA2 b3 (Nat.le_refl _)
  have hb3 := hb2.trans (b3.mono hb2.size)
  clear b3 hA2
  clear pa4
  have pa5 : w3.cell? ⟨w.heap.size, 5, none⟩ = some (.slice a5 x.fFormer.length c5) := blk_cell hA3 5
  go_wp2_with fail
  refine (heldIntS_any _ _ _ _ _ (by omega) (by omega) hf.f5 (r5.below hb3)).mono ?_
  rintro e w4 ⟨rfl, b4⟩
  rw [← Hk4.out]
  have hA4 := blk_below hA3 b4 (Nat.le_refl _)
  have hb4 := hb3.trans (b4.mono hb3.size)
  clear b4 hA3
  clear pa5
  go_wp2
  go_ret
  obtain rfl := Hk1.out
  obtain rfl := Hk2.out
  obtain rfl := Hk3.out
  obtain rfl := Hk4.out
  exact ⟨rfl, hb4⟩
theorem heldCache_any (v : Value) (x : CacheD) (k : Int) (w : World) (hk0 : 0 < k) (hk1 : k ≤ 100000000000) (hf : x.Fit) (hr : CacheD.Reads w v (x.marked k)) :
    Calls Try.prog 30 #[v, .int .i64 k] w fun e w' => e = .returned (.int .i64 (x.past k)) ∧ Below w.heap.size w w' := by
  obtain ⟨a2, c2, a3, c3, a4, c4, a5, c5, rfl, r2, r3, r4, r5⟩ := hr
  simp only [CacheD.marked, marks_len] at r2 r3 r4 r5 ⊢
  exact heldCache_x a2 c2 a3 c3 a4 c4 a5 c5 x k w hk0 hk1 hf r2 r3 r4 r5

end Go.Proofs.Ytkgmilobmbeplaa
