/- Marking space. -/
import Derived.Test.YtfijfjjleelphaaRows
import Derived.Test.YtfijfjjleelphaaSpaceT
import Derived.Test.YtfijfjjleelphaaPrimM
import Derived.StillTailTactics
import Derived.BigQuiet
import Derived.Deep.QuietTactic
import Derived.Deep.RegionWith
namespace Go.Proofs.Ytfijfjjleelphaa
open Go.RowKit

def SpaceD.marked (x : SpaceD) (k : Int) : SpaceD := { fRefs := marks mkI 1 (k) x.fRefs.length, fLast := marks mkI 1 (k + (x.fRefs.length : Int) * 1) x.fLast.length }
def SpaceD.past (x : SpaceD) (k : Int) : Int := k + (x.fRefs.length : Int) * 1 + (x.fLast.length : Int) * 1
set_option maxHeartbeats 400000 in
set_option maxRecDepth 100000 in
theorem markSpace_x (a0 : Option Addr) (c0 : Nat) (a1 : Option Addr) (c1 : Nat) (x : SpaceD) (B B1 : Nat) (k : Int) (w : World) (hk0 : 0 < k) (hk1 : k ≤ 100000000000) (hf : x.Fit) (r0 : RowO encI 1 3 w B B1 (.slice a0 x.fRefs.length c0) x.fRefs) (r1 : RowO encI 1 3 w B B1 (.slice a1 x.fLast.length c1) x.fLast) (p0_1 : Apart (.slice a0 x.fRefs.length c0) (.slice a1 x.fLast.length c1)) (hB : B1 ≤ w.heap.size) :
    Calls Try.prog 95 #[.agg #[.slice a0 x.fRefs.length c0, .slice a1 x.fLast.length c1], .int .i64 k] w fun e w' => e = .returned (.int .i64 (k + (x.fRefs.length : Int) * 1 + (x.fLast.length : Int) * 1)) ∧ RowO encI 1 3 w' B B1 (.slice a0 x.fRefs.length c0) (marks mkI 1 (k) x.fRefs.length) ∧ RowO encI 1 3 w' B B1 (.slice a1 x.fLast.length c1) (marks mkI 1 (k + (x.fRefs.length : Int) * 1) x.fLast.length) ∧ GrownAll [.slice a0 x.fRefs.length c0, .slice a1 x.fLast.length c1] w w' := by
  have hO0 : GrownAll [.slice a0 x.fRefs.length c0, .slice a1 x.fLast.length c1] w (w.alloc (.cells #[.slice a0 x.fRefs.length c0, .slice a1 x.fLast.length c1] 62)) := GrownAll.alloc _ _ _
  have hne0 : Value.rowBlock (.slice a0 x.fRefs.length c0) ≠ some w.heap.size := fun e => by have := (r0.lt _ e).2.1; omega
  have hne1 : Value.rowBlock (.slice a1 x.fLast.length c1) ≠ some w.heap.size := fun e => by have := (r1.lt _ e).2.1; omega
  have hA0 := blk_new w (.cells #[.slice a0 x.fRefs.length c0, .slice a1 x.fLast.length c1] 62) _ rfl
  have r0 := r0.below ((Below.refl w.heap.size w).alloc (Nat.le_refl _) (.cells #[.slice a0 x.fRefs.length c0, .slice a1 x.fLast.length c1] 62)) (Nat.le_refl _)
  have r1 := r1.below ((Below.refl w.heap.size w).alloc (Nat.le_refl _) (.cells #[.slice a0 x.fRefs.length c0, .slice a1 x.fLast.length c1] 62)) (Nat.le_refl _)
  go_enter Try.func95, Try.ntmps95
  go_wp2_with fail
  obtain ⟨k1, hk1⟩ : ∃ z : Int, z = k + (x.fRefs.length : Int) * 1 := ⟨_, rfl⟩
  have hbk1 : 0 < k1 ∧ k1 ≤ k + 10000000 := by
    rw [hk1]
    have := hf.f0
    omega
  have Hk1 := Lib.hid hk1
  clear hk1
  obtain ⟨hbk1a, hbk1b⟩ := hbk1
  refine (markIntS_r _ _ _ _ _ _ _ (by omega) (by omega) hf.f0 r0).mono ?_
  rintro e w1 ⟨rfl, on0, hg1⟩
  have hq1 := GrownAll.one hg1
  have r1 := r1.grown hg1 (p0_1).symm
  clear r0
  have r0 := on0
  clear on0 hg1
  have hA1 := blk_all hA0 hq1 (all1 hne0)
  have hO1 := hO0.trans (hq1.mono (by simp))
  clear hq1 hA0 hO0
  rw [← Hk1.out]
  have pa1 : w1.cell? ⟨w.heap.size, 1, none⟩ = some (.slice a1 x.fLast.length c1) := blk_cell hA1 1
  go_wp2_with fail
  obtain ⟨k2, hk2⟩ : ∃ z : Int, z = k1 + (x.fLast.length : Int) * 1 := ⟨_, rfl⟩
  have hbk2 : 0 < k2 ∧ k2 ≤ k1 + 10000000 := by
    rw [hk2]
    have := hf.f1
    omega
  have Hk2 := Lib.hid hk2
  clear hk2
  obtain ⟨hbk2a, hbk2b⟩ := hbk2
  refine (markIntS_r _ _ _ _ _ _ _ (by omega) (by omega) hf.f1 r1).mono ?_
  rintro e w2 ⟨rfl, on1, hg2⟩
  have hq2 := GrownAll.one hg2
  have r0 := r0.grown hg2 p0_1
  clear r1
  have r1 := on1
  clear on1 hg2
  have hA2 := blk_all hA1 hq2 (all1 hne1)
  have hO2 := hO1.trans (hq2.mono (by simp))
  clear hq2 hA1 hO1
  rw [← Hk2.out]
  clear pa1
  go_wp2
  go_ret
  obtain rfl := Hk1.out
  obtain rfl := Hk2.out
  exact ⟨rfl, r0, r1, hO2⟩
theorem markSpace_any (v : Value) (x : SpaceD) (B B1 : Nat) (k : Int) (w : World) (hk0 : 0 < k) (hk1 : k ≤ 100000000000) (hf : x.Fit) (ho : SpaceD.Own w B B1 v x) (hB : B1 ≤ w.heap.size) :
    Calls Try.prog 95 #[v, .int .i64 k] w fun e w' => e = .returned (.int .i64 (x.past k)) ∧ SpaceD.Own w' B B1 v (x.marked k) ∧ Outside B B1 w w' := by
  obtain ⟨a0, c0, a1, c1, rfl, r0, r1, p0_1⟩ := ho
  refine (markSpace_x a0 c0 a1 c1 x B B1 k w hk0 hk1 hf r0 r1 p0_1 hB).mono ?_
  rintro e w' ⟨rfl, q0, q1, hO⟩
  have hO := hO.outside (B := B) (B1 := B1) (all2 (fun g h => ⟨(r0.lt g h).1, (r0.lt g h).2.1⟩) (fun g h => ⟨(r1.lt g h).1, (r1.lt g h).2.1⟩))
  refine ⟨rfl, ⟨a0, c0, a1, c1, by simp only [SpaceD.marked, marks_len], ?_, ?_, ?_⟩, hO⟩
  · simp only [SpaceD.marked, marks_len]; exact q0
  · simp only [SpaceD.marked, marks_len]; exact q1
  · simp only [SpaceD.marked, marks_len]; exact p0_1
set_option maxHeartbeats 400000 in
set_option maxRecDepth 100000 in
theorem heldSpace_x (a0 : Option Addr) (c0 : Nat) (a1 : Option Addr) (c1 : Nat) (x : SpaceD) (k : Int) (w : World) (hk0 : 0 < k) (hk1 : k ≤ 100000000000) (hf : x.Fit) (r0 : Rd encI 1 w a0 x.fRefs.length (marks mkI 1 (k) x.fRefs.length)) (r1 : Rd encI 1 w a1 x.fLast.length (marks mkI 1 (k + (x.fRefs.length : Int) * 1) x.fLast.length)) :
    Calls Try.prog 98 #[.agg #[.slice a0 x.fRefs.length c0, .slice a1 x.fLast.length c1], .int .i64 k] w fun e w' => e = .returned (.int .i64 (k + (x.fRefs.length : Int) * 1 + (x.fLast.length : Int) * 1)) ∧ Below w.heap.size w w' := by
  have hb0 : Below w.heap.size w (w.alloc (.cells #[.slice a0 x.fRefs.length c0, .slice a1 x.fLast.length c1] 62)) := (Below.refl _ _).alloc (Nat.le_refl _) _
  have hA0 := blk_new w (.cells #[.slice a0 x.fRefs.length c0, .slice a1 x.fLast.length c1] 62) _ rfl
  obtain ⟨k1, hk1⟩ : ∃ z : Int, z = k + (x.fRefs.length : Int) * 1 := ⟨_, rfl⟩
  have hbk1 : 0 < k1 ∧ k1 ≤ k + 10000000 := by
    rw [hk1]
    have := hf.f0
    omega
  rw [← hk1] at r1
  have Hk1 := Lib.hid hk1
  clear hk1
  obtain ⟨hbk1a, hbk1b⟩ := hbk1
  obtain ⟨k2, hk2⟩ : ∃ z : Int, z = k1 + (x.fLast.length : Int) * 1 := ⟨_, rfl⟩
  have hbk2 : 0 < k2 ∧ k2 ≤ k1 + 10000000 := by
    rw [hk2]
    have := hf.f1
    omega
  have Hk2 := Lib.hid hk2
  clear hk2
  obtain ⟨hbk2a, hbk2b⟩ := hbk2
  go_enter Try.func98, Try.ntmps98
  go_wp2_with fail
  refine (heldIntS_any _ _ _ _ _ (by omega) (by omega) hf.f0 (r0.below hb0)).mono ?_
  rintro e w1 ⟨rfl, b1⟩
  rw [← Hk1.out]
  have hA1 := blk_below hA0 b1 (Nat.le_refl _)
  have hb1 := hb0.trans (b1.mono hb0.size)
  clear b1 hA0
  have pa1 : w1.cell? ⟨w.heap.size, 1, none⟩ = some (.slice a1 x.fLast.length c1) := blk_cell hA1 1
  go_wp2_with fail
  refine (heldIntS_any _ _ _ _ _ (by omega) (by omega) hf.f1 (r1.below hb1)).mono ?_
  rintro e w2 ⟨rfl, b2⟩
  rw [← Hk2.out]
  have hA2 := blk_below hA1 b2 (Nat.le_refl _)
  have hb2 := hb1.trans (b2.mono hb1.size)
  clear b2 hA1
  clear pa1
  go_wp2
  go_ret
  obtain rfl := Hk1.out
  obtain rfl := Hk2.out
  exact ⟨rfl, hb2⟩
theorem heldSpace_any (v : Value) (x : SpaceD) (k : Int) (w : World) (hk0 : 0 < k) (hk1 : k ≤ 100000000000) (hf : x.Fit) (hr : SpaceD.Reads w v (x.marked k)) :
    Calls Try.prog 98 #[v, .int .i64 k] w fun e w' => e = .returned (.int .i64 (x.past k)) ∧ Below w.heap.size w w' := by
  obtain ⟨a0, c0, a1, c1, rfl, r0, r1⟩ := hr
  simp only [SpaceD.marked, marks_len] at r0 r1 ⊢
  exact heldSpace_x a0 c0 a1 c1 x k w hk0 hk1 hf r0 r1

end Go.Proofs.Ytfijfjjleelphaa
