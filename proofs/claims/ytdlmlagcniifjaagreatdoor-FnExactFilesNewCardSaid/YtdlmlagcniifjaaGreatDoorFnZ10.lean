/- A part of the proof in YtdlmlagcniifjaaGreatDoorFnZ32. -/
import Derived.Deep.RegionHeld3
import Derived.Test.YtdlmlagcniifjaaGreatDoorFnZ9
namespace Go.Proofs.YtdlmlagcniifjaaGreatDoor
set_option linter.unusedVariables false
set_option linter.unusedSimpArgs false
set_option maxHeartbeats 1000000
set_option maxRecDepth 100000
open Go.RowKit
theorem spaceClone_any (v : Value) (x : SpaceD) (w : World) (hf : x.Fit) (hr : SpaceD.Reads w v x) :
    Calls Tryz.prog 95 #[v] w fun e w' => ∃ v', e = .returned v' ∧ SpaceD.Own w' w.heap.size w'.heap.size v' x ∧ Below w.heap.size w w' := by
  obtain ⟨a0, c0, a1, c1, rfl, r0, r1⟩ := hr
  obtain ⟨i0, hi, hz0, hz1, hz2⟩ := info_parts Tryz.infoIntS
  have hf0 := hf.f0
  have hf1 := hf.f1
  have hb : Below w.heap.size w (((w.alloc (.cells #[.slice a0 x.fRefs.length c0, .slice a1 x.fLast.length c1] 30)).alloc (.cells #[.slice none 0 0, .slice none 0 0] 30))).drew := (((Below.refl _ _).alloc (Nat.le_refl _) _).alloc (by simp) _).drew
  have hz : Below w.heap.size w ((w.alloc (.cells #[.slice a0 x.fRefs.length c0, .slice a1 x.fLast.length c1] 30)).alloc (.cells #[.slice none 0 0, .slice none 0 0] 30)) := ((Below.refl _ _).alloc (Nat.le_refl _) _).alloc (by simp) _
  have hXz : (((w.alloc (.cells #[.slice a0 x.fRefs.length c0, .slice a1 x.fLast.length c1] 30)).alloc (.cells #[.slice none 0 0, .slice none 0 0] 30))).heap[w.heap.size]? = some (.cells #[.slice a0 x.fRefs.length c0, .slice a1 x.fLast.length c1] 30 (0, 0)) := blk_alloc (blk_new w _ _ rfl) _
  have hRz : (((w.alloc (.cells #[.slice a0 x.fRefs.length c0, .slice a1 x.fLast.length c1] 30)).alloc (.cells #[.slice none 0 0, .slice none 0 0] 30))).heap[w.heap.size + 1]? = some (.cells #[.slice none 0 0, .slice none 0 0] 30 (0, 0)) := blk_new _ _ (w.heap.size + 1) (by simp)
  have hX : ((((w.alloc (.cells #[.slice a0 x.fRefs.length c0, .slice a1 x.fLast.length c1] 30)).alloc (.cells #[.slice none 0 0, .slice none 0 0] 30))).drew).heap[w.heap.size]? = some (.cells #[.slice a0 x.fRefs.length c0, .slice a1 x.fLast.length c1] 30 (0, 0)) := blk_alloc (blk_new w _ _ rfl) _
  have hR : ((((w.alloc (.cells #[.slice a0 x.fRefs.length c0, .slice a1 x.fLast.length c1] 30)).alloc (.cells #[.slice none 0 0, .slice none 0 0] 30))).drew).heap[w.heap.size + 1]? = some (.cells #[.slice none 0 0, .slice none 0 0] 30 (0, 0)) := blk_new _ _ (w.heap.size + 1) (by simp)
  have k0 : (((w.alloc (.cells #[.slice a0 x.fRefs.length c0, .slice a1 x.fLast.length c1] 30)).alloc (.cells #[.slice none 0 0, .slice none 0 0] 30))).cell? ⟨w.heap.size, 0, none⟩ = some (.slice a0 x.fRefs.length c0) := blk_cell hX 0
  have k1 : (((w.alloc (.cells #[.slice a0 x.fRefs.length c0, .slice a1 x.fLast.length c1] 30)).alloc (.cells #[.slice none 0 0, .slice none 0 0] 30))).cell? ⟨w.heap.size, 1, none⟩ = some (.slice a1 x.fLast.length c1) := blk_cell hX 1
  have hw : w.heap.size + 2 ≤ ((((w.alloc (.cells #[.slice a0 x.fRefs.length c0, .slice a1 x.fLast.length c1] 30)).alloc (.cells #[.slice none 0 0, .slice none 0 0] 30))).drew).heap.size := blk_lt hR
  go_enter Tryz.func95, Tryz.ntmps95
  go_wp2_with fail
  go_region_held3 (fun w' => w'.cell? ⟨w.heap.size, 0, none⟩ = some (.slice a0 x.fRefs.length c0) ∧ w'.cell? ⟨w.heap.size, 1, none⟩ = some (.slice a1 x.fLast.length c1)) (go_keep)
    (first | (go_at_call_of 125 (Value.slice a0 x.fRefs.length c0); refine (cloneI_any a0 c0 x.fRefs _ hf0 (r0.below hb)).mono ?_; rintro e wA ⟨⟨aoA, capA, rfl, roA⟩, bA⟩; have lA := hw; have szA := bA.size; have hX := blk_below hX bA (Nat.le_refl _); have hR := blk_below hR bA (Nat.le_refl _); have hb := hb.trans (bA.mono hb.size); have hw := Nat.le_trans hw bA.size; have k0 : wA.cell? ⟨w.heap.size, 0, none⟩ = some (.slice a0 x.fRefs.length c0) := blk_cell hX 0; have k1 : wA.cell? ⟨w.heap.size, 1, none⟩ = some (.slice a1 x.fLast.length c1) := blk_cell hX 1; have k2 : wA.cell? ⟨w.heap.size + 1, 0, none⟩ = some (.slice none 0 0) := blk_cell hR 0; have k3 : wA.cell? ⟨w.heap.size + 1, 1, none⟩ = some (.slice none 0 0) := blk_cell hR 1; have k4 := blk_frozen hR 0; have k5 := blk_frozen hR 1; try (have roB := roB.below bA (Nat.le_refl _))) | (go_at_call_of 125 (Value.slice a1 x.fLast.length c1); refine (cloneI_any a1 c1 x.fLast _ hf1 (r1.below hb)).mono ?_; rintro e wB ⟨⟨aoB, capB, rfl, roB⟩, bB⟩; have lB := hw; have szB := bB.size; have hX := blk_below hX bB (Nat.le_refl _); have hR := blk_below hR bB (Nat.le_refl _); have hb := hb.trans (bB.mono hb.size); have hw := Nat.le_trans hw bB.size; have k0 : wB.cell? ⟨w.heap.size, 0, none⟩ = some (.slice a0 x.fRefs.length c0) := blk_cell hX 0; have k1 : wB.cell? ⟨w.heap.size, 1, none⟩ = some (.slice a1 x.fLast.length c1) := blk_cell hX 1; have k2 : wB.cell? ⟨w.heap.size + 1, 0, none⟩ = some (.slice none 0 0) := blk_cell hR 0; have k3 : wB.cell? ⟨w.heap.size + 1, 1, none⟩ = some (.slice none 0 0) := blk_cell hR 1; have k4 := blk_frozen hR 0; have k5 := blk_frozen hR 1; try (have roA := roA.below bB (Nat.le_refl _))))
  all_goals
    go_wp2
    refine bodyPost_ret (v := .agg #[.slice aoA x.fRefs.length capA, .slice aoB x.fLast.length capB]) (by simp [results, Tryz.results95, go_sem, k2, k3]) rfl ?_
    refine ⟨_, rfl, ⟨_, _, _, _, rfl, ?q0, ?q1, ?q2⟩, ?q3⟩
    case q0 =>
      refine RowO.mono ((roA.set ?_ _).set ?_ _) ?_ ?_
      all_goals (first | omega | (simp; done) | (simp; omega))
    case q1 =>
      refine RowO.mono ((roB.set ?_ _).set ?_ _) ?_ ?_
      all_goals (first | omega | (simp; done) | (simp; omega))
    case q2 =>
      first
        | exact Apart.of_lt (fun g hg => (roA.lt g hg).2.1) (fun g hg => (roB.lt g hg).1)
        | exact (Apart.of_lt (fun g hg => (roB.lt g hg).2.1) (fun g hg => (roA.lt g hg).1)).symm
    case q3 =>
      refine Below.setCell (Below.setCell hb ?_ _) ?_ _
      all_goals (first | omega | (simp; done) | (simp; omega))
theorem l5Copy_any (v : Value) (x : SpaceD) (w : World) (hf : x.Fit) {B B1 : Nat} (ho : SpaceD.Own w B B1 v x) :
    Calls Tryz.prog 53 #[v] w fun e w' => ∃ v', e = .returned v' ∧ SpaceD.Own w' w.heap.size w'.heap.size v' x ∧ Below w.heap.size w w' := by
  obtain ⟨a0, c0, a1, c1, rfl, q0, q1, _⟩ := ho
  obtain ⟨r0, n0⟩ := q0.copy encI_len
  obtain ⟨r1, n1⟩ := q1.copy encI_len
  clear q0 q1
  obtain ⟨i0, hi, hz0, hz1, hz2⟩ := info_parts Tryz.infoIntS
  have hf0 := hf.f0
  have hf1 := hf.f1
  have hb : Below w.heap.size w (((w.alloc (.cells #[.slice a0 x.fRefs.length c0, .slice a1 x.fLast.length c1] 30)).alloc (.cells #[.slice none 0 0, .slice none 0 0] 30))).drew := (((Below.refl _ _).alloc (Nat.le_refl _) _).alloc (by simp) _).drew
  have hz : Below w.heap.size w ((w.alloc (.cells #[.slice a0 x.fRefs.length c0, .slice a1 x.fLast.length c1] 30)).alloc (.cells #[.slice none 0 0, .slice none 0 0] 30)) := ((Below.refl _ _).alloc (Nat.le_refl _) _).alloc (by simp) _
  have hXz : (((w.alloc (.cells #[.slice a0 x.fRefs.length c0, .slice a1 x.fLast.length c1] 30)).alloc (.cells #[.slice none 0 0, .slice none 0 0] 30))).heap[w.heap.size]? = some (.cells #[.slice a0 x.fRefs.length c0, .slice a1 x.fLast.length c1] 30 (0, 0)) := blk_alloc (blk_new w _ _ rfl) _
  have hRz : (((w.alloc (.cells #[.slice a0 x.fRefs.length c0, .slice a1 x.fLast.length c1] 30)).alloc (.cells #[.slice none 0 0, .slice none 0 0] 30))).heap[w.heap.size + 1]? = some (.cells #[.slice none 0 0, .slice none 0 0] 30 (0, 0)) := blk_new _ _ (w.heap.size + 1) (by simp)
  have hX : ((((w.alloc (.cells #[.slice a0 x.fRefs.length c0, .slice a1 x.fLast.length c1] 30)).alloc (.cells #[.slice none 0 0, .slice none 0 0] 30))).drew).heap[w.heap.size]? = some (.cells #[.slice a0 x.fRefs.length c0, .slice a1 x.fLast.length c1] 30 (0, 0)) := blk_alloc (blk_new w _ _ rfl) _
  have hR : ((((w.alloc (.cells #[.slice a0 x.fRefs.length c0, .slice a1 x.fLast.length c1] 30)).alloc (.cells #[.slice none 0 0, .slice none 0 0] 30))).drew).heap[w.heap.size + 1]? = some (.cells #[.slice none 0 0, .slice none 0 0] 30 (0, 0)) := blk_new _ _ (w.heap.size + 1) (by simp)
  have k0 : (((w.alloc (.cells #[.slice a0 x.fRefs.length c0, .slice a1 x.fLast.length c1] 30)).alloc (.cells #[.slice none 0 0, .slice none 0 0] 30))).cell? ⟨w.heap.size, 0, none⟩ = some (.slice a0 x.fRefs.length c0) := blk_cell hX 0
  have k1 : (((w.alloc (.cells #[.slice a0 x.fRefs.length c0, .slice a1 x.fLast.length c1] 30)).alloc (.cells #[.slice none 0 0, .slice none 0 0] 30))).cell? ⟨w.heap.size, 1, none⟩ = some (.slice a1 x.fLast.length c1) := blk_cell hX 1
  have hw : w.heap.size + 2 ≤ ((((w.alloc (.cells #[.slice a0 x.fRefs.length c0, .slice a1 x.fLast.length c1] 30)).alloc (.cells #[.slice none 0 0, .slice none 0 0] 30))).drew).heap.size := blk_lt hR
  go_enter Tryz.func53, Tryz.ntmps53
  go_wp2_with fail
  go_region_held3 (fun w' => w'.cell? ⟨w.heap.size, 0, none⟩ = some (.slice a0 x.fRefs.length c0) ∧ w'.cell? ⟨w.heap.size, 1, none⟩ = some (.slice a1 x.fLast.length c1)) (first | exact ⟨k0, k1⟩ | go_keep)
    (first | (refine step_copy0 (by rfl) (.tmp 3) (.tmp 5) 23 (by rfl) 3 i0 _ 1 8 Tryz.underlying23 hi hz0 hz1 hz2 rfl (by decide) encI_len _ (by rfl) a0 c0 x.fRefs (by rfl) (r0.below (by first | exact hb | exact hb.alloc hb.size _ | exact (hb.alloc hb.size _).alloc (hb.alloc hb.size _).size _ | exact (hz.alloc hz.size _).drew | exact ((hz.alloc hz.size _).alloc (hz.alloc hz.size _).size _).drew)) n0 (cells_one_I _) (by unfold maxLen; omega) (by omega) ?_; intro aoA capA wA roA bA; (try (have szT : wB.heap.size ≤ wA.heap.size := (by have hq := bA.size; first | exact hq | (simp at hq; omega)))); have hX : wA.heap[w.heap.size]? = some (.cells #[.slice a0 x.fRefs.length c0, .slice a1 x.fLast.length c1] 30 (0, 0)) := blk_below (by first | exact hX | exact blk_alloc hX _ | exact blk_alloc (blk_alloc hX _) _ | exact blk_alloc hXz _ | exact blk_alloc (blk_alloc hXz _) _) bA (Nat.le_refl _); have hR : wA.heap[w.heap.size + 1]? = some (.cells #[.slice none 0 0, .slice none 0 0] 30 (0, 0)) := blk_below (by first | exact hR | exact blk_alloc hR _ | exact blk_alloc (blk_alloc hR _) _ | exact blk_alloc hRz _ | exact blk_alloc (blk_alloc hRz _) _) bA (Nat.le_refl _); have hb : Below w.heap.size w wA := Below.trans (by first | exact hb | exact hb.alloc hb.size _ | exact (hb.alloc hb.size _).alloc (hb.alloc hb.size _).size _ | exact (hz.alloc hz.size _).drew | exact ((hz.alloc hz.size _).alloc (hz.alloc hz.size _).size _).drew) (bA.mono (by first | exact hb.size | exact (hb.alloc hb.size _).size | exact ((hb.alloc hb.size _).alloc (hb.alloc hb.size _).size _).size | exact ((hz.alloc hz.size _).drew).size | exact (((hz.alloc hz.size _).alloc (hz.alloc hz.size _).size _).drew).size)); have hw : w.heap.size + 2 ≤ wA.heap.size := blk_lt hR; have k0 : wA.cell? ⟨w.heap.size, 0, none⟩ = some (.slice a0 x.fRefs.length c0) := blk_cell hX 0; have k1 : wA.cell? ⟨w.heap.size, 1, none⟩ = some (.slice a1 x.fLast.length c1) := blk_cell hX 1; have k2 : wA.cell? ⟨w.heap.size + 1, 0, none⟩ = some (.slice none 0 0) := blk_cell hR 0; have k3 : wA.cell? ⟨w.heap.size + 1, 1, none⟩ = some (.slice none 0 0) := blk_cell hR 1; have k4 := blk_frozen hR 0; have k5 := blk_frozen hR 1; try (have roB := (by first | exact roB.below bA (Nat.le_refl _) | exact (roB.below ((Below.refl _ _).alloc (Nat.le_refl _) _) (Nat.le_refl _)).below bA (Nat.le_refl _)); skip)) | (refine step_copy0 (by rfl) (.tmp 7) (.tmp 9) 23 (by rfl) 3 i0 _ 1 8 Tryz.underlying23 hi hz0 hz1 hz2 rfl (by decide) encI_len _ (by rfl) a1 c1 x.fLast (by rfl) (r1.below (by first | exact hb | exact hb.alloc hb.size _ | exact (hb.alloc hb.size _).alloc (hb.alloc hb.size _).size _ | exact (hz.alloc hz.size _).drew | exact ((hz.alloc hz.size _).alloc (hz.alloc hz.size _).size _).drew)) n1 (cells_one_I _) (by unfold maxLen; omega) (by omega) ?_; intro aoB capB wB roB bB; (try (have szT : wA.heap.size ≤ wB.heap.size := (by have hq := bB.size; first | exact hq | (simp at hq; omega)))); have hX : wB.heap[w.heap.size]? = some (.cells #[.slice a0 x.fRefs.length c0, .slice a1 x.fLast.length c1] 30 (0, 0)) := blk_below (by first | exact hX | exact blk_alloc hX _ | exact blk_alloc (blk_alloc hX _) _ | exact blk_alloc hXz _ | exact blk_alloc (blk_alloc hXz _) _) bB (Nat.le_refl _); have hR : wB.heap[w.heap.size + 1]? = some (.cells #[.slice none 0 0, .slice none 0 0] 30 (0, 0)) := blk_below (by first | exact hR | exact blk_alloc hR _ | exact blk_alloc (blk_alloc hR _) _ | exact blk_alloc hRz _ | exact blk_alloc (blk_alloc hRz _) _) bB (Nat.le_refl _); have hb : Below w.heap.size w wB := Below.trans (by first | exact hb | exact hb.alloc hb.size _ | exact (hb.alloc hb.size _).alloc (hb.alloc hb.size _).size _ | exact (hz.alloc hz.size _).drew | exact ((hz.alloc hz.size _).alloc (hz.alloc hz.size _).size _).drew) (bB.mono (by first | exact hb.size | exact (hb.alloc hb.size _).size | exact ((hb.alloc hb.size _).alloc (hb.alloc hb.size _).size _).size | exact ((hz.alloc hz.size _).drew).size | exact (((hz.alloc hz.size _).alloc (hz.alloc hz.size _).size _).drew).size)); have hw : w.heap.size + 2 ≤ wB.heap.size := blk_lt hR; have k0 : wB.cell? ⟨w.heap.size, 0, none⟩ = some (.slice a0 x.fRefs.length c0) := blk_cell hX 0; have k1 : wB.cell? ⟨w.heap.size, 1, none⟩ = some (.slice a1 x.fLast.length c1) := blk_cell hX 1; have k2 : wB.cell? ⟨w.heap.size + 1, 0, none⟩ = some (.slice none 0 0) := blk_cell hR 0; have k3 : wB.cell? ⟨w.heap.size + 1, 1, none⟩ = some (.slice none 0 0) := blk_cell hR 1; have k4 := blk_frozen hR 0; have k5 := blk_frozen hR 1; try (have roA := (by first | exact roA.below bB (Nat.le_refl _) | exact (roA.below ((Below.refl _ _).alloc (Nat.le_refl _) _) (Nat.le_refl _)).below bB (Nat.le_refl _)); skip)))
  all_goals
    go_wp2
    refine bodyPost_ret (v := .agg #[.slice aoA x.fRefs.length capA, .slice aoB x.fLast.length capB]) (by simp [results, Tryz.results53, go_sem, k2, k3]) rfl ?_
    refine ⟨_, rfl, ⟨_, _, _, _, rfl, ?q0, ?q1, ?q2⟩, ?q3⟩
    case q0 =>
      refine RowO.mono ((roA.set ?_ _).set ?_ _) ?_ ?_
      all_goals (first | omega | (simp; done) | (simp; omega))
    case q1 =>
      refine RowO.mono ((roB.set ?_ _).set ?_ _) ?_ ?_
      all_goals (first | omega | (simp; done) | (simp; omega))
    case q2 =>
      first
        | exact Apart.of_lt (m := wA.heap.size) (fun g hg => (roA.lt g hg).2.1) (fun g hg => by have := (roB.lt g hg).1; first | exact this | (simp at this; omega))
        | exact (Apart.of_lt (m := wB.heap.size) (fun g hg => (roB.lt g hg).2.1) (fun g hg => by have := (roA.lt g hg).1; first | exact this | (simp at this; omega))).symm
    case q3 =>
      refine Below.setCell (Below.setCell hb ?_ _) ?_ _
      all_goals (first | omega | (simp; done) | (simp; omega))
open Go.RowKit
theorem storeClone_any (v : Value) (x : StoreD) (w : World) (hf : x.Fit) (hr : StoreD.Reads w v x) :
    Calls Tryz.prog 70 #[v] w fun e w' => ∃ v', e = .returned v' ∧ StoreD.Own w' w.heap.size w'.heap.size v' x ∧ Below w.heap.size w w' := by
  obtain ⟨a0, c0, a1, c1, a2, c2, a4, c4, a6, c6, rfl, r0, r1, r2, r4, r6⟩ := hr
  have hf0 := hf.f0
  have hf1 := hf.f1
  have hf2 := hf.f2
  have hf4 := hf.f4
  have hf6 := hf.f6
  have hb0 : Below w.heap.size w ((w.alloc (.cells #[.slice a0 x.fRows.length c0, .slice a1 x.fSpace.fRefs.length c1, .slice a2 x.fSpace.fLast.length c2, .int .i64 x.fTxg, .slice a4 x.fGone.length c4, .int .i64 x.fKeep, .slice a6 x.fDead.length c6, .bool x.fSame] 33)).alloc (.cells #[.slice none 0 0, .slice none 0 0, .slice none 0 0, .int .i64 0, .slice none 0 0, .int .i64 0, .slice none 0 0, .bool false] 33)) := ((Below.refl _ _).alloc (Nat.le_refl _) _).alloc (by simp) _
  have hX0 : ((w.alloc (.cells #[.slice a0 x.fRows.length c0, .slice a1 x.fSpace.fRefs.length c1, .slice a2 x.fSpace.fLast.length c2, .int .i64 x.fTxg, .slice a4 x.fGone.length c4, .int .i64 x.fKeep, .slice a6 x.fDead.length c6, .bool x.fSame] 33)).alloc (.cells #[.slice none 0 0, .slice none 0 0, .slice none 0 0, .int .i64 0, .slice none 0 0, .int .i64 0, .slice none 0 0, .bool false] 33)).heap[w.heap.size]? = some (.cells #[.slice a0 x.fRows.length c0, .slice a1 x.fSpace.fRefs.length c1, .slice a2 x.fSpace.fLast.length c2, .int .i64 x.fTxg, .slice a4 x.fGone.length c4, .int .i64 x.fKeep, .slice a6 x.fDead.length c6, .bool x.fSame] 33 (0, 0)) := blk_alloc (blk_new w _ _ rfl) _
  have hR0 : ((w.alloc (.cells #[.slice a0 x.fRows.length c0, .slice a1 x.fSpace.fRefs.length c1, .slice a2 x.fSpace.fLast.length c2, .int .i64 x.fTxg, .slice a4 x.fGone.length c4, .int .i64 x.fKeep, .slice a6 x.fDead.length c6, .bool x.fSame] 33)).alloc (.cells #[.slice none 0 0, .slice none 0 0, .slice none 0 0, .int .i64 0, .slice none 0 0, .int .i64 0, .slice none 0 0, .bool false] 33)).heap[w.heap.size + 1]? = some (.cells #[.slice none 0 0, .slice none 0 0, .slice none 0 0, .int .i64 0, .slice none 0 0, .int .i64 0, .slice none 0 0, .bool false] 33 (0, 0)) := blk_new _ _ (w.heap.size + 1) (by simp)
  have hw0 : w.heap.size + 2 ≤ ((w.alloc (.cells #[.slice a0 x.fRows.length c0, .slice a1 x.fSpace.fRefs.length c1, .slice a2 x.fSpace.fLast.length c2, .int .i64 x.fTxg, .slice a4 x.fGone.length c4, .int .i64 x.fKeep, .slice a6 x.fDead.length c6, .bool x.fSame] 33)).alloc (.cells #[.slice none 0 0, .slice none 0 0, .slice none 0 0, .int .i64 0, .slice none 0 0, .int .i64 0, .slice none 0 0, .bool false] 33)).heap.size := blk_lt hR0
  go_enter Tryz.func70, Tryz.ntmps70
  have hB1 := hb0
  go_wp2_with fail
  refine (cloneS_any a0 c0 x.fRows _ hf0 (r0.below hB1)).mono ?_
  rintro e w1 ⟨⟨p0, q0, rfl, ro0⟩, b1⟩
  have hb1 := hB1.trans (b1.mono (by first | exact hB1.size | omega | (simp; done) | (simp; omega)))
  have hX1 : w1.heap[w.heap.size]? = some (.cells #[.slice a0 x.fRows.length c0, .slice a1 x.fSpace.fRefs.length c1, .slice a2 x.fSpace.fLast.length c2, .int .i64 x.fTxg, .slice a4 x.fGone.length c4, .int .i64 x.fKeep, .slice a6 x.fDead.length c6, .bool x.fSame] 33 (0, 0)) := blk_below hX0 b1 (by first | exact Nat.le_refl _ | (simp; done) | (simp; omega))
  have hR1 : w1.heap[w.heap.size + 1]? = some (.cells #[.slice none 0 0, .slice none 0 0, .slice none 0 0, .int .i64 0, .slice none 0 0, .int .i64 0, .slice none 0 0, .bool false] 33 (0, 0)) := blk_below hR0 b1 (by first | exact Nat.le_refl _ | (simp; done) | (simp; omega))
  have hw1 : w.heap.size + 2 ≤ w1.heap.size := blk_lt hR1
  have hlt1 : w.heap.size < w1.heap.size := by omega
  have hs1 := b1.size
  try simp only [sz_alloc] at hs1
  try simp only [sz_set] at hs1
  have ro0 := RowO.mono (B' := w.heap.size + 2) ro0 (by first | exact hw0 | omega | (simp; done) | (simp; omega)) (Nat.le_refl _)
  clear b1 hB1 hX0 hR0 hb0
  have kx0 : w1.cell? ⟨w.heap.size, 0, none⟩ = some (.slice a0 x.fRows.length c0) := blk_cell hX1 0
  have kx1 : w1.cell? ⟨w.heap.size, 1, none⟩ = some (.slice a1 x.fSpace.fRefs.length c1) := blk_cell hX1 1
  have kx2 : w1.cell? ⟨w.heap.size, 2, none⟩ = some (.slice a2 x.fSpace.fLast.length c2) := blk_cell hX1 2
  have kx3 : w1.cell? ⟨w.heap.size, 3, none⟩ = some (.int .i64 x.fTxg) := blk_cell hX1 3
  have kx4 : w1.cell? ⟨w.heap.size, 4, none⟩ = some (.slice a4 x.fGone.length c4) := blk_cell hX1 4
  have kx5 : w1.cell? ⟨w.heap.size, 5, none⟩ = some (.int .i64 x.fKeep) := blk_cell hX1 5
  have kx6 : w1.cell? ⟨w.heap.size, 6, none⟩ = some (.slice a6 x.fDead.length c6) := blk_cell hX1 6
  have kx7 : w1.cell? ⟨w.heap.size, 7, none⟩ = some (.bool x.fSame) := blk_cell hX1 7
  have kf0 := blk_frozen hX1 0
  have hB2 := (hb1.setCell (p := ⟨w.heap.size, 0, none⟩) (Nat.le_refl _) (.slice p0 x.fRows.length q0))
  go_wp2_with fail
  refine (spaceClone_any _ x.fSpace _ ⟨hf1, hf2⟩ ⟨a1, c1, a2, c2, rfl, r1.below hB2, r2.below hB2⟩).mono ?_
  rintro e w2 ⟨_, rfl, ⟨p1, q1, p2, q2, rfl, ro1, ro2, ap1_2⟩, b2⟩
  have hb2 := hB2.trans (b2.mono (by first | exact hB2.size | omega | (simp; done) | (simp; omega)))
  have hX2 : w2.heap[w.heap.size]? = some (.cells #[.slice p0 x.fRows.length q0, .slice a1 x.fSpace.fRefs.length c1, .slice a2 x.fSpace.fLast.length c2, .int .i64 x.fTxg, .slice a4 x.fGone.length c4, .int .i64 x.fKeep, .slice a6 x.fDead.length c6, .bool x.fSame] 33 (0, 0)) := blk_below (blk_set hX1 (i := 0) (.slice p0 x.fRows.length q0)) b2 (by first | exact Nat.le_refl _ | (simp; done) | (simp; omega))
  have hR2 : w2.heap[w.heap.size + 1]? = some (.cells #[.slice none 0 0, .slice none 0 0, .slice none 0 0, .int .i64 0, .slice none 0 0, .int .i64 0, .slice none 0 0, .bool false] 33 (0, 0)) := blk_below (blk_set_other hR1 (p := ⟨w.heap.size, 0, none⟩) (by simp) (.slice p0 x.fRows.length q0)) b2 (by first | exact Nat.le_refl _ | (simp; done) | (simp; omega))
  have hw2 : w.heap.size + 2 ≤ w2.heap.size := blk_lt hR2
  have hlt2 : w.heap.size < w2.heap.size := by omega
  have hs2 := b2.size
  try simp only [sz_alloc] at hs2
  try simp only [sz_set] at hs2
  have ro0 := RowO.below (ro0.set (p := ⟨w.heap.size, 0, none⟩) (by simp) (.slice p0 x.fRows.length q0)) b2 (by first | exact Nat.le_refl _ | (simp; done) | (simp; omega))
  have ap0_1 := Apart.of_lt (m := w1.heap.size) (fun g hg => (ro0.lt g hg).2.1) (fun g hg => by have := (ro1.lt g hg).1; first | exact this | omega | (simp at this; omega))
  have ap0_2 := Apart.of_lt (m := w1.heap.size) (fun g hg => (ro0.lt g hg).2.1) (fun g hg => by have := (ro2.lt g hg).1; first | exact this | omega | (simp at this; omega))
  have ro0 := RowO.mono ro0 (Nat.le_refl (w.heap.size + 2)) (show w1.heap.size ≤ w2.heap.size by omega)
  have ro1 := RowO.mono (B' := w.heap.size + 2) ro1 (by first | exact hw1 | omega | (simp; done) | (simp; omega)) (Nat.le_refl _)
  have ro2 := RowO.mono (B' := w.heap.size + 2) ro2 (by first | exact hw1 | omega | (simp; done) | (simp; omega)) (Nat.le_refl _)
  clear b2 hB2 hX1 hR1 hb1
  clear kx0 kx1 kx2 kx3 kx4 kx5 kx6 kx7 kf0
  have kx0 : w2.cell? ⟨w.heap.size, 0, none⟩ = some (.slice p0 x.fRows.length q0) := blk_cell hX2 0
  have kx1 : w2.cell? ⟨w.heap.size, 1, none⟩ = some (.slice a1 x.fSpace.fRefs.length c1) := blk_cell hX2 1
  have kx2 : w2.cell? ⟨w.heap.size, 2, none⟩ = some (.slice a2 x.fSpace.fLast.length c2) := blk_cell hX2 2
  have kx3 : w2.cell? ⟨w.heap.size, 3, none⟩ = some (.int .i64 x.fTxg) := blk_cell hX2 3
  have kx4 : w2.cell? ⟨w.heap.size, 4, none⟩ = some (.slice a4 x.fGone.length c4) := blk_cell hX2 4
  have kx5 : w2.cell? ⟨w.heap.size, 5, none⟩ = some (.int .i64 x.fKeep) := blk_cell hX2 5
  have kx6 : w2.cell? ⟨w.heap.size, 6, none⟩ = some (.slice a6 x.fDead.length c6) := blk_cell hX2 6
  have kx7 : w2.cell? ⟨w.heap.size, 7, none⟩ = some (.bool x.fSame) := blk_cell hX2 7
  have kf1 := blk_frozen hX2 1
  have kf2 := blk_frozen hX2 2
  have hB3 := ((hb2.setCell (p := ⟨w.heap.size, 1, none⟩) (Nat.le_refl _) (.slice p1 x.fSpace.fRefs.length q1)).setCell (p := ⟨w.heap.size, 2, none⟩) (Nat.le_refl _) (.slice p2 x.fSpace.fLast.length q2))
  go_wp2_with fail
  refine (cloneP_any a4 c4 x.fGone _ hf4 (r4.below hB3)).mono ?_
  rintro e w3 ⟨⟨p4, q4, rfl, ro4⟩, b3⟩
  have hb3 := hB3.trans (b3.mono (by first | exact hB3.size | omega | (simp; done) | (simp; omega)))
  have hX3 : w3.heap[w.heap.size]? = some (.cells #[.slice p0 x.fRows.length q0, .slice p1 x.fSpace.fRefs.length q1, .slice p2 x.fSpace.fLast.length q2, .int .i64 x.fTxg, .slice a4 x.fGone.length c4, .int .i64 x.fKeep, .slice a6 x.fDead.length c6, .bool x.fSame] 33 (0, 0)) := blk_below (blk_set (blk_set hX2 (i := 1) (.slice p1 x.fSpace.fRefs.length q1)) (i := 2) (.slice p2 x.fSpace.fLast.length q2)) b3 (by first | exact Nat.le_refl _ | (simp; done) | (simp; omega))
  have hR3 : w3.heap[w.heap.size + 1]? = some (.cells #[.slice none 0 0, .slice none 0 0, .slice none 0 0, .int .i64 0, .slice none 0 0, .int .i64 0, .slice none 0 0, .bool false] 33 (0, 0)) := blk_below (blk_set_other (blk_set_other hR2 (p := ⟨w.heap.size, 1, none⟩) (by simp) (.slice p1 x.fSpace.fRefs.length q1)) (p := ⟨w.heap.size, 2, none⟩) (by simp) (.slice p2 x.fSpace.fLast.length q2)) b3 (by first | exact Nat.le_refl _ | (simp; done) | (simp; omega))
  have hw3 : w.heap.size + 2 ≤ w3.heap.size := blk_lt hR3
  have hlt3 : w.heap.size < w3.heap.size := by omega
  have hs3 := b3.size
  try simp only [sz_alloc] at hs3
  try simp only [sz_set] at hs3
  have ro0 := RowO.below ((ro0.set (p := ⟨w.heap.size, 1, none⟩) (by simp) (.slice p1 x.fSpace.fRefs.length q1)).set (p := ⟨w.heap.size, 2, none⟩) (by simp) (.slice p2 x.fSpace.fLast.length q2)) b3 (by first | exact Nat.le_refl _ | (simp; done) | (simp; omega))
  have ro1 := RowO.below ((ro1.set (p := ⟨w.heap.size, 1, none⟩) (by simp) (.slice p1 x.fSpace.fRefs.length q1)).set (p := ⟨w.heap.size, 2, none⟩) (by simp) (.slice p2 x.fSpace.fLast.length q2)) b3 (by first | exact Nat.le_refl _ | (simp; done) | (simp; omega))
  have ro2 := RowO.below ((ro2.set (p := ⟨w.heap.size, 1, none⟩) (by simp) (.slice p1 x.fSpace.fRefs.length q1)).set (p := ⟨w.heap.size, 2, none⟩) (by simp) (.slice p2 x.fSpace.fLast.length q2)) b3 (by first | exact Nat.le_refl _ | (simp; done) | (simp; omega))
  have ap0_4 := Apart.of_lt (m := w2.heap.size) (fun g hg => (ro0.lt g hg).2.1) (fun g hg => by have := (ro4.lt g hg).1; first | exact this | omega | (simp at this; omega))
  have ap1_4 := Apart.of_lt (m := w2.heap.size) (fun g hg => (ro1.lt g hg).2.1) (fun g hg => by have := (ro4.lt g hg).1; first | exact this | omega | (simp at this; omega))
  have ap2_4 := Apart.of_lt (m := w2.heap.size) (fun g hg => (ro2.lt g hg).2.1) (fun g hg => by have := (ro4.lt g hg).1; first | exact this | omega | (simp at this; omega))
  have ro0 := RowO.mono ro0 (Nat.le_refl (w.heap.size + 2)) (show w2.heap.size ≤ w3.heap.size by omega)
  have ro1 := RowO.mono ro1 (Nat.le_refl (w.heap.size + 2)) (show w2.heap.size ≤ w3.heap.size by omega)
  have ro2 := RowO.mono ro2 (Nat.le_refl (w.heap.size + 2)) (show w2.heap.size ≤ w3.heap.size by omega)
  have ro4 := RowO.mono (B' := w.heap.size + 2) ro4 (by first | exact hw2 | omega | (simp; done) | (simp; omega)) (Nat.le_refl _)
  clear b3 hB3 hX2 hR2 hb2
  clear kx0 kx1 kx2 kx3 kx4 kx5 kx6 kx7 kf1 kf2
  have kx0 : w3.cell? ⟨w.heap.size, 0, none⟩ = some (.slice p0 x.fRows.length q0) := blk_cell hX3 0
  have kx1 : w3.cell? ⟨w.heap.size, 1, none⟩ = some (.slice p1 x.fSpace.fRefs.length q1) := blk_cell hX3 1
  have kx2 : w3.cell? ⟨w.heap.size, 2, none⟩ = some (.slice p2 x.fSpace.fLast.length q2) := blk_cell hX3 2
  have kx3 : w3.cell? ⟨w.heap.size, 3, none⟩ = some (.int .i64 x.fTxg) := blk_cell hX3 3
  have kx4 : w3.cell? ⟨w.heap.size, 4, none⟩ = some (.slice a4 x.fGone.length c4) := blk_cell hX3 4
  have kx5 : w3.cell? ⟨w.heap.size, 5, none⟩ = some (.int .i64 x.fKeep) := blk_cell hX3 5
  have kx6 : w3.cell? ⟨w.heap.size, 6, none⟩ = some (.slice a6 x.fDead.length c6) := blk_cell hX3 6
  have kx7 : w3.cell? ⟨w.heap.size, 7, none⟩ = some (.bool x.fSame) := blk_cell hX3 7
  have kf4 := blk_frozen hX3 4
  have hB4 := (hb3.setCell (p := ⟨w.heap.size, 4, none⟩) (Nat.le_refl _) (.slice p4 x.fGone.length q4))
  go_wp2_with fail
  refine (cloneP_any a6 c6 x.fDead _ hf6 (r6.below hB4)).mono ?_
  rintro e w4 ⟨⟨p6, q6, rfl, ro6⟩, b4⟩
  have hb4 := hB4.trans (b4.mono (by first | exact hB4.size | omega | (simp; done) | (simp; omega)))
  have hX4 : w4.heap[w.heap.size]? = some (.cells #[.slice p0 x.fRows.length q0, .slice p1 x.fSpace.fRefs.length q1, .slice p2 x.fSpace.fLast.length q2, .int .i64 x.fTxg, .slice p4 x.fGone.length q4, .int .i64 x.fKeep, .slice a6 x.fDead.length c6, .bool x.fSame] 33 (0, 0)) := blk_below (blk_set hX3 (i := 4) (.slice p4 x.fGone.length q4)) b4 (by first | exact Nat.le_refl _ | (simp; done) | (simp; omega))
  have hR4 : w4.heap[w.heap.size + 1]? = some (.cells #[.slice none 0 0, .slice none 0 0, .slice none 0 0, .int .i64 0, .slice none 0 0, .int .i64 0, .slice none 0 0, .bool false] 33 (0, 0)) := blk_below (blk_set_other hR3 (p := ⟨w.heap.size, 4, none⟩) (by simp) (.slice p4 x.fGone.length q4)) b4 (by first | exact Nat.le_refl _ | (simp; done) | (simp; omega))
  have hw4 : w.heap.size + 2 ≤ w4.heap.size := blk_lt hR4
  have hlt4 : w.heap.size < w4.heap.size := by omega
  have hs4 := b4.size
  try simp only [sz_alloc] at hs4
  try simp only [sz_set] at hs4
  have ro0 := RowO.below (ro0.set (p := ⟨w.heap.size, 4, none⟩) (by simp) (.slice p4 x.fGone.length q4)) b4 (by first | exact Nat.le_refl _ | (simp; done) | (simp; omega))
  have ro1 := RowO.below (ro1.set (p := ⟨w.heap.size, 4, none⟩) (by simp) (.slice p4 x.fGone.length q4)) b4 (by first | exact Nat.le_refl _ | (simp; done) | (simp; omega))
  have ro2 := RowO.below (ro2.set (p := ⟨w.heap.size, 4, none⟩) (by simp) (.slice p4 x.fGone.length q4)) b4 (by first | exact Nat.le_refl _ | (simp; done) | (simp; omega))
  have ro4 := RowO.below (ro4.set (p := ⟨w.heap.size, 4, none⟩) (by simp) (.slice p4 x.fGone.length q4)) b4 (by first | exact Nat.le_refl _ | (simp; done) | (simp; omega))
  have ap0_6 := Apart.of_lt (m := w3.heap.size) (fun g hg => (ro0.lt g hg).2.1) (fun g hg => by have := (ro6.lt g hg).1; first | exact this | omega | (simp at this; omega))
  have ap1_6 := Apart.of_lt (m := w3.heap.size) (fun g hg => (ro1.lt g hg).2.1) (fun g hg => by have := (ro6.lt g hg).1; first | exact this | omega | (simp at this; omega))
  have ap2_6 := Apart.of_lt (m := w3.heap.size) (fun g hg => (ro2.lt g hg).2.1) (fun g hg => by have := (ro6.lt g hg).1; first | exact this | omega | (simp at this; omega))
  have ap4_6 := Apart.of_lt (m := w3.heap.size) (fun g hg => (ro4.lt g hg).2.1) (fun g hg => by have := (ro6.lt g hg).1; first | exact this | omega | (simp at this; omega))
  have ro0 := RowO.mono ro0 (Nat.le_refl (w.heap.size + 2)) (show w3.heap.size ≤ w4.heap.size by omega)
  have ro1 := RowO.mono ro1 (Nat.le_refl (w.heap.size + 2)) (show w3.heap.size ≤ w4.heap.size by omega)
  have ro2 := RowO.mono ro2 (Nat.le_refl (w.heap.size + 2)) (show w3.heap.size ≤ w4.heap.size by omega)
  have ro4 := RowO.mono ro4 (Nat.le_refl (w.heap.size + 2)) (show w3.heap.size ≤ w4.heap.size by omega)
  have ro6 := RowO.mono (B' := w.heap.size + 2) ro6 (by first | exact hw3 | omega | (simp; done) | (simp; omega)) (Nat.le_refl _)
  clear b4 hB4 hX3 hR3 hb3
  clear kx0 kx1 kx2 kx3 kx4 kx5 kx6 kx7 kf4
  have kx0 : w4.cell? ⟨w.heap.size, 0, none⟩ = some (.slice p0 x.fRows.length q0) := blk_cell hX4 0
  have kx1 : w4.cell? ⟨w.heap.size, 1, none⟩ = some (.slice p1 x.fSpace.fRefs.length q1) := blk_cell hX4 1
  have kx2 : w4.cell? ⟨w.heap.size, 2, none⟩ = some (.slice p2 x.fSpace.fLast.length q2) := blk_cell hX4 2
  have kx3 : w4.cell? ⟨w.heap.size, 3, none⟩ = some (.int .i64 x.fTxg) := blk_cell hX4 3
  have kx4 : w4.cell? ⟨w.heap.size, 4, none⟩ = some (.slice p4 x.fGone.length q4) := blk_cell hX4 4
  have kx5 : w4.cell? ⟨w.heap.size, 5, none⟩ = some (.int .i64 x.fKeep) := blk_cell hX4 5
  have kx6 : w4.cell? ⟨w.heap.size, 6, none⟩ = some (.slice a6 x.fDead.length c6) := blk_cell hX4 6
  have kx7 : w4.cell? ⟨w.heap.size, 7, none⟩ = some (.bool x.fSame) := blk_cell hX4 7
  have kf6 := blk_frozen hX4 6
  have pr0 : w4.cell? ⟨w.heap.size + 1, 0, none⟩ = some (.slice none 0 0) := blk_cell hR4 0
  have pg0 := blk_frozen hR4 0
  have pr1 : w4.cell? ⟨w.heap.size + 1, 1, none⟩ = some (.slice none 0 0) := blk_cell hR4 1
  have pg1 := blk_frozen hR4 1
  have pr2 : w4.cell? ⟨w.heap.size + 1, 2, none⟩ = some (.slice none 0 0) := blk_cell hR4 2
  have pg2 := blk_frozen hR4 2
  have pr3 : w4.cell? ⟨w.heap.size + 1, 3, none⟩ = some (.int .i64 0) := blk_cell hR4 3
  have pg3 := blk_frozen hR4 3
  have pr4 : w4.cell? ⟨w.heap.size + 1, 4, none⟩ = some (.slice none 0 0) := blk_cell hR4 4
  have pg4 := blk_frozen hR4 4
  have pr5 : w4.cell? ⟨w.heap.size + 1, 5, none⟩ = some (.int .i64 0) := blk_cell hR4 5
  have pg5 := blk_frozen hR4 5
  have pr6 : w4.cell? ⟨w.heap.size + 1, 6, none⟩ = some (.slice none 0 0) := blk_cell hR4 6
  have pg6 := blk_frozen hR4 6
  have pr7 : w4.cell? ⟨w.heap.size + 1, 7, none⟩ = some (.bool false) := blk_cell hR4 7
  have pg7 := blk_frozen hR4 7
  go_wp2
  refine bodyPost_ret (v := .agg #[.slice p0 x.fRows.length q0, .slice p1 x.fSpace.fRefs.length q1, .slice p2 x.fSpace.fLast.length q2, .int .i64 x.fTxg, .slice p4 x.fGone.length q4, .int .i64 x.fKeep, .slice p6 x.fDead.length q6, .bool x.fSame]) (by simp [results, Tryz.results70, go_sem, pr0, pr1, pr2, pr3, pr4, pr5, pr6, pr7]) rfl ?_
  refine ⟨_, rfl, ⟨_, _, _, _, _, _, _, _, _, _, rfl, ?g0, ?g1, ?g2, ?g4, ?g6, ap0_1, ap0_2, ap0_4, ap0_6, ap1_2, ap1_4, ap1_6, ap2_4, ap2_6, ap4_6⟩, ?_⟩
  case g0 =>
    refine RowO.mono (((((((((ro0.set ?_ _).set ?_ _).set ?_ _).set ?_ _).set ?_ _).set ?_ _).set ?_ _).set ?_ _).set ?_ _) ?_ ?_
    all_goals (first | omega | (simp; done) | (simp; omega))
  case g1 =>
    refine RowO.mono (((((((((ro1.set ?_ _).set ?_ _).set ?_ _).set ?_ _).set ?_ _).set ?_ _).set ?_ _).set ?_ _).set ?_ _) ?_ ?_
    all_goals (first | omega | (simp; done) | (simp; omega))
  case g2 =>
    refine RowO.mono (((((((((ro2.set ?_ _).set ?_ _).set ?_ _).set ?_ _).set ?_ _).set ?_ _).set ?_ _).set ?_ _).set ?_ _) ?_ ?_
    all_goals (first | omega | (simp; done) | (simp; omega))
  case g4 =>
    refine RowO.mono (((((((((ro4.set ?_ _).set ?_ _).set ?_ _).set ?_ _).set ?_ _).set ?_ _).set ?_ _).set ?_ _).set ?_ _) ?_ ?_
    all_goals (first | omega | (simp; done) | (simp; omega))
  case g6 =>
    refine RowO.mono (((((((((ro6.set ?_ _).set ?_ _).set ?_ _).set ?_ _).set ?_ _).set ?_ _).set ?_ _).set ?_ _).set ?_ _) ?_ ?_
    all_goals (first | omega | (simp; done) | (simp; omega))
  refine Below.setCell (Below.setCell (Below.setCell (Below.setCell (Below.setCell (Below.setCell (Below.setCell (Below.setCell (Below.setCell hb4 ?_ _) ?_ _) ?_ _) ?_ _) ?_ _) ?_ _) ?_ _) ?_ _) ?_ _
  all_goals (first | omega | (simp; done) | (simp; omega))
theorem l7Copy_any (v : Value) (x : StoreD) (w : World) (hf : x.Fit) {B B1 : Nat} (ho : StoreD.Own w B B1 v x) :
    Calls Tryz.prog 22 #[v] w fun e w' => ∃ v', e = .returned v' ∧ StoreD.Own w' w.heap.size w'.heap.size v' x ∧ Below w.heap.size w w' := by
  obtain ⟨a0, c0, a1, c1, a2, c2, a4, c4, a6, c6, rfl, q_0, q_1, q_2, q_4, q_6, s0_1, s0_2, s0_4, s0_6, s1_2, s1_4, s1_6, s2_4, s2_6, s4_6⟩ := ho
  clear s0_1 s0_2 s0_4 s0_6 s1_4 s1_6 s2_4 s2_6 s4_6
  obtain ⟨r0, n0⟩ := q_0.copy encS_len
  clear q_0
  obtain ⟨r4, n4⟩ := q_4.copy PtrD.cells_len
  clear q_4
  obtain ⟨r6, n6⟩ := q_6.copy PtrD.cells_len
  clear q_6
  obtain ⟨is, his, hs0, hs1, hs2⟩ := info_parts Tryz.infoStringS
  obtain ⟨ip, hip, hp0, hp1, hp2⟩ := info_parts Tryz.infoPtrS
  have hf0 := hf.f0
  have hf1 := hf.f1
  have hf2 := hf.f2
  have hf4 := hf.f4
  have hf6 := hf.f6
  have hb0 : Below w.heap.size w ((w.alloc (.cells #[.slice a0 x.fRows.length c0, .slice a1 x.fSpace.fRefs.length c1, .slice a2 x.fSpace.fLast.length c2, .int .i64 x.fTxg, .slice a4 x.fGone.length c4, .int .i64 x.fKeep, .slice a6 x.fDead.length c6, .bool x.fSame] 33)).alloc (.cells #[.slice none 0 0, .slice none 0 0, .slice none 0 0, .int .i64 0, .slice none 0 0, .int .i64 0, .slice none 0 0, .bool false] 33)) := ((Below.refl _ _).alloc (Nat.le_refl _) _).alloc (by simp) _
  have hX0 : ((w.alloc (.cells #[.slice a0 x.fRows.length c0, .slice a1 x.fSpace.fRefs.length c1, .slice a2 x.fSpace.fLast.length c2, .int .i64 x.fTxg, .slice a4 x.fGone.length c4, .int .i64 x.fKeep, .slice a6 x.fDead.length c6, .bool x.fSame] 33)).alloc (.cells #[.slice none 0 0, .slice none 0 0, .slice none 0 0, .int .i64 0, .slice none 0 0, .int .i64 0, .slice none 0 0, .bool false] 33)).heap[w.heap.size]? = some (.cells #[.slice a0 x.fRows.length c0, .slice a1 x.fSpace.fRefs.length c1, .slice a2 x.fSpace.fLast.length c2, .int .i64 x.fTxg, .slice a4 x.fGone.length c4, .int .i64 x.fKeep, .slice a6 x.fDead.length c6, .bool x.fSame] 33 (0, 0)) := blk_alloc (blk_new w _ _ rfl) _
  have hR0 : ((w.alloc (.cells #[.slice a0 x.fRows.length c0, .slice a1 x.fSpace.fRefs.length c1, .slice a2 x.fSpace.fLast.length c2, .int .i64 x.fTxg, .slice a4 x.fGone.length c4, .int .i64 x.fKeep, .slice a6 x.fDead.length c6, .bool x.fSame] 33)).alloc (.cells #[.slice none 0 0, .slice none 0 0, .slice none 0 0, .int .i64 0, .slice none 0 0, .int .i64 0, .slice none 0 0, .bool false] 33)).heap[w.heap.size + 1]? = some (.cells #[.slice none 0 0, .slice none 0 0, .slice none 0 0, .int .i64 0, .slice none 0 0, .int .i64 0, .slice none 0 0, .bool false] 33 (0, 0)) := blk_new _ _ (w.heap.size + 1) (by simp)
  have hw0 : w.heap.size + 2 ≤ ((w.alloc (.cells #[.slice a0 x.fRows.length c0, .slice a1 x.fSpace.fRefs.length c1, .slice a2 x.fSpace.fLast.length c2, .int .i64 x.fTxg, .slice a4 x.fGone.length c4, .int .i64 x.fKeep, .slice a6 x.fDead.length c6, .bool x.fSame] 33)).alloc (.cells #[.slice none 0 0, .slice none 0 0, .slice none 0 0, .int .i64 0, .slice none 0 0, .int .i64 0, .slice none 0 0, .bool false] 33)).heap.size := blk_lt hR0
  go_enter Tryz.func22, Tryz.ntmps22
  have hB1 := (hb0.alloc hb0.size (.cells #[] 9))
  go_wp2_with (at_builtin; refine wpList_copy0 rfl (.tmp 3) (.tmp 5) 22 rfl 9 is _ 1 16 Tryz.underlying22 his hs0 hs1 hs2 rfl (by decide) encS_len _ rfl a0 c0 x.fRows rfl (r0.below hB1) n0 (cells_one_S _) ?b1 ?b2 ?_)
  case b1 => unfold maxLen; omega
  case b2 => omega
  intro p0 q0 w1 ro0 b1
  have hb1 := hB1.trans (b1.mono (by first | exact hB1.size | omega | (simp; done) | (simp; omega)))
  have hX1 : w1.heap[w.heap.size]? = some (.cells #[.slice a0 x.fRows.length c0, .slice a1 x.fSpace.fRefs.length c1, .slice a2 x.fSpace.fLast.length c2, .int .i64 x.fTxg, .slice a4 x.fGone.length c4, .int .i64 x.fKeep, .slice a6 x.fDead.length c6, .bool x.fSame] 33 (0, 0)) := blk_below (blk_alloc hX0 (.cells #[] 9)) b1 (by first | exact Nat.le_refl _ | (simp; done) | (simp; omega))
  have hR1 : w1.heap[w.heap.size + 1]? = some (.cells #[.slice none 0 0, .slice none 0 0, .slice none 0 0, .int .i64 0, .slice none 0 0, .int .i64 0, .slice none 0 0, .bool false] 33 (0, 0)) := blk_below (blk_alloc hR0 (.cells #[] 9)) b1 (by first | exact Nat.le_refl _ | (simp; done) | (simp; omega))
  have hw1 : w.heap.size + 2 ≤ w1.heap.size := blk_lt hR1
  have hlt1 : w.heap.size < w1.heap.size := by omega
  have hs1 := b1.size
  try simp only [sz_alloc] at hs1
  try simp only [sz_set] at hs1
  have ro0 := RowO.mono (B' := w.heap.size + 2) ro0 (by first | exact hw0 | omega | (simp; done) | (simp; omega)) (Nat.le_refl _)
  clear b1 hB1 hX0 hR0 hb0
  have kx0 : w1.cell? ⟨w.heap.size, 0, none⟩ = some (.slice a0 x.fRows.length c0) := blk_cell hX1 0
  have kx1 : w1.cell? ⟨w.heap.size, 1, none⟩ = some (.slice a1 x.fSpace.fRefs.length c1) := blk_cell hX1 1
  have kx2 : w1.cell? ⟨w.heap.size, 2, none⟩ = some (.slice a2 x.fSpace.fLast.length c2) := blk_cell hX1 2
  have kx3 : w1.cell? ⟨w.heap.size, 3, none⟩ = some (.int .i64 x.fTxg) := blk_cell hX1 3
  have kx4 : w1.cell? ⟨w.heap.size, 4, none⟩ = some (.slice a4 x.fGone.length c4) := blk_cell hX1 4
  have kx5 : w1.cell? ⟨w.heap.size, 5, none⟩ = some (.int .i64 x.fKeep) := blk_cell hX1 5
  have kx6 : w1.cell? ⟨w.heap.size, 6, none⟩ = some (.slice a6 x.fDead.length c6) := blk_cell hX1 6
  have kx7 : w1.cell? ⟨w.heap.size, 7, none⟩ = some (.bool x.fSame) := blk_cell hX1 7
  have kf0 := blk_frozen hX1 0
  have hB2 := (hb1.setCell (p := ⟨w.heap.size, 0, none⟩) (Nat.le_refl _) (.slice p0 x.fRows.length q0))
  go_wp2_with fail
  refine (l5Copy_any _ x.fSpace _ ⟨hf1, hf2⟩ ⟨a1, c1, a2, c2, rfl, q_1.below hB2 (Nat.le_refl _), q_2.below hB2 (Nat.le_refl _), s1_2⟩).mono ?_
  rintro e w2 ⟨_, rfl, ⟨p1, q1, p2, q2, rfl, ro1, ro2, ap1_2⟩, b2⟩
  have hb2 := hB2.trans (b2.mono (by first | exact hB2.size | omega | (simp; done) | (simp; omega)))
  have hX2 : w2.heap[w.heap.size]? = some (.cells #[.slice p0 x.fRows.length q0, .slice a1 x.fSpace.fRefs.length c1, .slice a2 x.fSpace.fLast.length c2, .int .i64 x.fTxg, .slice a4 x.fGone.length c4, .int .i64 x.fKeep, .slice a6 x.fDead.length c6, .bool x.fSame] 33 (0, 0)) := blk_below (blk_set hX1 (i := 0) (.slice p0 x.fRows.length q0)) b2 (by first | exact Nat.le_refl _ | (simp; done) | (simp; omega))
  have hR2 : w2.heap[w.heap.size + 1]? = some (.cells #[.slice none 0 0, .slice none 0 0, .slice none 0 0, .int .i64 0, .slice none 0 0, .int .i64 0, .slice none 0 0, .bool false] 33 (0, 0)) := blk_below (blk_set_other hR1 (p := ⟨w.heap.size, 0, none⟩) (by simp) (.slice p0 x.fRows.length q0)) b2 (by first | exact Nat.le_refl _ | (simp; done) | (simp; omega))
  have hw2 : w.heap.size + 2 ≤ w2.heap.size := blk_lt hR2
  have hlt2 : w.heap.size < w2.heap.size := by omega
  have hs2 := b2.size
  try simp only [sz_alloc] at hs2
  try simp only [sz_set] at hs2
  have ro0 := RowO.below (ro0.set (p := ⟨w.heap.size, 0, none⟩) (by simp) (.slice p0 x.fRows.length q0)) b2 (by first | exact Nat.le_refl _ | (simp; done) | (simp; omega))
  have ap0_1 := Apart.of_lt (m := w1.heap.size) (fun g hg => (ro0.lt g hg).2.1) (fun g hg => by have := (ro1.lt g hg).1; first | exact this | omega | (simp at this; omega))
  have ap0_2 := Apart.of_lt (m := w1.heap.size) (fun g hg => (ro0.lt g hg).2.1) (fun g hg => by have := (ro2.lt g hg).1; first | exact this | omega | (simp at this; omega))
  have ro0 := RowO.mono ro0 (Nat.le_refl (w.heap.size + 2)) (show w1.heap.size ≤ w2.heap.size by omega)
  have ro1 := RowO.mono (B' := w.heap.size + 2) ro1 (by first | exact hw1 | omega | (simp; done) | (simp; omega)) (Nat.le_refl _)
  have ro2 := RowO.mono (B' := w.heap.size + 2) ro2 (by first | exact hw1 | omega | (simp; done) | (simp; omega)) (Nat.le_refl _)
  clear b2 hB2 hX1 hR1 hb1
  clear kx0 kx1 kx2 kx3 kx4 kx5 kx6 kx7 kf0
  have kx0 : w2.cell? ⟨w.heap.size, 0, none⟩ = some (.slice p0 x.fRows.length q0) := blk_cell hX2 0
  have kx1 : w2.cell? ⟨w.heap.size, 1, none⟩ = some (.slice a1 x.fSpace.fRefs.length c1) := blk_cell hX2 1
  have kx2 : w2.cell? ⟨w.heap.size, 2, none⟩ = some (.slice a2 x.fSpace.fLast.length c2) := blk_cell hX2 2
  have kx3 : w2.cell? ⟨w.heap.size, 3, none⟩ = some (.int .i64 x.fTxg) := blk_cell hX2 3
  have kx4 : w2.cell? ⟨w.heap.size, 4, none⟩ = some (.slice a4 x.fGone.length c4) := blk_cell hX2 4
  have kx5 : w2.cell? ⟨w.heap.size, 5, none⟩ = some (.int .i64 x.fKeep) := blk_cell hX2 5
  have kx6 : w2.cell? ⟨w.heap.size, 6, none⟩ = some (.slice a6 x.fDead.length c6) := blk_cell hX2 6
  have kx7 : w2.cell? ⟨w.heap.size, 7, none⟩ = some (.bool x.fSame) := blk_cell hX2 7
  have kf1 := blk_frozen hX2 1
  have kf2 := blk_frozen hX2 2
  have hB3 := (((hb2.setCell (p := ⟨w.heap.size, 1, none⟩) (Nat.le_refl _) (.slice p1 x.fSpace.fRefs.length q1)).setCell (p := ⟨w.heap.size, 2, none⟩) (Nat.le_refl _) (.slice p2 x.fSpace.fLast.length q2)).alloc ((hb2.setCell (p := ⟨w.heap.size, 1, none⟩) (Nat.le_refl _) (.slice p1 x.fSpace.fRefs.length q1)).setCell (p := ⟨w.heap.size, 2, none⟩) (Nat.le_refl _) (.slice p2 x.fSpace.fLast.length q2)).size (.cells #[] 35))
  go_wp2_with (at_builtin; refine wpList_copy0 rfl (.tmp 12) (.tmp 14) 31 rfl 35 ip _ 5 40 Tryz.underlying31 hip hp0 hp1 hp2 rfl (by decide) PtrD.cells_len _ rfl a4 c4 x.fGone rfl (r4.below hB3) n4 (cells_one_P _) ?b1 ?b2 ?_)
  case b1 => unfold maxLen; omega
  case b2 => omega
  intro p4 q4 w3 ro4 b3
  have hb3 := hB3.trans (b3.mono (by first | exact hB3.size | omega | (simp; done) | (simp; omega)))
  have hX3 : w3.heap[w.heap.size]? = some (.cells #[.slice p0 x.fRows.length q0, .slice p1 x.fSpace.fRefs.length q1, .slice p2 x.fSpace.fLast.length q2, .int .i64 x.fTxg, .slice a4 x.fGone.length c4, .int .i64 x.fKeep, .slice a6 x.fDead.length c6, .bool x.fSame] 33 (0, 0)) := blk_below (blk_alloc (blk_set (blk_set hX2 (i := 1) (.slice p1 x.fSpace.fRefs.length q1)) (i := 2) (.slice p2 x.fSpace.fLast.length q2)) (.cells #[] 35)) b3 (by first | exact Nat.le_refl _ | (simp; done) | (simp; omega))
  have hR3 : w3.heap[w.heap.size + 1]? = some (.cells #[.slice none 0 0, .slice none 0 0, .slice none 0 0, .int .i64 0, .slice none 0 0, .int .i64 0, .slice none 0 0, .bool false] 33 (0, 0)) := blk_below (blk_alloc (blk_set_other (blk_set_other hR2 (p := ⟨w.heap.size, 1, none⟩) (by simp) (.slice p1 x.fSpace.fRefs.length q1)) (p := ⟨w.heap.size, 2, none⟩) (by simp) (.slice p2 x.fSpace.fLast.length q2)) (.cells #[] 35)) b3 (by first | exact Nat.le_refl _ | (simp; done) | (simp; omega))
  have hw3 : w.heap.size + 2 ≤ w3.heap.size := blk_lt hR3
  have hlt3 : w.heap.size < w3.heap.size := by omega
  have hs3 := b3.size
  try simp only [sz_alloc] at hs3
  try simp only [sz_set] at hs3
  have ro0 := RowO.below (RowO.below ((ro0.set (p := ⟨w.heap.size, 1, none⟩) (by simp) (.slice p1 x.fSpace.fRefs.length q1)).set (p := ⟨w.heap.size, 2, none⟩) (by simp) (.slice p2 x.fSpace.fLast.length q2)) ((Below.refl _ _).alloc (Nat.le_refl _) (.cells #[] 35)) (Nat.le_refl _)) b3 (by first | exact Nat.le_refl _ | (simp; done) | (simp; omega))
  have ro1 := RowO.below (RowO.below ((ro1.set (p := ⟨w.heap.size, 1, none⟩) (by simp) (.slice p1 x.fSpace.fRefs.length q1)).set (p := ⟨w.heap.size, 2, none⟩) (by simp) (.slice p2 x.fSpace.fLast.length q2)) ((Below.refl _ _).alloc (Nat.le_refl _) (.cells #[] 35)) (Nat.le_refl _)) b3 (by first | exact Nat.le_refl _ | (simp; done) | (simp; omega))
  have ro2 := RowO.below (RowO.below ((ro2.set (p := ⟨w.heap.size, 1, none⟩) (by simp) (.slice p1 x.fSpace.fRefs.length q1)).set (p := ⟨w.heap.size, 2, none⟩) (by simp) (.slice p2 x.fSpace.fLast.length q2)) ((Below.refl _ _).alloc (Nat.le_refl _) (.cells #[] 35)) (Nat.le_refl _)) b3 (by first | exact Nat.le_refl _ | (simp; done) | (simp; omega))
  have ap0_4 := Apart.of_lt (m := w2.heap.size) (fun g hg => (ro0.lt g hg).2.1) (fun g hg => by have := (ro4.lt g hg).1; first | exact this | omega | (simp at this; omega))
  have ap1_4 := Apart.of_lt (m := w2.heap.size) (fun g hg => (ro1.lt g hg).2.1) (fun g hg => by have := (ro4.lt g hg).1; first | exact this | omega | (simp at this; omega))
  have ap2_4 := Apart.of_lt (m := w2.heap.size) (fun g hg => (ro2.lt g hg).2.1) (fun g hg => by have := (ro4.lt g hg).1; first | exact this | omega | (simp at this; omega))
  have ro0 := RowO.mono ro0 (Nat.le_refl (w.heap.size + 2)) (show w2.heap.size ≤ w3.heap.size by omega)
  have ro1 := RowO.mono ro1 (Nat.le_refl (w.heap.size + 2)) (show w2.heap.size ≤ w3.heap.size by omega)
  have ro2 := RowO.mono ro2 (Nat.le_refl (w.heap.size + 2)) (show w2.heap.size ≤ w3.heap.size by omega)
  have ro4 := RowO.mono (B' := w.heap.size + 2) ro4 (by first | exact hw2 | omega | (simp; done) | (simp; omega)) (Nat.le_refl _)
  clear b3 hB3 hX2 hR2 hb2
  clear kx0 kx1 kx2 kx3 kx4 kx5 kx6 kx7 kf1 kf2
  have kx0 : w3.cell? ⟨w.heap.size, 0, none⟩ = some (.slice p0 x.fRows.length q0) := blk_cell hX3 0
  have kx1 : w3.cell? ⟨w.heap.size, 1, none⟩ = some (.slice p1 x.fSpace.fRefs.length q1) := blk_cell hX3 1
  have kx2 : w3.cell? ⟨w.heap.size, 2, none⟩ = some (.slice p2 x.fSpace.fLast.length q2) := blk_cell hX3 2
  have kx3 : w3.cell? ⟨w.heap.size, 3, none⟩ = some (.int .i64 x.fTxg) := blk_cell hX3 3
  have kx4 : w3.cell? ⟨w.heap.size, 4, none⟩ = some (.slice a4 x.fGone.length c4) := blk_cell hX3 4
  have kx5 : w3.cell? ⟨w.heap.size, 5, none⟩ = some (.int .i64 x.fKeep) := blk_cell hX3 5
  have kx6 : w3.cell? ⟨w.heap.size, 6, none⟩ = some (.slice a6 x.fDead.length c6) := blk_cell hX3 6
  have kx7 : w3.cell? ⟨w.heap.size, 7, none⟩ = some (.bool x.fSame) := blk_cell hX3 7
  have kf4 := blk_frozen hX3 4
  have hB4 := ((hb3.setCell (p := ⟨w.heap.size, 4, none⟩) (Nat.le_refl _) (.slice p4 x.fGone.length q4)).alloc (hb3.setCell (p := ⟨w.heap.size, 4, none⟩) (Nat.le_refl _) (.slice p4 x.fGone.length q4)).size (.cells #[] 35))
  go_wp2_with (at_builtin; refine wpList_copy0 rfl (.tmp 17) (.tmp 19) 31 rfl 35 ip _ 5 40 Tryz.underlying31 hip hp0 hp1 hp2 rfl (by decide) PtrD.cells_len _ rfl a6 c6 x.fDead rfl (r6.below hB4) n6 (cells_one_P _) ?b1 ?b2 ?_)
  case b1 => unfold maxLen; omega
  case b2 => omega
  intro p6 q6 w4 ro6 b4
  have hb4 := hB4.trans (b4.mono (by first | exact hB4.size | omega | (simp; done) | (simp; omega)))
  have hX4 : w4.heap[w.heap.size]? = some (.cells #[.slice p0 x.fRows.length q0, .slice p1 x.fSpace.fRefs.length q1, .slice p2 x.fSpace.fLast.length q2, .int .i64 x.fTxg, .slice p4 x.fGone.length q4, .int .i64 x.fKeep, .slice a6 x.fDead.length c6, .bool x.fSame] 33 (0, 0)) := blk_below (blk_alloc (blk_set hX3 (i := 4) (.slice p4 x.fGone.length q4)) (.cells #[] 35)) b4 (by first | exact Nat.le_refl _ | (simp; done) | (simp; omega))
  have hR4 : w4.heap[w.heap.size + 1]? = some (.cells #[.slice none 0 0, .slice none 0 0, .slice none 0 0, .int .i64 0, .slice none 0 0, .int .i64 0, .slice none 0 0, .bool false] 33 (0, 0)) := blk_below (blk_alloc (blk_set_other hR3 (p := ⟨w.heap.size, 4, none⟩) (by simp) (.slice p4 x.fGone.length q4)) (.cells #[] 35)) b4 (by first | exact Nat.le_refl _ | (simp; done) | (simp; omega))
  have hw4 : w.heap.size + 2 ≤ w4.heap.size := blk_lt hR4
  have hlt4 : w.heap.size < w4.heap.size := by omega
  have hs4 := b4.size
  try simp only [sz_alloc] at hs4
  try simp only [sz_set] at hs4
  have ro0 := RowO.below (RowO.below (ro0.set (p := ⟨w.heap.size, 4, none⟩) (by simp) (.slice p4 x.fGone.length q4)) ((Below.refl _ _).alloc (Nat.le_refl _) (.cells #[] 35)) (Nat.le_refl _)) b4 (by first | exact Nat.le_refl _ | (simp; done) | (simp; omega))
  have ro1 := RowO.below (RowO.below (ro1.set (p := ⟨w.heap.size, 4, none⟩) (by simp) (.slice p4 x.fGone.length q4)) ((Below.refl _ _).alloc (Nat.le_refl _) (.cells #[] 35)) (Nat.le_refl _)) b4 (by first | exact Nat.le_refl _ | (simp; done) | (simp; omega))
  have ro2 := RowO.below (RowO.below (ro2.set (p := ⟨w.heap.size, 4, none⟩) (by simp) (.slice p4 x.fGone.length q4)) ((Below.refl _ _).alloc (Nat.le_refl _) (.cells #[] 35)) (Nat.le_refl _)) b4 (by first | exact Nat.le_refl _ | (simp; done) | (simp; omega))
  have ro4 := RowO.below (RowO.below (ro4.set (p := ⟨w.heap.size, 4, none⟩) (by simp) (.slice p4 x.fGone.length q4)) ((Below.refl _ _).alloc (Nat.le_refl _) (.cells #[] 35)) (Nat.le_refl _)) b4 (by first | exact Nat.le_refl _ | (simp; done) | (simp; omega))
  have ap0_6 := Apart.of_lt (m := w3.heap.size) (fun g hg => (ro0.lt g hg).2.1) (fun g hg => by have := (ro6.lt g hg).1; first | exact this | omega | (simp at this; omega))
  have ap1_6 := Apart.of_lt (m := w3.heap.size) (fun g hg => (ro1.lt g hg).2.1) (fun g hg => by have := (ro6.lt g hg).1; first | exact this | omega | (simp at this; omega))
  have ap2_6 := Apart.of_lt (m := w3.heap.size) (fun g hg => (ro2.lt g hg).2.1) (fun g hg => by have := (ro6.lt g hg).1; first | exact this | omega | (simp at this; omega))
  have ap4_6 := Apart.of_lt (m := w3.heap.size) (fun g hg => (ro4.lt g hg).2.1) (fun g hg => by have := (ro6.lt g hg).1; first | exact this | omega | (simp at this; omega))
  have ro0 := RowO.mono ro0 (Nat.le_refl (w.heap.size + 2)) (show w3.heap.size ≤ w4.heap.size by omega)
  have ro1 := RowO.mono ro1 (Nat.le_refl (w.heap.size + 2)) (show w3.heap.size ≤ w4.heap.size by omega)
  have ro2 := RowO.mono ro2 (Nat.le_refl (w.heap.size + 2)) (show w3.heap.size ≤ w4.heap.size by omega)
  have ro4 := RowO.mono ro4 (Nat.le_refl (w.heap.size + 2)) (show w3.heap.size ≤ w4.heap.size by omega)
  have ro6 := RowO.mono (B' := w.heap.size + 2) ro6 (by first | exact hw3 | omega | (simp; done) | (simp; omega)) (Nat.le_refl _)
  clear b4 hB4 hX3 hR3 hb3
  clear kx0 kx1 kx2 kx3 kx4 kx5 kx6 kx7 kf4
  have kx0 : w4.cell? ⟨w.heap.size, 0, none⟩ = some (.slice p0 x.fRows.length q0) := blk_cell hX4 0
  have kx1 : w4.cell? ⟨w.heap.size, 1, none⟩ = some (.slice p1 x.fSpace.fRefs.length q1) := blk_cell hX4 1
  have kx2 : w4.cell? ⟨w.heap.size, 2, none⟩ = some (.slice p2 x.fSpace.fLast.length q2) := blk_cell hX4 2
  have kx3 : w4.cell? ⟨w.heap.size, 3, none⟩ = some (.int .i64 x.fTxg) := blk_cell hX4 3
  have kx4 : w4.cell? ⟨w.heap.size, 4, none⟩ = some (.slice p4 x.fGone.length q4) := blk_cell hX4 4
  have kx5 : w4.cell? ⟨w.heap.size, 5, none⟩ = some (.int .i64 x.fKeep) := blk_cell hX4 5
  have kx6 : w4.cell? ⟨w.heap.size, 6, none⟩ = some (.slice a6 x.fDead.length c6) := blk_cell hX4 6
  have kx7 : w4.cell? ⟨w.heap.size, 7, none⟩ = some (.bool x.fSame) := blk_cell hX4 7
  have kf6 := blk_frozen hX4 6
  have pr0 : w4.cell? ⟨w.heap.size + 1, 0, none⟩ = some (.slice none 0 0) := blk_cell hR4 0
  have pg0 := blk_frozen hR4 0
  have pr1 : w4.cell? ⟨w.heap.size + 1, 1, none⟩ = some (.slice none 0 0) := blk_cell hR4 1
  have pg1 := blk_frozen hR4 1
  have pr2 : w4.cell? ⟨w.heap.size + 1, 2, none⟩ = some (.slice none 0 0) := blk_cell hR4 2
  have pg2 := blk_frozen hR4 2
  have pr3 : w4.cell? ⟨w.heap.size + 1, 3, none⟩ = some (.int .i64 0) := blk_cell hR4 3
  have pg3 := blk_frozen hR4 3
  have pr4 : w4.cell? ⟨w.heap.size + 1, 4, none⟩ = some (.slice none 0 0) := blk_cell hR4 4
  have pg4 := blk_frozen hR4 4
  have pr5 : w4.cell? ⟨w.heap.size + 1, 5, none⟩ = some (.int .i64 0) := blk_cell hR4 5
  have pg5 := blk_frozen hR4 5
  have pr6 : w4.cell? ⟨w.heap.size + 1, 6, none⟩ = some (.slice none 0 0) := blk_cell hR4 6
  have pg6 := blk_frozen hR4 6
  have pr7 : w4.cell? ⟨w.heap.size + 1, 7, none⟩ = some (.bool false) := blk_cell hR4 7
  have pg7 := blk_frozen hR4 7
  go_wp2
  refine bodyPost_ret (v := .agg #[.slice p0 x.fRows.length q0, .slice p1 x.fSpace.fRefs.length q1, .slice p2 x.fSpace.fLast.length q2, .int .i64 x.fTxg, .slice p4 x.fGone.length q4, .int .i64 x.fKeep, .slice p6 x.fDead.length q6, .bool x.fSame]) (by simp [results, Tryz.results22, go_sem, pr0, pr1, pr2, pr3, pr4, pr5, pr6, pr7]) rfl ?_
  refine ⟨_, rfl, ⟨_, _, _, _, _, _, _, _, _, _, rfl, ?g0, ?g1, ?g2, ?g4, ?g6, ap0_1, ap0_2, ap0_4, ap0_6, ap1_2, ap1_4, ap1_6, ap2_4, ap2_6, ap4_6⟩, ?_⟩
  case g0 =>
    refine RowO.mono (((((((((ro0.set ?_ _).set ?_ _).set ?_ _).set ?_ _).set ?_ _).set ?_ _).set ?_ _).set ?_ _).set ?_ _) ?_ ?_
    all_goals (first | omega | (simp; done) | (simp; omega))
  case g1 =>
    refine RowO.mono (((((((((ro1.set ?_ _).set ?_ _).set ?_ _).set ?_ _).set ?_ _).set ?_ _).set ?_ _).set ?_ _).set ?_ _) ?_ ?_
    all_goals (first | omega | (simp; done) | (simp; omega))
  case g2 =>
    refine RowO.mono (((((((((ro2.set ?_ _).set ?_ _).set ?_ _).set ?_ _).set ?_ _).set ?_ _).set ?_ _).set ?_ _).set ?_ _) ?_ ?_
    all_goals (first | omega | (simp; done) | (simp; omega))
  case g4 =>
    refine RowO.mono (((((((((ro4.set ?_ _).set ?_ _).set ?_ _).set ?_ _).set ?_ _).set ?_ _).set ?_ _).set ?_ _).set ?_ _) ?_ ?_
    all_goals (first | omega | (simp; done) | (simp; omega))
  case g6 =>
    refine RowO.mono (((((((((ro6.set ?_ _).set ?_ _).set ?_ _).set ?_ _).set ?_ _).set ?_ _).set ?_ _).set ?_ _).set ?_ _) ?_ ?_
    all_goals (first | omega | (simp; done) | (simp; omega))
  refine Below.setCell (Below.setCell (Below.setCell (Below.setCell (Below.setCell (Below.setCell (Below.setCell (Below.setCell (Below.setCell hb4 ?_ _) ?_ _) ?_ _) ?_ _) ?_ _) ?_ _) ?_ _) ?_ _) ?_ _
  all_goals (first | omega | (simp; done) | (simp; omega))
open Go.RowKit
theorem GrownAll.put {vs : List Value} {w w' : World} (h : GrownAll vs w w') {u : Value} {g : Nat} (hu : u ∈ vs) (hg : Value.rowBlock u = some g) (a : Nat) (x : Value) : GrownAll vs w (w'.setCell ⟨g, a, none⟩ x) :=
  ⟨h.os, h.tape, h.output, by rw [sz_set]; exact h.size, fun k hk hne => ((Below.heap_setCell w' ⟨g, a, none⟩ x k (fun e => hne u hu (by rw [hg, e]))).trans (h.block k hk hne))⟩
def StoreD.zero : StoreD := { fRows := [], fSpace := { fRefs := [], fLast := [] }, fTxg := 0, fGone := [], fKeep := 0, fDead := [], fSame := false }
theorem own_zero (w : World) (B B1 : Nat) : StoreD.Own w B B1 (.agg #[.slice none 0 0, .slice none 0 0, .slice none 0 0, .int .i64 0, .slice none 0 0, .int .i64 0, .slice none 0 0, .bool false]) StoreD.zero :=
  ⟨none, 0, none, 0, none, 0, none, 0, none, 0, rfl, RowO.empty _ _ _ _ _ _ _, RowO.empty _ _ _ _ _ _ _, RowO.empty _ _ _ _ _ _ _, RowO.empty _ _ _ _ _ _ _, RowO.empty _ _ _ _ _ _ _, .inl rfl, .inl rfl, .inl rfl, .inl rfl, .inl rfl, .inl rfl, .inl rfl, .inl rfl, .inl rfl, .inl rfl⟩
open Go.RowKit
def sumF (s : ByteArray) : Nat → Int × Int
  | 0 => (1, 0)
  | k + 1 => (((sumF s k).1 + ((s.get! k).toNat : Int) + 1) % 9973, ((sumF s k).2 + ((sumF s k).1 + ((s.get! k).toNat : Int) + 1) % 9973) % 9973)
def sumOf (s : ByteArray) : Int := (sumF s s.size).1 * 9973 + (sumF s s.size).2
theorem sumF_le (s : ByteArray) (k : Nat) : 0 ≤ (sumF s k).1 ∧ (sumF s k).1 < 9973 ∧ 0 ≤ (sumF s k).2 ∧ (sumF s k).2 < 9973 := by
  cases k with
  | zero => simp [sumF]
  | succ k => unfold sumF; dsimp only; omega
theorem sumOf_le (s : ByteArray) : 0 ≤ sumOf s ∧ sumOf s ≤ 99460728 := by
  have := sumF_le s s.size
  unfold sumOf; omega
theorem byte_le (s : ByteArray) (k : Nat) : (0 : Int) ≤ ((s.get! k).toNat : Int) ∧ ((s.get! k).toNat : Int) ≤ 255 := by
  have := (s.get! k).toNat_lt
  omega
def findUp (p : Nat → Bool) : Nat → Nat → Nat
  | 0, k => k
  | f + 1, k => if p k then k else findUp p f (k + 1)
theorem findUp_yes {p : Nat → Bool} {f k : Nat} (h : p k = true) : findUp p (f + 1) k = k := by simp [findUp, h]
theorem findUp_no {p : Nat → Bool} {f k : Nat} (h : p k = false) : findUp p (f + 1) k = findUp p f (k + 1) := by simp [findUp, h]
theorem findUp_bounds (p : Nat → Bool) (f k : Nat) : k ≤ findUp p f k ∧ findUp p f k ≤ k + f := by
  induction f generalizing k with
  | zero => simp [findUp]
  | succ f ih =>
    unfold findUp
    split
    · omega
    · have := ih (k + 1); omega
theorem findUp_hit (p : Nat → Bool) (f k : Nat) (h : findUp p f k < k + f) : p (findUp p f k) = true := by
  induction f generalizing k with
  | zero => simp [findUp] at h
  | succ f ih =>
    unfold findUp at h ⊢
    split
    · assumption
    · rename_i hp
      rw [if_neg hp] at h
      exact ih (k + 1) (by omega)
theorem findUp_congr {p q : Nat → Bool} (f k : Nat) (h : ∀ i, k ≤ i → i < k + f → p i = q i) : findUp p f k = findUp q f k := by
  induction f generalizing k with
  | zero => rfl
  | succ f ih =>
    unfold findUp
    rw [h k (Nat.le_refl _) (by omega), ih (k + 1) (fun i h1 h2 => h i (by omega) (by omega))]
theorem findUp_skip {p : Nat → Bool} (n f k : Nat) (h : ∀ i, k ≤ i → i < k + n → p i = false) : findUp p (n + f) k = findUp p f (k + n) := by
  induction n generalizing k with
  | zero => simp
  | succ n ih =>
    rw [show n + 1 + f = (n + f) + 1 by omega, findUp_no (h k (Nat.le_refl _) (by omega)), ih (k + 1) (fun i h1 h2 => h i (by omega) (by omega)), show k + 1 + n = k + (n + 1) by omega]
def ptrAt (at_ birth level : Int) (text : ByteArray) : PtrD := { fAt := at_, fBirth := birth, fSize := text.size, fSum := sumOf text, fLevel := level }
def PtrD.zero : PtrD := { fAt := 0, fBirth := 0, fSize := 0, fSum := 0, fLevel := 0 }
def ptrOk (at_ birth level : Int) (text : ByteArray) : Bool := inB text.size 1 128 && (ptrAt at_ birth level text).ok
def ptrOf (at_ birth level : Int) (text : ByteArray) : PtrD := if ptrOk at_ birth level text then ptrAt at_ birth level text else PtrD.zero
theorem ptrOf_no {a b l : Int} {s : ByteArray} (h : ptrOk a b l s = false) : ptrOf a b l s = PtrD.zero := by unfold ptrOf; rw [h]; rfl
theorem ptrOf_yes {a b l : Int} {s : ByteArray} (h : ptrOk a b l s = true) : ptrOf a b l s = ptrAt a b l s := by unfold ptrOf; rw [h]; rfl
def likeB (st : StoreD) (text : ByteArray) (i : Nat) : Bool := ((st.fRows.getD i ByteArray.empty).toList == text.toList) && decide (st.fSpace.fLast.getD i 0 < st.fTxg) && decide (st.fSpace.fRefs.getD i 0 < st.fTxg)
def atOr (k : Nat) : Int := if k < 64 then (k : Int) else -1
def likeR (st : StoreD) (text : ByteArray) : Int := atOr (findUp (likeB st text) 56 8)
def freeB (s : SpaceD) (i : Nat) : Bool := s.fRefs.getD i 0 == 0
def freeR (s : SpaceD) : Int := atOr (findUp (freeB s) 56 8)
theorem atOr_lt {k : Nat} (h : k < 64) : atOr k = k := by simp [atOr, h]
theorem find_step {p : Nat → Bool} {k : Nat} (hk : k < 64) (hp : p k = false) {n : Nat} (h : findUp p 56 8 = n) (hn : n = findUp p (64 - k) k) : findUp p 56 8 = findUp p (64 - (k + 1)) (k + 1) := by
  rw [h, hn, show 64 - k = (64 - (k + 1)) + 1 by omega, findUp_no hp]
theorem find_here {p : Nat → Bool} {k : Nat} (hk : k < 64) (hp : p k = true) (h : findUp p 56 8 = findUp p (64 - k) k) : findUp p 56 8 = k := by
  rw [h, show 64 - k = (63 - k) + 1 by omega, findUp_yes hp]
theorem find_end {p : Nat → Bool} {k : Nat} (hk : k = 64) (h : findUp p 56 8 = findUp p (64 - k) k) : findUp p 56 8 = 64 := by
  rw [h, hk]; rfl
def inL (xs : List Int) (n : Int) : Bool := xs.any (· == n)
theorem inL_here {xs : List Int} {k : Nat} {n : Int} (hk : k < xs.length) (h : (xs.getD k 0 == n) = true) : inL xs n = true := by
  unfold inL
  rw [List.any_eq_true]
  refine ⟨xs[k], List.getElem_mem hk, ?_⟩
  simpa [List.getD, hk] using h
theorem inL_step {xs : List Int} {k : Nat} {n : Int} (hk : k < xs.length) (h : (xs.getD k 0 == n) = false) (hp : (xs.take k).any (· == n) = false) : (xs.take (k + 1)).any (· == n) = false := by
  rw [List.take_succ_eq_append_getElem hk, List.any_append, hp]
  simpa [List.getD, hk] using h
theorem inL_end {xs : List Int} {k : Nat} {n : Int} (hk : ¬ k < xs.length) (hp : (xs.take k).any (· == n) = false) : inL xs n = false := by
  rw [List.take_of_length_le (by omega)] at hp; exact hp
def likeI (st : StoreD) (text : ByteArray) (i : Nat) : Bool := decide (0 < st.fSpace.fRefs.getD i 0) && ((st.fRows.getD i ByteArray.empty).toList == text.toList) && decide (st.fSpace.fLast.getD i 0 < st.fTxg) && decide (st.fSpace.fRefs.getD i 0 < st.fTxg)
def usedB (st : StoreD) (i : Nat) : Bool := !decide (0 < st.fSpace.fRefs.getD i 0)
def likeAt (st : StoreD) (text : ByteArray) (level : Int) : Nat := if st.fSame && (level == 0) then findUp (likeI st text) 64 0 else 64
def writeAt (st : StoreD) (text : ByteArray) (level : Int) : Nat := if likeAt st text level < 64 then likeAt st text level else findUp (usedB st) 56 8
def StoreD.putAt (st : StoreD) (i : Nat) (rows : List ByteArray) : StoreD := { st with fRows := rows, fSpace := { fRefs := st.fSpace.fRefs.set i (st.fSpace.fRefs.getD i 0 + 1), fLast := st.fSpace.fLast.set i st.fTxg } }
theorem find0_step {p : Nat → Bool} {k : Nat} (hk : k < 64) (hp : p k = false) (h : findUp p 64 0 = findUp p (64 - k) k) : findUp p 64 0 = findUp p (64 - (k + 1)) (k + 1) := by
  rw [h, show 64 - k = (64 - (k + 1)) + 1 by omega, findUp_no hp]
theorem find0_here {p : Nat → Bool} {k : Nat} (hk : k < 64) (hp : p k = true) (h : findUp p 64 0 = findUp p (64 - k) k) : findUp p 64 0 = k := by
  rw [h, show 64 - k = (63 - k) + 1 by omega, findUp_yes hp]
theorem find0_end {p : Nat → Bool} {k : Nat} (hk : k = 64) (h : findUp p 64 0 = findUp p (64 - k) k) : findUp p 64 0 = 64 := by
  rw [h, hk]; rfl
end Go.Proofs.YtdlmlagcniifjaaGreatDoor
