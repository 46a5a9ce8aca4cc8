/- A space copied: by the program, by the reference. -/
import Derived.Test.YtfijfjjleelphaaClone
import Derived.Test.YtfijfjjleelphaaSpaceT
import Derived.Deep.RegionHeld3
namespace Go.Proofs.Ytfijfjjleelphaa
open Go.RowKit

set_option maxHeartbeats 1000000 in
set_option maxRecDepth 100000 in
theorem spaceClone_any (v : Value) (x : SpaceD) (w : World) (hf : x.Fit) (hr : SpaceD.Reads w v x) :
    Calls Try.prog 144 #[v] w fun e w' => ∃ v', e = .returned v' ∧ SpaceD.Own w' w.heap.size w'.heap.size v' x ∧ Below w.heap.size w w' := by
  obtain ⟨a0, c0, a1, c1, rfl, r0, r1⟩ := hr
  obtain ⟨i0, hi, hz0, hz1, hz2⟩ := info_parts Try.infoIntS
  have hf0 := hf.f0
  have hf1 := hf.f1
  have hb : Below w.heap.size w (((w.alloc (.cells #[.slice a0 x.fRefs.length c0, .slice a1 x.fLast.length c1] 62)).alloc (.cells #[.slice none 0 0, .slice none 0 0] 62))).drew := (((Below.refl _ _).alloc (Nat.le_refl _) _).alloc (by simp) _).drew
  have hz : Below w.heap.size w ((w.alloc (.cells #[.slice a0 x.fRefs.length c0, .slice a1 x.fLast.length c1] 62)).alloc (.cells #[.slice none 0 0, .slice none 0 0] 62)) := ((Below.refl _ _).alloc (Nat.le_refl _) _).alloc (by simp) _
  have hXz : (((w.alloc (.cells #[.slice a0 x.fRefs.length c0, .slice a1 x.fLast.length c1] 62)).alloc (.cells #[.slice none 0 0, .slice none 0 0] 62))).heap[w.heap.size]? = some (.cells #[.slice a0 x.fRefs.length c0, .slice a1 x.fLast.length c1] 62 (0, 0)) := blk_alloc (blk_new w _ _ rfl) _
  have hRz : (((w.alloc (.cells #[.slice a0 x.fRefs.length c0, .slice a1 x.fLast.length c1] 62)).alloc (.cells #[.slice none 0 0, .slice none 0 0] 62))).heap[w.heap.size + 1]? = some (.cells #[.slice none 0 0, .slice none 0 0] 62 (0, 0)) := blk_new _ _ (w.heap.size + 1) (by simp)
  have hX : ((((w.alloc (.cells #[.slice a0 x.fRefs.length c0, .slice a1 x.fLast.length c1] 62)).alloc (.cells #[.slice none 0 0, .slice none 0 0] 62))).drew).heap[w.heap.size]? = some (.cells #[.slice a0 x.fRefs.length c0, .slice a1 x.fLast.length c1] 62 (0, 0)) := blk_alloc (blk_new w _ _ rfl) _
  have hR : ((((w.alloc (.cells #[.slice a0 x.fRefs.length c0, .slice a1 x.fLast.length c1] 62)).alloc (.cells #[.slice none 0 0, .slice none 0 0] 62))).drew).heap[w.heap.size + 1]? = some (.cells #[.slice none 0 0, .slice none 0 0] 62 (0, 0)) := blk_new _ _ (w.heap.size + 1) (by simp)
  have k0 : (((w.alloc (.cells #[.slice a0 x.fRefs.length c0, .slice a1 x.fLast.length c1] 62)).alloc (.cells #[.slice none 0 0, .slice none 0 0] 62))).cell? ⟨w.heap.size, 0, none⟩ = some (.slice a0 x.fRefs.length c0) := blk_cell hX 0
  have k1 : (((w.alloc (.cells #[.slice a0 x.fRefs.length c0, .slice a1 x.fLast.length c1] 62)).alloc (.cells #[.slice none 0 0, .slice none 0 0] 62))).cell? ⟨w.heap.size, 1, none⟩ = some (.slice a1 x.fLast.length c1) := blk_cell hX 1
  have hw : w.heap.size + 2 ≤ ((((w.alloc (.cells #[.slice a0 x.fRefs.length c0, .slice a1 x.fLast.length c1] 62)).alloc (.cells #[.slice none 0 0, .slice none 0 0] 62))).drew).heap.size := blk_lt hR
  go_enter Try.func144, Try.ntmps144
  go_wp2_with fail
  go_region_held3 (fun w' => w'.cell? ⟨w.heap.size, 0, none⟩ = some (.slice a0 x.fRefs.length c0) ∧ w'.cell? ⟨w.heap.size, 1, none⟩ = some (.slice a1 x.fLast.length c1)) (go_keep)
    (first | (go_at_call_of 165 (Value.slice a0 x.fRefs.length c0); refine (cloneI_any a0 c0 x.fRefs _ hf0 (r0.below hb)).mono ?_; rintro e wA ⟨⟨aoA, capA, rfl, roA⟩, bA⟩; have lA := hw; have szA := bA.size; have hX := blk_below hX bA (Nat.le_refl _); have hR := blk_below hR bA (Nat.le_refl _); have hb := hb.trans (bA.mono hb.size); have hw := Nat.le_trans hw bA.size; have k0 : wA.cell? ⟨w.heap.size, 0, none⟩ = some (.slice a0 x.fRefs.length c0) := blk_cell hX 0; have k1 : wA.cell? ⟨w.heap.size, 1, none⟩ = some (.slice a1 x.fLast.length c1) := blk_cell hX 1; have k2 : wA.cell? ⟨w.heap.size + 1, 0, none⟩ = some (.slice none 0 0) := blk_cell hR 0; have k3 : wA.cell? ⟨w.heap.size + 1, 1, none⟩ = some (.slice none 0 0) := blk_cell hR 1; have k4 := blk_frozen hR 0; have k5 := blk_frozen hR 1; try (have roB := roB.below bA (Nat.le_refl _))) | (go_at_call_of 165 (Value.slice a1 x.fLast.length c1); refine (cloneI_any a1 c1 x.fLast _ hf1 (r1.below hb)).mono ?_; rintro e wB ⟨⟨aoB, capB, rfl, roB⟩, bB⟩; have lB := hw; have szB := bB.size; have hX := blk_below hX bB (Nat.le_refl _); have hR := blk_below hR bB (Nat.le_refl _); have hb := hb.trans (bB.mono hb.size); have hw := Nat.le_trans hw bB.size; have k0 : wB.cell? ⟨w.heap.size, 0, none⟩ = some (.slice a0 x.fRefs.length c0) := blk_cell hX 0; have k1 : wB.cell? ⟨w.heap.size, 1, none⟩ = some (.slice a1 x.fLast.length c1) := blk_cell hX 1; have k2 : wB.cell? ⟨w.heap.size + 1, 0, none⟩ = some (.slice none 0 0) := blk_cell hR 0; have k3 : wB.cell? ⟨w.heap.size + 1, 1, none⟩ = some (.slice none 0 0) := blk_cell hR 1; have k4 := blk_frozen hR 0; have k5 := blk_frozen hR 1; try (have roA := roA.below bB (Nat.le_refl _))))
  all_goals
    go_wp2
    refine bodyPost_ret (v := .agg #[.slice aoA x.fRefs.length capA, .slice aoB x.fLast.length capB]) (by simp [results, Try.results144, go_sem, k2, k3]) rfl ?_
    refine ⟨_, rfl, ⟨_, _, _, _, rfl, ?q0, ?q1, ?q2⟩, ?q3⟩
    case q0 =>
      refine RowO.mono ((roA.set ?_ _).set ?_ _) ?_ ?_
      all_goals (first | omega | (simp; done) | (simp; omega))
    case q1 =>
      refine RowO.mono ((roB.set ?_ _).set ?_ _) ?_ ?_
      all_goals (first | omega | (simp; done) | (simp; omega))
    case q2 =>
      first
        | exact Apart.of_lt (fun g hg => (roA.lt g hg).2.1) (fun g hg => (roB.lt g hg).1)
        | exact (Apart.of_lt (fun g hg => (roB.lt g hg).2.1) (fun g hg => (roA.lt g hg).1)).symm
    case q3 =>
      refine Below.setCell (Below.setCell hb ?_ _) ?_ _
      all_goals (first | omega | (simp; done) | (simp; omega))

set_option maxHeartbeats 1000000 in
set_option maxRecDepth 100000 in
theorem l5Copy_any (v : Value) (x : SpaceD) (w : World) (hf : x.Fit) {B B1 : Nat} (ho : SpaceD.Own w B B1 v x) :
    Calls Try.prog 139 #[v] w fun e w' => ∃ v', e = .returned v' ∧ SpaceD.Own w' w.heap.size w'.heap.size v' x ∧ Below w.heap.size w w' := by
  obtain ⟨a0, c0, a1, c1, rfl, q0, q1, _⟩ := ho
  obtain ⟨r0, n0⟩ := q0.copy encI_len
  obtain ⟨r1, n1⟩ := q1.copy encI_len
  clear q0 q1
  obtain ⟨i0, hi, hz0, hz1, hz2⟩ := info_parts Try.infoIntS
  have hf0 := hf.f0
  have hf1 := hf.f1
  have hb : Below w.heap.size w (((w.alloc (.cells #[.slice a0 x.fRefs.length c0, .slice a1 x.fLast.length c1] 62)).alloc (.cells #[.slice none 0 0, .slice none 0 0] 62))).drew := (((Below.refl _ _).alloc (Nat.le_refl _) _).alloc (by simp) _).drew
  have hz : Below w.heap.size w ((w.alloc (.cells #[.slice a0 x.fRefs.length c0, .slice a1 x.fLast.length c1] 62)).alloc (.cells #[.slice none 0 0, .slice none 0 0] 62)) := ((Below.refl _ _).alloc (Nat.le_refl _) _).alloc (by simp) _
  have hXz : (((w.alloc (.cells #[.slice a0 x.fRefs.length c0, .slice a1 x.fLast.length c1] 62)).alloc (.cells #[.slice none 0 0, .slice none 0 0] 62))).heap[w.heap.size]? = some (.cells #[.slice a0 x.fRefs.length c0, .slice a1 x.fLast.length c1] 62 (0, 0)) := blk_alloc (blk_new w _ _ rfl) _
  have hRz : (((w.alloc (.cells #[.slice a0 x.fRefs.length c0, .slice a1 x.fLast.length c1] 62)).alloc (.cells #[.slice none 0 0, .slice none 0 0] 62))).heap[w.heap.size + 1]? = some (.cells #[.slice none 0 0, .slice none 0 0] 62 (0, 0)) := blk_new _ _ (w.heap.size + 1) (by simp)
  have hX : ((((w.alloc (.cells #[.slice a0 x.fRefs.length c0, .slice a1 x.fLast.length c1] 62)).alloc (.cells #[.slice none 0 0, .slice none 0 0] 62))).drew).heap[w.heap.size]? = some (.cells #[.slice a0 x.fRefs.length c0, .slice a1 x.fLast.length c1] 62 (0, 0)) := blk_alloc (blk_new w _ _ rfl) _
  have hR : ((((w.alloc (.cells #[.slice a0 x.fRefs.length c0, .slice a1 x.fLast.length c1] 62)).alloc (.cells #[.slice none 0 0, .slice none 0 0] 62))).drew).heap[w.heap.size + 1]? = some (.cells #[.slice none 0 0, .slice none 0 0] 62 (0, 0)) := blk_new _ _ (w.heap.size + 1) (by simp)
  have k0 : (((w.alloc (.cells #[.slice a0 x.fRefs.length c0, .slice a1 x.fLast.length c1] 62)).alloc (.cells #[.slice none 0 0, .slice none 0 0] 62))).cell? ⟨w.heap.size, 0, none⟩ = some (.slice a0 x.fRefs.length c0) := blk_cell hX 0
  have k1 : (((w.alloc (.cells #[.slice a0 x.fRefs.length c0, .slice a1 x.fLast.length c1] 62)).alloc (.cells #[.slice none 0 0, .slice none 0 0] 62))).cell? ⟨w.heap.size, 1, none⟩ = some (.slice a1 x.fLast.length c1) := blk_cell hX 1
  have hw : w.heap.size + 2 ≤ ((((w.alloc (.cells #[.slice a0 x.fRefs.length c0, .slice a1 x.fLast.length c1] 62)).alloc (.cells #[.slice none 0 0, .slice none 0 0] 62))).drew).heap.size := blk_lt hR
  go_enter Try.func139, Try.ntmps139
  go_wp2_with fail
  go_region_held3 (fun w' => w'.cell? ⟨w.heap.size, 0, none⟩ = some (.slice a0 x.fRefs.length c0) ∧ w'.cell? ⟨w.heap.size, 1, none⟩ = some (.slice a1 x.fLast.length c1)) (first | exact ⟨k0, k1⟩ | go_keep)
    (first | (refine step_copy0 (by rfl) (.tmp 3) (.tmp 5) 52 (by rfl) 3 i0 _ 1 8 Try.underlying52 hi hz0 hz1 hz2 rfl (by decide) encI_len _ (by rfl) a0 c0 x.fRefs (by rfl) (r0.below (by first | exact hb | exact hb.alloc hb.size _ | exact (hb.alloc hb.size _).alloc (hb.alloc hb.size _).size _ | exact (hz.alloc hz.size _).drew | exact ((hz.alloc hz.size _).alloc (hz.alloc hz.size _).size _).drew)) n0 (cells_one_I _) (by unfold maxLen; omega) (by omega) ?_; intro aoA capA wA roA bA; (try (have szT : wB.heap.size ≤ wA.heap.size := (by have hq := bA.size; first | exact hq | (simp at hq; omega)))); have hX : wA.heap[w.heap.size]? = some (.cells #[.slice a0 x.fRefs.length c0, .slice a1 x.fLast.length c1] 62 (0, 0)) := blk_below (by first | exact hX | exact blk_alloc hX _ | exact blk_alloc (blk_alloc hX _) _ | exact blk_alloc hXz _ | exact blk_alloc (blk_alloc hXz _) _) bA (Nat.le_refl _); have hR : wA.heap[w.heap.size + 1]? = some (.cells #[.slice none 0 0, .slice none 0 0] 62 (0, 0)) := blk_below (by first | exact hR | exact blk_alloc hR _ | exact blk_alloc (blk_alloc hR _) _ | exact blk_alloc hRz _ | exact blk_alloc (blk_alloc hRz _) _) bA (Nat.le_refl _); have hb : Below w.heap.size w wA := Below.trans (by first | exact hb | exact hb.alloc hb.size _ | exact (hb.alloc hb.size _).alloc (hb.alloc hb.size _).size _ | exact (hz.alloc hz.size _).drew | exact ((hz.alloc hz.size _).alloc (hz.alloc hz.size _).size _).drew) (bA.mono (by first | exact hb.size | exact (hb.alloc hb.size _).size | exact ((hb.alloc hb.size _).alloc (hb.alloc hb.size _).size _).size | exact ((hz.alloc hz.size _).drew).size | exact (((hz.alloc hz.size _).alloc (hz.alloc hz.size _).size _).drew).size)); have hw : w.heap.size + 2 ≤ wA.heap.size := blk_lt hR; have k0 : wA.cell? ⟨w.heap.size, 0, none⟩ = some (.slice a0 x.fRefs.length c0) := blk_cell hX 0; have k1 : wA.cell? ⟨w.heap.size, 1, none⟩ = some (.slice a1 x.fLast.length c1) := blk_cell hX 1; have k2 : wA.cell? ⟨w.heap.size + 1, 0, none⟩ = some (.slice none 0 0) := blk_cell hR 0; have k3 : wA.cell? ⟨w.heap.size + 1, 1, none⟩ = some (.slice none 0 0) := blk_cell hR 1; have k4 := blk_frozen hR 0; have k5 := blk_frozen hR 1; try (have roB := (by first | exact roB.below bA (Nat.le_refl _) | exact (roB.below ((Below.refl _ _).alloc (Nat.le_refl _) _) (Nat.le_refl _)).below bA (Nat.le_refl _)); skip)) | (refine step_copy0 (by rfl) (.tmp 7) (.tmp 9) 52 (by rfl) 3 i0 _ 1 8 Try.underlying52 hi hz0 hz1 hz2 rfl (by decide) encI_len _ (by rfl) a1 c1 x.fLast (by rfl) (r1.below (by first | exact hb | exact hb.alloc hb.size _ | exact (hb.alloc hb.size _).alloc (hb.alloc hb.size _).size _ | exact (hz.alloc hz.size _).drew | exact ((hz.alloc hz.size _).alloc (hz.alloc hz.size _).size _).drew)) n1 (cells_one_I _) (by unfold maxLen; omega) (by omega) ?_; intro aoB capB wB roB bB; (try (have szT : wA.heap.size ≤ wB.heap.size := (by have hq := bB.size; first | exact hq | (simp at hq; omega)))); have hX : wB.heap[w.heap.size]? = some (.cells #[.slice a0 x.fRefs.length c0, .slice a1 x.fLast.length c1] 62 (0, 0)) := blk_below (by first | exact hX | exact blk_alloc hX _ | exact blk_alloc (blk_alloc hX _) _ | exact blk_alloc hXz _ | exact blk_alloc (blk_alloc hXz _) _) bB (Nat.le_refl _); have hR : wB.heap[w.heap.size + 1]? = some (.cells #[.slice none 0 0, .slice none 0 0] 62 (0, 0)) := blk_below (by first | exact hR | exact blk_alloc hR _ | exact blk_alloc (blk_alloc hR _) _ | exact blk_alloc hRz _ | exact blk_alloc (blk_alloc hRz _) _) bB (Nat.le_refl _); have hb : Below w.heap.size w wB := Below.trans (by first | exact hb | exact hb.alloc hb.size _ | exact (hb.alloc hb.size _).alloc (hb.alloc hb.size _).size _ | exact (hz.alloc hz.size _).drew | exact ((hz.alloc hz.size _).alloc (hz.alloc hz.size _).size _).drew) (bB.mono (by first | exact hb.size | exact (hb.alloc hb.size _).size | exact ((hb.alloc hb.size _).alloc (hb.alloc hb.size _).size _).size | exact ((hz.alloc hz.size _).drew).size | exact (((hz.alloc hz.size _).alloc (hz.alloc hz.size _).size _).drew).size)); have hw : w.heap.size + 2 ≤ wB.heap.size := blk_lt hR; have k0 : wB.cell? ⟨w.heap.size, 0, none⟩ = some (.slice a0 x.fRefs.length c0) := blk_cell hX 0; have k1 : wB.cell? ⟨w.heap.size, 1, none⟩ = some (.slice a1 x.fLast.length c1) := blk_cell hX 1; have k2 : wB.cell? ⟨w.heap.size + 1, 0, none⟩ = some (.slice none 0 0) := blk_cell hR 0; have k3 : wB.cell? ⟨w.heap.size + 1, 1, none⟩ = some (.slice none 0 0) := blk_cell hR 1; have k4 := blk_frozen hR 0; have k5 := blk_frozen hR 1; try (have roA := (by first | exact roA.below bB (Nat.le_refl _) | exact (roA.below ((Below.refl _ _).alloc (Nat.le_refl _) _) (Nat.le_refl _)).below bB (Nat.le_refl _)); skip)))
  all_goals
    go_wp2
    refine bodyPost_ret (v := .agg #[.slice aoA x.fRefs.length capA, .slice aoB x.fLast.length capB]) (by simp [results, Try.results139, go_sem, k2, k3]) rfl ?_
    refine ⟨_, rfl, ⟨_, _, _, _, rfl, ?q0, ?q1, ?q2⟩, ?q3⟩
    case q0 =>
      refine RowO.mono ((roA.set ?_ _).set ?_ _) ?_ ?_
      all_goals (first | omega | (simp; done) | (simp; omega))
    case q1 =>
      refine RowO.mono ((roB.set ?_ _).set ?_ _) ?_ ?_
      all_goals (first | omega | (simp; done) | (simp; omega))
    case q2 =>
      first
        | exact Apart.of_lt (m := wA.heap.size) (fun g hg => (roA.lt g hg).2.1) (fun g hg => by have := (roB.lt g hg).1; first | exact this | (simp at this; omega))
        | exact (Apart.of_lt (m := wB.heap.size) (fun g hg => (roB.lt g hg).2.1) (fun g hg => by have := (roA.lt g hg).1; first | exact this | (simp at this; omega))).symm
    case q3 =>
      refine Below.setCell (Below.setCell hb ?_ _) ?_ _
      all_goals (first | omega | (simp; done) | (simp; omega))
end Go.Proofs.Ytfijfjjleelphaa
