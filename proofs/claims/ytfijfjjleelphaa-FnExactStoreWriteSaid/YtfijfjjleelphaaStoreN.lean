/- A store copied: by the program, by the reference. -/
import Derived.Test.YtfijfjjleelphaaSpaceN
import Derived.Test.YtfijfjjleelphaaStoreT
namespace Go.Proofs.Ytfijfjjleelphaa
open Go.RowKit

set_option maxHeartbeats 1000000 in
set_option maxRecDepth 100000 in
theorem storeClone_any (v : Value) (x : StoreD) (w : World) (hf : x.Fit) (hr : StoreD.Reads w v x) :
    Calls Try.prog 89 #[v] w fun e w' => ∃ v', e = .returned v' ∧ StoreD.Own w' w.heap.size w'.heap.size v' x ∧ Below w.heap.size w w' := by
  obtain ⟨a0, c0, a1, c1, a2, c2, a4, c4, a6, c6, rfl, r0, r1, r2, r4, r6⟩ := hr
  have hf0 := hf.f0
  have hf1 := hf.f1
  have hf2 := hf.f2
  have hf4 := hf.f4
  have hf6 := hf.f6
  have hb0 : Below w.heap.size w ((w.alloc (.cells #[.slice a0 x.fRows.length c0, .slice a1 x.fSpace.fRefs.length c1, .slice a2 x.fSpace.fLast.length c2, .int .i64 x.fTxg, .slice a4 x.fGone.length c4, .int .i64 x.fKeep, .slice a6 x.fDead.length c6, .bool x.fSame] 65)).alloc (.cells #[.slice none 0 0, .slice none 0 0, .slice none 0 0, .int .i64 0, .slice none 0 0, .int .i64 0, .slice none 0 0, .bool false] 65)) := ((Below.refl _ _).alloc (Nat.le_refl _) _).alloc (by simp) _
  have hX0 : ((w.alloc (.cells #[.slice a0 x.fRows.length c0, .slice a1 x.fSpace.fRefs.length c1, .slice a2 x.fSpace.fLast.length c2, .int .i64 x.fTxg, .slice a4 x.fGone.length c4, .int .i64 x.fKeep, .slice a6 x.fDead.length c6, .bool x.fSame] 65)).alloc (.cells #[.slice none 0 0, .slice none 0 0, .slice none 0 0, .int .i64 0, .slice none 0 0, .int .i64 0, .slice none 0 0, .bool false] 65)).heap[w.heap.size]? = some (.cells #[.slice a0 x.fRows.length c0, .slice a1 x.fSpace.fRefs.length c1, .slice a2 x.fSpace.fLast.length c2, .int .i64 x.fTxg, .slice a4 x.fGone.length c4, .int .i64 x.fKeep, .slice a6 x.fDead.length c6, .bool x.fSame] 65 (0, 0)) := blk_alloc (blk_new w _ _ rfl) _
  have hR0 : ((w.alloc (.cells #[.slice a0 x.fRows.length c0, .slice a1 x.fSpace.fRefs.length c1, .slice a2 x.fSpace.fLast.length c2, .int .i64 x.fTxg, .slice a4 x.fGone.length c4, .int .i64 x.fKeep, .slice a6 x.fDead.length c6, .bool x.fSame] 65)).alloc (.cells #[.slice none 0 0, .slice none 0 0, .slice none 0 0, .int .i64 0, .slice none 0 0, .int .i64 0, .slice none 0 0, .bool false] 65)).heap[w.heap.size + 1]? = some (.cells #[.slice none 0 0, .slice none 0 0, .slice none 0 0, .int .i64 0, .slice none 0 0, .int .i64 0, .slice none 0 0, .bool false] 65 (0, 0)) := blk_new _ _ (w.heap.size + 1) (by simp)
  have hw0 : w.heap.size + 2 ≤ ((w.alloc (.cells #[.slice a0 x.fRows.length c0, .slice a1 x.fSpace.fRefs.length c1, .slice a2 x.fSpace.fLast.length c2, .int .i64 x.fTxg, .slice a4 x.fGone.length c4, .int .i64 x.fKeep, .slice a6 x.fDead.length c6, .bool x.fSame] 65)).alloc (.cells #[.slice none 0 0, .slice none 0 0, .slice none 0 0, .int .i64 0, .slice none 0 0, .int .i64 0, .slice none 0 0, .bool false] 65)).heap.size := blk_lt hR0
  go_enter Try.func89, Try.ntmps89
  have hB1 := hb0
  go_wp2_with fail
  refine (cloneS_any a0 c0 x.fRows _ hf0 (r0.below hB1)).mono ?_
  rintro e w1 ⟨⟨p0, q0, rfl, ro0⟩, b1⟩
  have hb1 := hB1.trans (b1.mono (by first | exact hB1.size | omega | (simp; done) | (simp; omega)))
  have hX1 : w1.heap[w.heap.size]? = some (.cells #[.slice a0 x.fRows.length c0, .slice a1 x.fSpace.fRefs.length c1, .slice a2 x.fSpace.fLast.length c2, .int .i64 x.fTxg, .slice a4 x.fGone.length c4, .int .i64 x.fKeep, .slice a6 x.fDead.length c6, .bool x.fSame] 65 (0, 0)) := blk_below hX0 b1 (by first | exact Nat.le_refl _ | (simp; done) | (simp; omega))
  have hR1 : w1.heap[w.heap.size + 1]? = some (.cells #[.slice none 0 0, .slice none 0 0, .slice none 0 0, .int .i64 0, .slice none 0 0, .int .i64 0, .slice none 0 0, .bool false] 65 (0, 0)) := blk_below hR0 b1 (by first | exact Nat.le_refl _ | (simp; done) | (simp; omega))
  have hw1 : w.heap.size + 2 ≤ w1.heap.size := blk_lt hR1
  have hlt1 : w.heap.size < w1.heap.size := by omega
  have hs1 := b1.size
  try simp only [sz_alloc] at hs1
  try simp only [sz_set] at hs1
  have ro0 := RowO.mono (B' := w.heap.size + 2) ro0 (by first | exact hw0 | omega | (simp; done) | (simp; omega)) (Nat.le_refl _)
  clear b1 hB1 hX0 hR0 hb0
  have kx0 : w1.cell? ⟨w.heap.size, 0, none⟩ = some (.slice a0 x.fRows.length c0) := blk_cell hX1 0
  have kx1 : w1.cell? ⟨w.heap.size, 1, none⟩ = some (.slice a1 x.fSpace.fRefs.length c1) := blk_cell hX1 1
  have kx2 : w1.cell? ⟨w.heap.size, 2, none⟩ = some (.slice a2 x.fSpace.fLast.length c2) := blk_cell hX1 2
  have kx3 : w1.cell? ⟨w.heap.size, 3, none⟩ = some (.int .i64 x.fTxg) := blk_cell hX1 3
  have kx4 : w1.cell? ⟨w.heap.size, 4, none⟩ = some (.slice a4 x.fGone.length c4) := blk_cell hX1 4
  have kx5 : w1.cell? ⟨w.heap.size, 5, none⟩ = some (.int .i64 x.fKeep) := blk_cell hX1 5
  have kx6 : w1.cell? ⟨w.heap.size, 6, none⟩ = some (.slice a6 x.fDead.length c6) := blk_cell hX1 6
  have kx7 : w1.cell? ⟨w.heap.size, 7, none⟩ = some (.bool x.fSame) := blk_cell hX1 7
  have kf0 := blk_frozen hX1 0
  have hB2 := (hb1.setCell (p := ⟨w.heap.size, 0, none⟩) (Nat.le_refl _) (.slice p0 x.fRows.length q0))
  go_wp2_with fail
  refine (spaceClone_any _ x.fSpace _ ⟨hf1, hf2⟩ ⟨a1, c1, a2, c2, rfl, r1.below hB2, r2.below hB2⟩).mono ?_
  rintro e w2 ⟨_, rfl, ⟨p1, q1, p2, q2, rfl, ro1, ro2, ap1_2⟩, b2⟩
  have hb2 := hB2.trans (b2.mono (by first | exact hB2.size | omega | (simp; done) | (simp; omega)))
  have hX2 : w2.heap[w.heap.size]? = some (.cells #[.slice p0 x.fRows.length q0, .slice a1 x.fSpace.fRefs.length c1, .slice a2 x.fSpace.fLast.length c2, .int .i64 x.fTxg, .slice a4 x.fGone.length c4, .int .i64 x.fKeep, .slice a6 x.fDead.length c6, .bool x.fSame] 65 (0, 0)) := blk_below (blk_set hX1 (i := 0) (.slice p0 x.fRows.length q0)) b2 (by first | exact Nat.le_refl _ | (simp; done) | (simp; omega))
  have hR2 : w2.heap[w.heap.size + 1]? = some (.cells #[.slice none 0 0, .slice none 0 0, .slice none 0 0, .int .i64 0, .slice none 0 0, .int .i64 0, .slice none 0 0, .bool false] 65 (0, 0)) := blk_below (blk_set_other hR1 (p := ⟨w.heap.size, 0, none⟩) (by simp) (.slice p0 x.fRows.length q0)) b2 (by first | exact Nat.le_refl _ | (simp; done) | (simp; omega))
  have hw2 : w.heap.size + 2 ≤ w2.heap.size := blk_lt hR2
  have hlt2 : w.heap.size < w2.heap.size := by omega
  have hs2 := b2.size
  try simp only [sz_alloc] at hs2
  try simp only [sz_set] at hs2
  have ro0 := RowO.below (ro0.set (p := ⟨w.heap.size, 0, none⟩) (by simp) (.slice p0 x.fRows.length q0)) b2 (by first | exact Nat.le_refl _ | (simp; done) | (simp; omega))
  have ap0_1 := Apart.of_lt (m := w1.heap.size) (fun g hg => (ro0.lt g hg).2.1) (fun g hg => by have := (ro1.lt g hg).1; first | exact this | omega | (simp at this; omega))
  have ap0_2 := Apart.of_lt (m := w1.heap.size) (fun g hg => (ro0.lt g hg).2.1) (fun g hg => by have := (ro2.lt g hg).1; first | exact this | omega | (simp at this; omega))
  have ro0 := RowO.mono ro0 (Nat.le_refl (w.heap.size + 2)) (show w1.heap.size ≤ w2.heap.size by omega)
  have ro1 := RowO.mono (B' := w.heap.size + 2) ro1 (by first | exact hw1 | omega | (simp; done) | (simp; omega)) (Nat.le_refl _)
  have ro2 := RowO.mono (B' := w.heap.size + 2) ro2 (by first | exact hw1 | omega | (simp; done) | (simp; omega)) (Nat.le_refl _)
  clear b2 hB2 hX1 hR1 hb1
  clear kx0 kx1 kx2 kx3 kx4 kx5 kx6 kx7 kf0
  have kx0 : w2.cell? ⟨w.heap.size, 0, none⟩ = some (.slice p0 x.fRows.length q0) := blk_cell hX2 0
  have kx1 : w2.cell? ⟨w.heap.size, 1, none⟩ = some (.slice a1 x.fSpace.fRefs.length c1) := blk_cell hX2 1
  have kx2 : w2.cell? ⟨w.heap.size, 2, none⟩ = some (.slice a2 x.fSpace.fLast.length c2) := blk_cell hX2 2
  have kx3 : w2.cell? ⟨w.heap.size, 3, none⟩ = some (.int .i64 x.fTxg) := blk_cell hX2 3
  have kx4 : w2.cell? ⟨w.heap.size, 4, none⟩ = some (.slice a4 x.fGone.length c4) := blk_cell hX2 4
  have kx5 : w2.cell? ⟨w.heap.size, 5, none⟩ = some (.int .i64 x.fKeep) := blk_cell hX2 5
  have kx6 : w2.cell? ⟨w.heap.size, 6, none⟩ = some (.slice a6 x.fDead.length c6) := blk_cell hX2 6
  have kx7 : w2.cell? ⟨w.heap.size, 7, none⟩ = some (.bool x.fSame) := blk_cell hX2 7
  have kf1 := blk_frozen hX2 1
  have kf2 := blk_frozen hX2 2
  have hB3 := ((hb2.setCell (p := ⟨w.heap.size, 1, none⟩) (Nat.le_refl _) (.slice p1 x.fSpace.fRefs.length q1)).setCell (p := ⟨w.heap.size, 2, none⟩) (Nat.le_refl _) (.slice p2 x.fSpace.fLast.length q2))
  go_wp2_with fail
  refine (cloneP_any a4 c4 x.fGone _ hf4 (r4.below hB3)).mono ?_
  rintro e w3 ⟨⟨p4, q4, rfl, ro4⟩, b3⟩
  have hb3 := hB3.trans (b3.mono (by first | exact hB3.size | omega | (simp; done) | (simp; omega)))
  have hX3 : w3.heap[w.heap.size]? = some (.cells #[.slice p0 x.fRows.length q0, .slice p1 x.fSpace.fRefs.length q1, .slice p2 x.fSpace.fLast.length q2, .int .i64 x.fTxg, .slice a4 x.fGone.length c4, .int .i64 x.fKeep, .slice a6 x.fDead.length c6, .bool x.fSame] 65 (0, 0)) := blk_below (blk_set (blk_set hX2 (i := 1) (.slice p1 x.fSpace.fRefs.length q1)) (i := 2) (.slice p2 x.fSpace.fLast.length q2)) b3 (by first | exact Nat.le_refl _ | (simp; done) | (simp; omega))
  have hR3 : w3.heap[w.heap.size + 1]? = some (.cells #[.slice none 0 0, .slice none 0 0, .slice none 0 0, .int .i64 0, .slice none 0 0, .int .i64 0, .slice none 0 0, .bool false] 65 (0, 0)) := blk_below (blk_set_other (blk_set_other hR2 (p := ⟨w.heap.size, 1, none⟩) (by simp) (.slice p1 x.fSpace.fRefs.length q1)) (p := ⟨w.heap.size, 2, none⟩) (by simp) (.slice p2 x.fSpace.fLast.length q2)) b3 (by first | exact Nat.le_refl _ | (simp; done) | (simp; omega))
  have hw3 : w.heap.size + 2 ≤ w3.heap.size := blk_lt hR3
  have hlt3 : w.heap.size < w3.heap.size := by omega
  have hs3 := b3.size
  try simp only [sz_alloc] at hs3
  try simp only [sz_set] at hs3
  have ro0 := RowO.below ((ro0.set (p := ⟨w.heap.size, 1, none⟩) (by simp) (.slice p1 x.fSpace.fRefs.length q1)).set (p := ⟨w.heap.size, 2, none⟩) (by simp) (.slice p2 x.fSpace.fLast.length q2)) b3 (by first | exact Nat.le_refl _ | (simp; done) | (simp; omega))
  have ro1 := RowO.below ((ro1.set (p := ⟨w.heap.size, 1, none⟩) (by simp) (.slice p1 x.fSpace.fRefs.length q1)).set (p := ⟨w.heap.size, 2, none⟩) (by simp) (.slice p2 x.fSpace.fLast.length q2)) b3 (by first | exact Nat.le_refl _ | (simp; done) | (simp; omega))
  have ro2 := RowO.below ((ro2.set (p := ⟨w.heap.size, 1, none⟩) (by simp) (.slice p1 x.fSpace.fRefs.length q1)).set (p := ⟨w.heap.size, 2, none⟩) (by simp) (.slice p2 x.fSpace.fLast.length q2)) b3 (by first | exact Nat.le_refl _ | (simp; done) | (simp; omega))
  have ap0_4 := Apart.of_lt (m := w2.heap.size) (fun g hg => (ro0.lt g hg).2.1) (fun g hg => by have := (ro4.lt g hg).1; first | exact this | omega | (simp at this; omega))
  have ap1_4 := Apart.of_lt (m := w2.heap.size) (fun g hg => (ro1.lt g hg).2.1) (fun g hg => by have := (ro4.lt g hg).1; first | exact this | omega | (simp at this; omega))
  have ap2_4 := Apart.of_lt (m := w2.heap.size) (fun g hg => (ro2.lt g hg).2.1) (fun g hg => by have := (ro4.lt g hg).1; first | exact this | omega | (simp at this; omega))
  have ro0 := RowO.mono ro0 (Nat.le_refl (w.heap.size + 2)) (show w2.heap.size ≤ w3.heap.size by omega)
  have ro1 := RowO.mono ro1 (Nat.le_refl (w.heap.size + 2)) (show w2.heap.size ≤ w3.heap.size by omega)
  have ro2 := RowO.mono ro2 (Nat.le_refl (w.heap.size + 2)) (show w2.heap.size ≤ w3.heap.size by omega)
  have ro4 := RowO.mono (B' := w.heap.size + 2) ro4 (by first | exact hw2 | omega | (simp; done) | (simp; omega)) (Nat.le_refl _)
  clear b3 hB3 hX2 hR2 hb2
  clear kx0 kx1 kx2 kx3 kx4 kx5 kx6 kx7 kf1 kf2
  have kx0 : w3.cell? ⟨w.heap.size, 0, none⟩ = some (.slice p0 x.fRows.length q0) := blk_cell hX3 0
  have kx1 : w3.cell? ⟨w.heap.size, 1, none⟩ = some (.slice p1 x.fSpace.fRefs.length q1) := blk_cell hX3 1
  have kx2 : w3.cell? ⟨w.heap.size, 2, none⟩ = some (.slice p2 x.fSpace.fLast.length q2) := blk_cell hX3 2
  have kx3 : w3.cell? ⟨w.heap.size, 3, none⟩ = some (.int .i64 x.fTxg) := blk_cell hX3 3
  have kx4 : w3.cell? ⟨w.heap.size, 4, none⟩ = some (.slice a4 x.fGone.length c4) := blk_cell hX3 4
  have kx5 : w3.cell? ⟨w.heap.size, 5, none⟩ = some (.int .i64 x.fKeep) := blk_cell hX3 5
  have kx6 : w3.cell? ⟨w.heap.size, 6, none⟩ = some (.slice a6 x.fDead.length c6) := blk_cell hX3 6
  have kx7 : w3.cell? ⟨w.heap.size, 7, none⟩ = some (.bool x.fSame) := blk_cell hX3 7
  have kf4 := blk_frozen hX3 4
  have hB4 := (hb3.setCell (p := ⟨w.heap.size, 4, none⟩) (Nat.le_refl _) (.slice p4 x.fGone.length q4))
  go_wp2_with fail
  refine (cloneP_any a6 c6 x.fDead _ hf6 (r6.below hB4)).mono ?_
  rintro e w4 ⟨⟨p6, q6, rfl, ro6⟩, b4⟩
  have hb4 := hB4.trans (b4.mono (by first | exact hB4.size | omega | (simp; done) | (simp; omega)))
  have hX4 : w4.heap[w.heap.size]? = some (.cells #[.slice p0 x.fRows.length q0, .slice p1 x.fSpace.fRefs.length q1, .slice p2 x.fSpace.fLast.length q2, .int .i64 x.fTxg, .slice p4 x.fGone.length q4, .int .i64 x.fKeep, .slice a6 x.fDead.length c6, .bool x.fSame] 65 (0, 0)) := blk_below (blk_set hX3 (i := 4) (.slice p4 x.fGone.length q4)) b4 (by first | exact Nat.le_refl _ | (simp; done) | (simp; omega))
  have hR4 : w4.heap[w.heap.size + 1]? = some (.cells #[.slice none 0 0, .slice none 0 0, .slice none 0 0, .int .i64 0, .slice none 0 0, .int .i64 0, .slice none 0 0, .bool false] 65 (0, 0)) := blk_below (blk_set_other hR3 (p := ⟨w.heap.size, 4, none⟩) (by simp) (.slice p4 x.fGone.length q4)) b4 (by first | exact Nat.le_refl _ | (simp; done) | (simp; omega))
  have hw4 : w.heap.size + 2 ≤ w4.heap.size := blk_lt hR4
  have hlt4 : w.heap.size < w4.heap.size := by omega
  have hs4 := b4.size
  try simp only [sz_alloc] at hs4
  try simp only [sz_set] at hs4
  have ro0 := RowO.below (ro0.set (p := ⟨w.heap.size, 4, none⟩) (by simp) (.slice p4 x.fGone.length q4)) b4 (by first | exact Nat.le_refl _ | (simp; done) | (simp; omega))
  have ro1 := RowO.below (ro1.set (p := ⟨w.heap.size, 4, none⟩) (by simp) (.slice p4 x.fGone.length q4)) b4 (by first | exact Nat.le_refl _ | (simp; done) | (simp; omega))
  have ro2 := RowO.below (ro2.set (p := ⟨w.heap.size, 4, none⟩) (by simp) (.slice p4 x.fGone.length q4)) b4 (by first | exact Nat.le_refl _ | (simp; done) | (simp; omega))
  have ro4 := RowO.below (ro4.set (p := ⟨w.heap.size, 4, none⟩) (by simp) (.slice p4 x.fGone.length q4)) b4 (by first | exact Nat.le_refl _ | (simp; done) | (simp; omega))
  have ap0_6 := Apart.of_lt (m := w3.heap.size) (fun g hg => (ro0.lt g hg).2.1) (fun g hg => by have := (ro6.lt g hg).1; first | exact this | omega | (simp at this; omega))
  have ap1_6 := Apart.of_lt (m := w3.heap.size) (fun g hg => (ro1.lt g hg).2.1) (fun g hg => by have := (ro6.lt g hg).1; first | exact this | omega | (simp at this; omega))
  have ap2_6 := Apart.of_lt (m := w3.heap.size) (fun g hg => (ro2.lt g hg).2.1) (fun g hg => by have := (ro6.lt g hg).1; first | exact this | omega | (simp at this; omega))
  have ap4_6 := Apart.of_lt (m := w3.heap.size) (fun g hg => (ro4.lt g hg).2.1) (fun g hg => by have := (ro6.lt g hg).1; first | exact this | omega | (simp at this; omega))
  have ro0 := RowO.mono ro0 (Nat.le_refl (w.heap.size + 2)) (show w3.heap.size ≤ w4.heap.size by omega)
  have ro1 := RowO.mono ro1 (Nat.le_refl (w.heap.size + 2)) (show w3.heap.size ≤ w4.heap.size by omega)
  have ro2 := RowO.mono ro2 (Nat.le_refl (w.heap.size + 2)) (show w3.heap.size ≤ w4.heap.size by omega)
  have ro4 := RowO.mono ro4 (Nat.le_refl (w.heap.size + 2)) (show w3.heap.size ≤ w4.heap.size by omega)
  have ro6 := RowO.mono (B' := w.heap.size + 2) ro6 (by first | exact hw3 | omega | (simp; done) | (simp; omega)) (Nat.le_refl _)
  clear b4 hB4 hX3 hR3 hb3
  clear kx0 kx1 kx2 kx3 kx4 kx5 kx6 kx7 kf4
  have kx0 : w4.cell? ⟨w.heap.size, 0, none⟩ = some (.slice p0 x.fRows.length q0) := blk_cell hX4 0
  have kx1 : w4.cell? ⟨w.heap.size, 1, none⟩ = some (.slice p1 x.fSpace.fRefs.length q1) := blk_cell hX4 1
  have kx2 : w4.cell? ⟨w.heap.size, 2, none⟩ = some (.slice p2 x.fSpace.fLast.length q2) := blk_cell hX4 2
  have kx3 : w4.cell? ⟨w.heap.size, 3, none⟩ = some (.int .i64 x.fTxg) := blk_cell hX4 3
  have kx4 : w4.cell? ⟨w.heap.size, 4, none⟩ = some (.slice p4 x.fGone.length q4) := blk_cell hX4 4
  have kx5 : w4.cell? ⟨w.heap.size, 5, none⟩ = some (.int .i64 x.fKeep) := blk_cell hX4 5
  have kx6 : w4.cell? ⟨w.heap.size, 6, none⟩ = some (.slice a6 x.fDead.length c6) := blk_cell hX4 6
  have kx7 : w4.cell? ⟨w.heap.size, 7, none⟩ = some (.bool x.fSame) := blk_cell hX4 7
  have kf6 := blk_frozen hX4 6
  have pr0 : w4.cell? ⟨w.heap.size + 1, 0, none⟩ = some (.slice none 0 0) := blk_cell hR4 0
  have pg0 := blk_frozen hR4 0
  have pr1 : w4.cell? ⟨w.heap.size + 1, 1, none⟩ = some (.slice none 0 0) := blk_cell hR4 1
  have pg1 := blk_frozen hR4 1
  have pr2 : w4.cell? ⟨w.heap.size + 1, 2, none⟩ = some (.slice none 0 0) := blk_cell hR4 2
  have pg2 := blk_frozen hR4 2
  have pr3 : w4.cell? ⟨w.heap.size + 1, 3, none⟩ = some (.int .i64 0) := blk_cell hR4 3
  have pg3 := blk_frozen hR4 3
  have pr4 : w4.cell? ⟨w.heap.size + 1, 4, none⟩ = some (.slice none 0 0) := blk_cell hR4 4
  have pg4 := blk_frozen hR4 4
  have pr5 : w4.cell? ⟨w.heap.size + 1, 5, none⟩ = some (.int .i64 0) := blk_cell hR4 5
  have pg5 := blk_frozen hR4 5
  have pr6 : w4.cell? ⟨w.heap.size + 1, 6, none⟩ = some (.slice none 0 0) := blk_cell hR4 6
  have pg6 := blk_frozen hR4 6
  have pr7 : w4.cell? ⟨w.heap.size + 1, 7, none⟩ = some (.bool false) := blk_cell hR4 7
  have pg7 := blk_frozen hR4 7
  go_wp2
  refine bodyPost_ret (v := .agg #[.slice p0 x.fRows.length q0, .slice p1 x.fSpace.fRefs.length q1, .slice p2 x.fSpace.fLast.length q2, .int .i64 x.fTxg, .slice p4 x.fGone.length q4, .int .i64 x.fKeep, .slice p6 x.fDead.length q6, .bool x.fSame]) (by simp [results, Try.results89, go_sem, pr0, pr1, pr2, pr3, pr4, pr5, pr6, pr7]) rfl ?_
  refine ⟨_, rfl, ⟨_, _, _, _, _, _, _, _, _, _, rfl, ?g0, ?g1, ?g2, ?g4, ?g6, ap0_1, ap0_2, ap0_4, ap0_6, ap1_2, ap1_4, ap1_6, ap2_4, ap2_6, ap4_6⟩, ?_⟩
  case g0 =>
    refine RowO.mono (((((((((ro0.set ?_ _).set ?_ _).set ?_ _).set ?_ _).set ?_ _).set ?_ _).set ?_ _).set ?_ _).set ?_ _) ?_ ?_
    all_goals (first | omega | (simp; done) | (simp; omega))
  case g1 =>
    refine RowO.mono (((((((((ro1.set ?_ _).set ?_ _).set ?_ _).set ?_ _).set ?_ _).set ?_ _).set ?_ _).set ?_ _).set ?_ _) ?_ ?_
    all_goals (first | omega | (simp; done) | (simp; omega))
  case g2 =>
    refine RowO.mono (((((((((ro2.set ?_ _).set ?_ _).set ?_ _).set ?_ _).set ?_ _).set ?_ _).set ?_ _).set ?_ _).set ?_ _) ?_ ?_
    all_goals (first | omega | (simp; done) | (simp; omega))
  case g4 =>
    refine RowO.mono (((((((((ro4.set ?_ _).set ?_ _).set ?_ _).set ?_ _).set ?_ _).set ?_ _).set ?_ _).set ?_ _).set ?_ _) ?_ ?_
    all_goals (first | omega | (simp; done) | (simp; omega))
  case g6 =>
    refine RowO.mono (((((((((ro6.set ?_ _).set ?_ _).set ?_ _).set ?_ _).set ?_ _).set ?_ _).set ?_ _).set ?_ _).set ?_ _) ?_ ?_
    all_goals (first | omega | (simp; done) | (simp; omega))
  refine Below.setCell (Below.setCell (Below.setCell (Below.setCell (Below.setCell (Below.setCell (Below.setCell (Below.setCell (Below.setCell hb4 ?_ _) ?_ _) ?_ _) ?_ _) ?_ _) ?_ _) ?_ _) ?_ _) ?_ _
  all_goals (first | omega | (simp; done) | (simp; omega))

set_option maxHeartbeats 1000000 in
set_option maxRecDepth 100000 in
theorem l7Copy_any (v : Value) (x : StoreD) (w : World) (hf : x.Fit) {B B1 : Nat} (ho : StoreD.Own w B B1 v x) :
    Calls Try.prog 84 #[v] w fun e w' => ∃ v', e = .returned v' ∧ StoreD.Own w' w.heap.size w'.heap.size v' x ∧ Below w.heap.size w w' := by
  obtain ⟨a0, c0, a1, c1, a2, c2, a4, c4, a6, c6, rfl, q_0, q_1, q_2, q_4, q_6, s0_1, s0_2, s0_4, s0_6, s1_2, s1_4, s1_6, s2_4, s2_6, s4_6⟩ := ho
  clear s0_1 s0_2 s0_4 s0_6 s1_4 s1_6 s2_4 s2_6 s4_6
  obtain ⟨r0, n0⟩ := q_0.copy encS_len
  clear q_0
  obtain ⟨r4, n4⟩ := q_4.copy PtrD.cells_len
  clear q_4
  obtain ⟨r6, n6⟩ := q_6.copy PtrD.cells_len
  clear q_6
  obtain ⟨is, his, hs0, hs1, hs2⟩ := info_parts Try.infoStringS
  obtain ⟨ip, hip, hp0, hp1, hp2⟩ := info_parts Try.infoPtrS
  have hf0 := hf.f0
  have hf1 := hf.f1
  have hf2 := hf.f2
  have hf4 := hf.f4
  have hf6 := hf.f6
  have hb0 : Below w.heap.size w ((w.alloc (.cells #[.slice a0 x.fRows.length c0, .slice a1 x.fSpace.fRefs.length c1, .slice a2 x.fSpace.fLast.length c2, .int .i64 x.fTxg, .slice a4 x.fGone.length c4, .int .i64 x.fKeep, .slice a6 x.fDead.length c6, .bool x.fSame] 65)).alloc (.cells #[.slice none 0 0, .slice none 0 0, .slice none 0 0, .int .i64 0, .slice none 0 0, .int .i64 0, .slice none 0 0, .bool false] 65)) := ((Below.refl _ _).alloc (Nat.le_refl _) _).alloc (by simp) _
  have hX0 : ((w.alloc (.cells #[.slice a0 x.fRows.length c0, .slice a1 x.fSpace.fRefs.length c1, .slice a2 x.fSpace.fLast.length c2, .int .i64 x.fTxg, .slice a4 x.fGone.length c4, .int .i64 x.fKeep, .slice a6 x.fDead.length c6, .bool x.fSame] 65)).alloc (.cells #[.slice none 0 0, .slice none 0 0, .slice none 0 0, .int .i64 0, .slice none 0 0, .int .i64 0, .slice none 0 0, .bool false] 65)).heap[w.heap.size]? = some (.cells #[.slice a0 x.fRows.length c0, .slice a1 x.fSpace.fRefs.length c1, .slice a2 x.fSpace.fLast.length c2, .int .i64 x.fTxg, .slice a4 x.fGone.length c4, .int .i64 x.fKeep, .slice a6 x.fDead.length c6, .bool x.fSame] 65 (0, 0)) := blk_alloc (blk_new w _ _ rfl) _
  have hR0 : ((w.alloc (.cells #[.slice a0 x.fRows.length c0, .slice a1 x.fSpace.fRefs.length c1, .slice a2 x.fSpace.fLast.length c2, .int .i64 x.fTxg, .slice a4 x.fGone.length c4, .int .i64 x.fKeep, .slice a6 x.fDead.length c6, .bool x.fSame] 65)).alloc (.cells #[.slice none 0 0, .slice none 0 0, .slice none 0 0, .int .i64 0, .slice none 0 0, .int .i64 0, .slice none 0 0, .bool false] 65)).heap[w.heap.size + 1]? = some (.cells #[.slice none 0 0, .slice none 0 0, .slice none 0 0, .int .i64 0, .slice none 0 0, .int .i64 0, .slice none 0 0, .bool false] 65 (0, 0)) := blk_new _ _ (w.heap.size + 1) (by simp)
  have hw0 : w.heap.size + 2 ≤ ((w.alloc (.cells #[.slice a0 x.fRows.length c0, .slice a1 x.fSpace.fRefs.length c1, .slice a2 x.fSpace.fLast.length c2, .int .i64 x.fTxg, .slice a4 x.fGone.length c4, .int .i64 x.fKeep, .slice a6 x.fDead.length c6, .bool x.fSame] 65)).alloc (.cells #[.slice none 0 0, .slice none 0 0, .slice none 0 0, .int .i64 0, .slice none 0 0, .int .i64 0, .slice none 0 0, .bool false] 65)).heap.size := blk_lt hR0
  go_enter Try.func84, Try.ntmps84
  have hB1 := (hb0.alloc hb0.size (.cells #[] 9))
  go_wp2_with (at_builtin; refine wpList_copy0 rfl (.tmp 3) (.tmp 5) 41 rfl 9 is _ 1 16 Try.underlying41 his hs0 hs1 hs2 rfl (by decide) encS_len _ rfl a0 c0 x.fRows rfl (r0.below hB1) n0 (cells_one_S _) ?b1 ?b2 ?_)
  case b1 => unfold maxLen; omega
  case b2 => omega
  intro p0 q0 w1 ro0 b1
  have hb1 := hB1.trans (b1.mono (by first | exact hB1.size | omega | (simp; done) | (simp; omega)))
  have hX1 : w1.heap[w.heap.size]? = some (.cells #[.slice a0 x.fRows.length c0, .slice a1 x.fSpace.fRefs.length c1, .slice a2 x.fSpace.fLast.length c2, .int .i64 x.fTxg, .slice a4 x.fGone.length c4, .int .i64 x.fKeep, .slice a6 x.fDead.length c6, .bool x.fSame] 65 (0, 0)) := blk_below (blk_alloc hX0 (.cells #[] 9)) b1 (by first | exact Nat.le_refl _ | (simp; done) | (simp; omega))
  have hR1 : w1.heap[w.heap.size + 1]? = some (.cells #[.slice none 0 0, .slice none 0 0, .slice none 0 0, .int .i64 0, .slice none 0 0, .int .i64 0, .slice none 0 0, .bool false] 65 (0, 0)) := blk_below (blk_alloc hR0 (.cells #[] 9)) b1 (by first | exact Nat.le_refl _ | (simp; done) | (simp; omega))
  have hw1 : w.heap.size + 2 ≤ w1.heap.size := blk_lt hR1
  have hlt1 : w.heap.size < w1.heap.size := by omega
  have hs1 := b1.size
  try simp only [sz_alloc] at hs1
  try simp only [sz_set] at hs1
  have ro0 := RowO.mono (B' := w.heap.size + 2) ro0 (by first | exact hw0 | omega | (simp; done) | (simp; omega)) (Nat.le_refl _)
  clear b1 hB1 hX0 hR0 hb0
  have kx0 : w1.cell? ⟨w.heap.size, 0, none⟩ = some (.slice a0 x.fRows.length c0) := blk_cell hX1 0
  have kx1 : w1.cell? ⟨w.heap.size, 1, none⟩ = some (.slice a1 x.fSpace.fRefs.length c1) := blk_cell hX1 1
  have kx2 : w1.cell? ⟨w.heap.size, 2, none⟩ = some (.slice a2 x.fSpace.fLast.length c2) := blk_cell hX1 2
  have kx3 : w1.cell? ⟨w.heap.size, 3, none⟩ = some (.int .i64 x.fTxg) := blk_cell hX1 3
  have kx4 : w1.cell? ⟨w.heap.size, 4, none⟩ = some (.slice a4 x.fGone.length c4) := blk_cell hX1 4
  have kx5 : w1.cell? ⟨w.heap.size, 5, none⟩ = some (.int .i64 x.fKeep) := blk_cell hX1 5
  have kx6 : w1.cell? ⟨w.heap.size, 6, none⟩ = some (.slice a6 x.fDead.length c6) := blk_cell hX1 6
  have kx7 : w1.cell? ⟨w.heap.size, 7, none⟩ = some (.bool x.fSame) := blk_cell hX1 7
  have kf0 := blk_frozen hX1 0
  have hB2 := (hb1.setCell (p := ⟨w.heap.size, 0, none⟩) (Nat.le_refl _) (.slice p0 x.fRows.length q0))
  go_wp2_with fail
  refine (l5Copy_any _ x.fSpace _ ⟨hf1, hf2⟩ ⟨a1, c1, a2, c2, rfl, q_1.below hB2 (Nat.le_refl _), q_2.below hB2 (Nat.le_refl _), s1_2⟩).mono ?_
  rintro e w2 ⟨_, rfl, ⟨p1, q1, p2, q2, rfl, ro1, ro2, ap1_2⟩, b2⟩
  have hb2 := hB2.trans (b2.mono (by first | exact hB2.size | omega | (simp; done) | (simp; omega)))
  have hX2 : w2.heap[w.heap.size]? = some (.cells #[.slice p0 x.fRows.length q0, .slice a1 x.fSpace.fRefs.length c1, .slice a2 x.fSpace.fLast.length c2, .int .i64 x.fTxg, .slice a4 x.fGone.length c4, .int .i64 x.fKeep, .slice a6 x.fDead.length c6, .bool x.fSame] 65 (0, 0)) := blk_below (blk_set hX1 (i := 0) (.slice p0 x.fRows.length q0)) b2 (by first | exact Nat.le_refl _ | (simp; done) | (simp; omega))
  have hR2 : w2.heap[w.heap.size + 1]? = some (.cells #[.slice none 0 0, .slice none 0 0, .slice none 0 0, .int .i64 0, .slice none 0 0, .int .i64 0, .slice none 0 0, .bool false] 65 (0, 0)) := blk_below (blk_set_other hR1 (p := ⟨w.heap.size, 0, none⟩) (by simp) (.slice p0 x.fRows.length q0)) b2 (by first | exact Nat.le_refl _ | (simp; done) | (simp; omega))
  have hw2 : w.heap.size + 2 ≤ w2.heap.size := blk_lt hR2
  have hlt2 : w.heap.size < w2.heap.size := by omega
  have hs2 := b2.size
  try simp only [sz_alloc] at hs2
  try simp only [sz_set] at hs2
  have ro0 := RowO.below (ro0.set (p := ⟨w.heap.size, 0, none⟩) (by simp) (.slice p0 x.fRows.length q0)) b2 (by first | exact Nat.le_refl _ | (simp; done) | (simp; omega))
  have ap0_1 := Apart.of_lt (m := w1.heap.size) (fun g hg => (ro0.lt g hg).2.1) (fun g hg => by have := (ro1.lt g hg).1; first | exact this | omega | (simp at this; omega))
  have ap0_2 := Apart.of_lt (m := w1.heap.size) (fun g hg => (ro0.lt g hg).2.1) (fun g hg => by have := (ro2.lt g hg).1; first | exact this | omega | (simp at this; omega))
  have ro0 := RowO.mono ro0 (Nat.le_refl (w.heap.size + 2)) (show w1.heap.size ≤ w2.heap.size by omega)
  have ro1 := RowO.mono (B' := w.heap.size + 2) ro1 (by first | exact hw1 | omega | (simp; done) | (simp; omega)) (Nat.le_refl _)
  have ro2 := RowO.mono (B' := w.heap.size + 2) ro2 (by first | exact hw1 | omega | (simp; done) | (simp; omega)) (Nat.le_refl _)
  clear b2 hB2 hX1 hR1 hb1
  clear kx0 kx1 kx2 kx3 kx4 kx5 kx6 kx7 kf0
  have kx0 : w2.cell? ⟨w.heap.size, 0, none⟩ = some (.slice p0 x.fRows.length q0) := blk_cell hX2 0
  have kx1 : w2.cell? ⟨w.heap.size, 1, none⟩ = some (.slice a1 x.fSpace.fRefs.length c1) := blk_cell hX2 1
  have kx2 : w2.cell? ⟨w.heap.size, 2, none⟩ = some (.slice a2 x.fSpace.fLast.length c2) := blk_cell hX2 2
  have kx3 : w2.cell? ⟨w.heap.size, 3, none⟩ = some (.int .i64 x.fTxg) := blk_cell hX2 3
  have kx4 : w2.cell? ⟨w.heap.size, 4, none⟩ = some (.slice a4 x.fGone.length c4) := blk_cell hX2 4
  have kx5 : w2.cell? ⟨w.heap.size, 5, none⟩ = some (.int .i64 x.fKeep) := blk_cell hX2 5
  have kx6 : w2.cell? ⟨w.heap.size, 6, none⟩ = some (.slice a6 x.fDead.length c6) := blk_cell hX2 6
  have kx7 : w2.cell? ⟨w.heap.size, 7, none⟩ = some (.bool x.fSame) := blk_cell hX2 7
  have kf1 := blk_frozen hX2 1
  have kf2 := blk_frozen hX2 2
  have hB3 := (((hb2.setCell (p := ⟨w.heap.size, 1, none⟩) (Nat.le_refl _) (.slice p1 x.fSpace.fRefs.length q1)).setCell (p := ⟨w.heap.size, 2, none⟩) (Nat.le_refl _) (.slice p2 x.fSpace.fLast.length q2)).alloc ((hb2.setCell (p := ⟨w.heap.size, 1, none⟩) (Nat.le_refl _) (.slice p1 x.fSpace.fRefs.length q1)).setCell (p := ⟨w.heap.size, 2, none⟩) (Nat.le_refl _) (.slice p2 x.fSpace.fLast.length q2)).size (.cells #[] 33))
  go_wp2_with (at_builtin; refine wpList_copy0 rfl (.tmp 12) (.tmp 14) 63 rfl 33 ip _ 5 40 Try.underlying63 hip hp0 hp1 hp2 rfl (by decide) PtrD.cells_len _ rfl a4 c4 x.fGone rfl (r4.below hB3) n4 (cells_one_P _) ?b1 ?b2 ?_)
  case b1 => unfold maxLen; omega
  case b2 => omega
  intro p4 q4 w3 ro4 b3
  have hb3 := hB3.trans (b3.mono (by first | exact hB3.size | omega | (simp; done) | (simp; omega)))
  have hX3 : w3.heap[w.heap.size]? = some (.cells #[.slice p0 x.fRows.length q0, .slice p1 x.fSpace.fRefs.length q1, .slice p2 x.fSpace.fLast.length q2, .int .i64 x.fTxg, .slice a4 x.fGone.length c4, .int .i64 x.fKeep, .slice a6 x.fDead.length c6, .bool x.fSame] 65 (0, 0)) := blk_below (blk_alloc (blk_set (blk_set hX2 (i := 1) (.slice p1 x.fSpace.fRefs.length q1)) (i := 2) (.slice p2 x.fSpace.fLast.length q2)) (.cells #[] 33)) b3 (by first | exact Nat.le_refl _ | (simp; done) | (simp; omega))
  have hR3 : w3.heap[w.heap.size + 1]? = some (.cells #[.slice none 0 0, .slice none 0 0, .slice none 0 0, .int .i64 0, .slice none 0 0, .int .i64 0, .slice none 0 0, .bool false] 65 (0, 0)) := blk_below (blk_alloc (blk_set_other (blk_set_other hR2 (p := ⟨w.heap.size, 1, none⟩) (by simp) (.slice p1 x.fSpace.fRefs.length q1)) (p := ⟨w.heap.size, 2, none⟩) (by simp) (.slice p2 x.fSpace.fLast.length q2)) (.cells #[] 33)) b3 (by first | exact Nat.le_refl _ | (simp; done) | (simp; omega))
  have hw3 : w.heap.size + 2 ≤ w3.heap.size := blk_lt hR3
  have hlt3 : w.heap.size < w3.heap.size := by omega
  have hs3 := b3.size
  try simp only [sz_alloc] at hs3
  try simp only [sz_set] at hs3
  have ro0 := RowO.below (RowO.below ((ro0.set (p := ⟨w.heap.size, 1, none⟩) (by simp) (.slice p1 x.fSpace.fRefs.length q1)).set (p := ⟨w.heap.size, 2, none⟩) (by simp) (.slice p2 x.fSpace.fLast.length q2)) ((Below.refl _ _).alloc (Nat.le_refl _) (.cells #[] 33)) (Nat.le_refl _)) b3 (by first | exact Nat.le_refl _ | (simp; done) | (simp; omega))
  have ro1 := RowO.below (RowO.below ((ro1.set (p := ⟨w.heap.size, 1, none⟩) (by simp) (.slice p1 x.fSpace.fRefs.length q1)).set (p := ⟨w.heap.size, 2, none⟩) (by simp) (.slice p2 x.fSpace.fLast.length q2)) ((Below.refl _ _).alloc (Nat.le_refl _) (.cells #[] 33)) (Nat.le_refl _)) b3 (by first | exact Nat.le_refl _ | (simp; done) | (simp; omega))
  have ro2 := RowO.below (RowO.below ((ro2.set (p := ⟨w.heap.size, 1, none⟩) (by simp) (.slice p1 x.fSpace.fRefs.length q1)).set (p := ⟨w.heap.size, 2, none⟩) (by simp) (.slice p2 x.fSpace.fLast.length q2)) ((Below.refl _ _).alloc (Nat.le_refl _) (.cells #[] 33)) (Nat.le_refl _)) b3 (by first | exact Nat.le_refl _ | (simp; done) | (simp; omega))
  have ap0_4 := Apart.of_lt (m := w2.heap.size) (fun g hg => (ro0.lt g hg).2.1) (fun g hg => by have := (ro4.lt g hg).1; first | exact this | omega | (simp at this; omega))
  have ap1_4 := Apart.of_lt (m := w2.heap.size) (fun g hg => (ro1.lt g hg).2.1) (fun g hg => by have := (ro4.lt g hg).1; first | exact this | omega | (simp at this; omega))
  have ap2_4 := Apart.of_lt (m := w2.heap.size) (fun g hg => (ro2.lt g hg).2.1) (fun g hg => by have := (ro4.lt g hg).1; first | exact this | omega | (simp at this; omega))
  have ro0 := RowO.mono ro0 (Nat.le_refl (w.heap.size + 2)) (show w2.heap.size ≤ w3.heap.size by omega)
  have ro1 := RowO.mono ro1 (Nat.le_refl (w.heap.size + 2)) (show w2.heap.size ≤ w3.heap.size by omega)
  have ro2 := RowO.mono ro2 (Nat.le_refl (w.heap.size + 2)) (show w2.heap.size ≤ w3.heap.size by omega)
  have ro4 := RowO.mono (B' := w.heap.size + 2) ro4 (by first | exact hw2 | omega | (simp; done) | (simp; omega)) (Nat.le_refl _)
  clear b3 hB3 hX2 hR2 hb2
  clear kx0 kx1 kx2 kx3 kx4 kx5 kx6 kx7 kf1 kf2
  have kx0 : w3.cell? ⟨w.heap.size, 0, none⟩ = some (.slice p0 x.fRows.length q0) := blk_cell hX3 0
  have kx1 : w3.cell? ⟨w.heap.size, 1, none⟩ = some (.slice p1 x.fSpace.fRefs.length q1) := blk_cell hX3 1
  have kx2 : w3.cell? ⟨w.heap.size, 2, none⟩ = some (.slice p2 x.fSpace.fLast.length q2) := blk_cell hX3 2
  have kx3 : w3.cell? ⟨w.heap.size, 3, none⟩ = some (.int .i64 x.fTxg) := blk_cell hX3 3
  have kx4 : w3.cell? ⟨w.heap.size, 4, none⟩ = some (.slice a4 x.fGone.length c4) := blk_cell hX3 4
  have kx5 : w3.cell? ⟨w.heap.size, 5, none⟩ = some (.int .i64 x.fKeep) := blk_cell hX3 5
  have kx6 : w3.cell? ⟨w.heap.size, 6, none⟩ = some (.slice a6 x.fDead.length c6) := blk_cell hX3 6
  have kx7 : w3.cell? ⟨w.heap.size, 7, none⟩ = some (.bool x.fSame) := blk_cell hX3 7
  have kf4 := blk_frozen hX3 4
  have hB4 := ((hb3.setCell (p := ⟨w.heap.size, 4, none⟩) (Nat.le_refl _) (.slice p4 x.fGone.length q4)).alloc (hb3.setCell (p := ⟨w.heap.size, 4, none⟩) (Nat.le_refl _) (.slice p4 x.fGone.length q4)).size (.cells #[] 33))
  go_wp2_with (at_builtin; refine wpList_copy0 rfl (.tmp 17) (.tmp 19) 63 rfl 33 ip _ 5 40 Try.underlying63 hip hp0 hp1 hp2 rfl (by decide) PtrD.cells_len _ rfl a6 c6 x.fDead rfl (r6.below hB4) n6 (cells_one_P _) ?b1 ?b2 ?_)
  case b1 => unfold maxLen; omega
  case b2 => omega
  intro p6 q6 w4 ro6 b4
  have hb4 := hB4.trans (b4.mono (by first | exact hB4.size | omega | (simp; done) | (simp; omega)))
  have hX4 : w4.heap[w.heap.size]? = some (.cells #[.slice p0 x.fRows.length q0, .slice p1 x.fSpace.fRefs.length q1, .slice p2 x.fSpace.fLast.length q2, .int .i64 x.fTxg, .slice p4 x.fGone.length q4, .int .i64 x.fKeep, .slice a6 x.fDead.length c6, .bool x.fSame] 65 (0, 0)) := blk_below (blk_alloc (blk_set hX3 (i := 4) (.slice p4 x.fGone.length q4)) (.cells #[] 33)) b4 (by first | exact Nat.le_refl _ | (simp; done) | (simp; omega))
  have hR4 : w4.heap[w.heap.size + 1]? = some (.cells #[.slice none 0 0, .slice none 0 0, .slice none 0 0, .int .i64 0, .slice none 0 0, .int .i64 0, .slice none 0 0, .bool false] 65 (0, 0)) := blk_below (blk_alloc (blk_set_other hR3 (p := ⟨w.heap.size, 4, none⟩) (by simp) (.slice p4 x.fGone.length q4)) (.cells #[] 33)) b4 (by first | exact Nat.le_refl _ | (simp; done) | (simp; omega))
  have hw4 : w.heap.size + 2 ≤ w4.heap.size := blk_lt hR4
  have hlt4 : w.heap.size < w4.heap.size := by omega
  have hs4 := b4.size
  try simp only [sz_alloc] at hs4
  try simp only [sz_set] at hs4
  have ro0 := RowO.below (RowO.below (ro0.set (p := ⟨w.heap.size, 4, none⟩) (by simp) (.slice p4 x.fGone.length q4)) ((Below.refl _ _).alloc (Nat.le_refl _) (.cells #[] 33)) (Nat.le_refl _)) b4 (by first | exact Nat.le_refl _ | (simp; done) | (simp; omega))
  have ro1 := RowO.below (RowO.below (ro1.set (p := ⟨w.heap.size, 4, none⟩) (by simp) (.slice p4 x.fGone.length q4)) ((Below.refl _ _).alloc (Nat.le_refl _) (.cells #[] 33)) (Nat.le_refl _)) b4 (by first | exact Nat.le_refl _ | (simp; done) | (simp; omega))
  have ro2 := RowO.below (RowO.below (ro2.set (p := ⟨w.heap.size, 4, none⟩) (by simp) (.slice p4 x.fGone.length q4)) ((Below.refl _ _).alloc (Nat.le_refl _) (.cells #[] 33)) (Nat.le_refl _)) b4 (by first | exact Nat.le_refl _ | (simp; done) | (simp; omega))
  have ro4 := RowO.below (RowO.below (ro4.set (p := ⟨w.heap.size, 4, none⟩) (by simp) (.slice p4 x.fGone.length q4)) ((Below.refl _ _).alloc (Nat.le_refl _) (.cells #[] 33)) (Nat.le_refl _)) b4 (by first | exact Nat.le_refl _ | (simp; done) | (simp; omega))
  have ap0_6 := Apart.of_lt (m := w3.heap.size) (fun g hg => (ro0.lt g hg).2.1) (fun g hg => by have := (ro6.lt g hg).1; first | exact this | omega | (simp at this; omega))
  have ap1_6 := Apart.of_lt (m := w3.heap.size) (fun g hg => (ro1.lt g hg).2.1) (fun g hg => by have := (ro6.lt g hg).1; first | exact this | omega | (simp at this; omega))
  have ap2_6 := Apart.of_lt (m := w3.heap.size) (fun g hg => (ro2.lt g hg).2.1) (fun g hg => by have := (ro6.lt g hg).1; first | exact this | omega | (simp at this; omega))
  have ap4_6 := Apart.of_lt (m := w3.heap.size) (fun g hg => (ro4.lt g hg).2.1) (fun g hg => by have := (ro6.lt g hg).1; first | exact this | omega | (simp at this; omega))
  have ro0 := RowO.mono ro0 (Nat.le_refl (w.heap.size + 2)) (show w3.heap.size ≤ w4.heap.size by omega)
  have ro1 := RowO.mono ro1 (Nat.le_refl (w.heap.size + 2)) (show w3.heap.size ≤ w4.heap.size by omega)
  have ro2 := RowO.mono ro2 (Nat.le_refl (w.heap.size + 2)) (show w3.heap.size ≤ w4.heap.size by omega)
  have ro4 := RowO.mono ro4 (Nat.le_refl (w.heap.size + 2)) (show w3.heap.size ≤ w4.heap.size by omega)
  have ro6 := RowO.mono (B' := w.heap.size + 2) ro6 (by first | exact hw3 | omega | (simp; done) | (simp; omega)) (Nat.le_refl _)
  clear b4 hB4 hX3 hR3 hb3
  clear kx0 kx1 kx2 kx3 kx4 kx5 kx6 kx7 kf4
  have kx0 : w4.cell? ⟨w.heap.size, 0, none⟩ = some (.slice p0 x.fRows.length q0) := blk_cell hX4 0
  have kx1 : w4.cell? ⟨w.heap.size, 1, none⟩ = some (.slice p1 x.fSpace.fRefs.length q1) := blk_cell hX4 1
  have kx2 : w4.cell? ⟨w.heap.size, 2, none⟩ = some (.slice p2 x.fSpace.fLast.length q2) := blk_cell hX4 2
  have kx3 : w4.cell? ⟨w.heap.size, 3, none⟩ = some (.int .i64 x.fTxg) := blk_cell hX4 3
  have kx4 : w4.cell? ⟨w.heap.size, 4, none⟩ = some (.slice p4 x.fGone.length q4) := blk_cell hX4 4
  have kx5 : w4.cell? ⟨w.heap.size, 5, none⟩ = some (.int .i64 x.fKeep) := blk_cell hX4 5
  have kx6 : w4.cell? ⟨w.heap.size, 6, none⟩ = some (.slice a6 x.fDead.length c6) := blk_cell hX4 6
  have kx7 : w4.cell? ⟨w.heap.size, 7, none⟩ = some (.bool x.fSame) := blk_cell hX4 7
  have kf6 := blk_frozen hX4 6
  have pr0 : w4.cell? ⟨w.heap.size + 1, 0, none⟩ = some (.slice none 0 0) := blk_cell hR4 0
  have pg0 := blk_frozen hR4 0
  have pr1 : w4.cell? ⟨w.heap.size + 1, 1, none⟩ = some (.slice none 0 0) := blk_cell hR4 1
  have pg1 := blk_frozen hR4 1
  have pr2 : w4.cell? ⟨w.heap.size + 1, 2, none⟩ = some (.slice none 0 0) := blk_cell hR4 2
  have pg2 := blk_frozen hR4 2
  have pr3 : w4.cell? ⟨w.heap.size + 1, 3, none⟩ = some (.int .i64 0) := blk_cell hR4 3
  have pg3 := blk_frozen hR4 3
  have pr4 : w4.cell? ⟨w.heap.size + 1, 4, none⟩ = some (.slice none 0 0) := blk_cell hR4 4
  have pg4 := blk_frozen hR4 4
  have pr5 : w4.cell? ⟨w.heap.size + 1, 5, none⟩ = some (.int .i64 0) := blk_cell hR4 5
  have pg5 := blk_frozen hR4 5
  have pr6 : w4.cell? ⟨w.heap.size + 1, 6, none⟩ = some (.slice none 0 0) := blk_cell hR4 6
  have pg6 := blk_frozen hR4 6
  have pr7 : w4.cell? ⟨w.heap.size + 1, 7, none⟩ = some (.bool false) := blk_cell hR4 7
  have pg7 := blk_frozen hR4 7
  go_wp2
  refine bodyPost_ret (v := .agg #[.slice p0 x.fRows.length q0, .slice p1 x.fSpace.fRefs.length q1, .slice p2 x.fSpace.fLast.length q2, .int .i64 x.fTxg, .slice p4 x.fGone.length q4, .int .i64 x.fKeep, .slice p6 x.fDead.length q6, .bool x.fSame]) (by simp [results, Try.results84, go_sem, pr0, pr1, pr2, pr3, pr4, pr5, pr6, pr7]) rfl ?_
  refine ⟨_, rfl, ⟨_, _, _, _, _, _, _, _, _, _, rfl, ?g0, ?g1, ?g2, ?g4, ?g6, ap0_1, ap0_2, ap0_4, ap0_6, ap1_2, ap1_4, ap1_6, ap2_4, ap2_6, ap4_6⟩, ?_⟩
  case g0 =>
    refine RowO.mono (((((((((ro0.set ?_ _).set ?_ _).set ?_ _).set ?_ _).set ?_ _).set ?_ _).set ?_ _).set ?_ _).set ?_ _) ?_ ?_
    all_goals (first | omega | (simp; done) | (simp; omega))
  case g1 =>
    refine RowO.mono (((((((((ro1.set ?_ _).set ?_ _).set ?_ _).set ?_ _).set ?_ _).set ?_ _).set ?_ _).set ?_ _).set ?_ _) ?_ ?_
    all_goals (first | omega | (simp; done) | (simp; omega))
  case g2 =>
    refine RowO.mono (((((((((ro2.set ?_ _).set ?_ _).set ?_ _).set ?_ _).set ?_ _).set ?_ _).set ?_ _).set ?_ _).set ?_ _) ?_ ?_
    all_goals (first | omega | (simp; done) | (simp; omega))
  case g4 =>
    refine RowO.mono (((((((((ro4.set ?_ _).set ?_ _).set ?_ _).set ?_ _).set ?_ _).set ?_ _).set ?_ _).set ?_ _).set ?_ _) ?_ ?_
    all_goals (first | omega | (simp; done) | (simp; omega))
  case g6 =>
    refine RowO.mono (((((((((ro6.set ?_ _).set ?_ _).set ?_ _).set ?_ _).set ?_ _).set ?_ _).set ?_ _).set ?_ _).set ?_ _) ?_ ?_
    all_goals (first | omega | (simp; done) | (simp; omega))
  refine Below.setCell (Below.setCell (Below.setCell (Below.setCell (Below.setCell (Below.setCell (Below.setCell (Below.setCell (Below.setCell hb4 ?_ _) ?_ _) ?_ _) ?_ _) ?_ _) ?_ _) ?_ _) ?_ _) ?_ _
  all_goals (first | omega | (simp; done) | (simp; omega))
end Go.Proofs.Ytfijfjjleelphaa
