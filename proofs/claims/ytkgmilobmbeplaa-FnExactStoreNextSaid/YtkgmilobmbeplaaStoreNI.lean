/- The program's StoreNext. -/
import Derived.Test.YtkgmilobmbeplaaNextR
import Derived.Test.YtkgmilobmbeplaaStoreOkI
namespace Go.Proofs.Ytkgmilobmbeplaa
open Go.RowKit

set_option maxHeartbeats 1000000 in
set_option maxRecDepth 100000 in
theorem implStoreNext_any (v : Value) (st : StoreD) (w : World) (hf : st.Fit) (hr : StoreD.Reads w v st) :
    Calls Try.prog 34 #[v] w fun e w' => ∃ v', e = .returned (.tuple #[v', .bool st.mayNext]) ∧ StoreD.Own w' w.heap.size w'.heap.size v' st.stepped ∧ Below w.heap.size w w' := by
  obtain ⟨a0, c0, a1, c1, a2, c2, a4, c4, a6, c6, rfl, r0, r1, r2, r4, r6⟩ := hr
  have hb : Below w.heap.size w ((w.alloc (.cells #[.slice a0 st.fRows.length c0, .slice a1 st.fSpace.fRefs.length c1, .slice a2 st.fSpace.fLast.length c2, .int .i64 st.fTxg, .slice a4 st.fGone.length c4, .int .i64 st.fKeep, .slice a6 st.fDead.length c6, .bool st.fSame] 68)).alloc (.cells #[.slice none 0 0, .slice none 0 0, .slice none 0 0, .int .i64 0, .slice none 0 0, .int .i64 0, .slice none 0 0, .bool false] 68)) := ((Below.refl _ _).alloc (Nat.le_refl _) _).alloc (by simp) _
  have hX : ((w.alloc (.cells #[.slice a0 st.fRows.length c0, .slice a1 st.fSpace.fRefs.length c1, .slice a2 st.fSpace.fLast.length c2, .int .i64 st.fTxg, .slice a4 st.fGone.length c4, .int .i64 st.fKeep, .slice a6 st.fDead.length c6, .bool st.fSame] 68)).alloc (.cells #[.slice none 0 0, .slice none 0 0, .slice none 0 0, .int .i64 0, .slice none 0 0, .int .i64 0, .slice none 0 0, .bool false] 68)).heap[w.heap.size]? = some (.cells #[.slice a0 st.fRows.length c0, .slice a1 st.fSpace.fRefs.length c1, .slice a2 st.fSpace.fLast.length c2, .int .i64 st.fTxg, .slice a4 st.fGone.length c4, .int .i64 st.fKeep, .slice a6 st.fDead.length c6, .bool st.fSame] 68 (0, 0)) := blk_alloc (blk_new w _ _ rfl) _
  have hR : ((w.alloc (.cells #[.slice a0 st.fRows.length c0, .slice a1 st.fSpace.fRefs.length c1, .slice a2 st.fSpace.fLast.length c2, .int .i64 st.fTxg, .slice a4 st.fGone.length c4, .int .i64 st.fKeep, .slice a6 st.fDead.length c6, .bool st.fSame] 68)).alloc (.cells #[.slice none 0 0, .slice none 0 0, .slice none 0 0, .int .i64 0, .slice none 0 0, .int .i64 0, .slice none 0 0, .bool false] 68)).heap[w.heap.size + 1]? = some (.cells #[.slice none 0 0, .slice none 0 0, .slice none 0 0, .int .i64 0, .slice none 0 0, .int .i64 0, .slice none 0 0, .bool false] 68 (0, 0)) := blk_new _ _ (w.heap.size + 1) (by simp)
  have HC := Bx.mk (implStoreOk_any (.agg #[.slice a0 st.fRows.length c0, .slice a1 st.fSpace.fRefs.length c1, .slice a2 st.fSpace.fLast.length c2, .int .i64 st.fTxg, .slice a4 st.fGone.length c4, .int .i64 st.fKeep, .slice a6 st.fDead.length c6, .bool st.fSame]) st ((w.alloc (.cells #[.slice a0 st.fRows.length c0, .slice a1 st.fSpace.fRefs.length c1, .slice a2 st.fSpace.fLast.length c2, .int .i64 st.fTxg, .slice a4 st.fGone.length c4, .int .i64 st.fKeep, .slice a6 st.fDead.length c6, .bool st.fSame] 68)).alloc (.cells #[.slice none 0 0, .slice none 0 0, .slice none 0 0, .int .i64 0, .slice none 0 0, .int .i64 0, .slice none 0 0, .bool false] 68)) ⟨a0, c0, a1, c1, a2, c2, a4, c4, a6, c6, rfl, r0.below hb, r1.below hb, r2.below hb, r4.below hb, r6.below hb⟩ hf)
  have HB := Bx.mk hb
  have HX := Bx.mk hX
  have HR := Bx.mk hR
  have RS := Bx.mk (And.intro r0 (And.intro r1 (And.intro r2 (And.intro r4 r6))))
  clear hb hX hR r0 r1 r2 r4 r6
  go_enter Try.func34, Try.ntmps34
  go_wp2_with fail
  refine HC.out.mono ?_
  rintro e w1 ⟨rfl, b1⟩
  have hb1 := HB.out.trans (b1.mono HB.out.size)
  have hX1 := blk_below HX.out b1 (Nat.le_refl _)
  have hR1 := blk_below HR.out b1 (Nat.le_refl _)
  have x0 : w1.cell? ⟨w.heap.size, 0, none⟩ = some (.slice a0 st.fRows.length c0) := blk_cell hX1 0
  have x1 : w1.cell? ⟨w.heap.size, 1, none⟩ = some (.slice a1 st.fSpace.fRefs.length c1) := blk_cell hX1 1
  have x2 : w1.cell? ⟨w.heap.size, 2, none⟩ = some (.slice a2 st.fSpace.fLast.length c2) := blk_cell hX1 2
  have x3 : w1.cell? ⟨w.heap.size, 3, none⟩ = some (.int .i64 st.fTxg) := blk_cell hX1 3
  have x4 : w1.cell? ⟨w.heap.size, 4, none⟩ = some (.slice a4 st.fGone.length c4) := blk_cell hX1 4
  have x5 : w1.cell? ⟨w.heap.size, 5, none⟩ = some (.int .i64 st.fKeep) := blk_cell hX1 5
  have x6 : w1.cell? ⟨w.heap.size, 6, none⟩ = some (.slice a6 st.fDead.length c6) := blk_cell hX1 6
  have x7 : w1.cell? ⟨w.heap.size, 7, none⟩ = some (.bool st.fSame) := blk_cell hX1 7
  have y0 : w1.cell? ⟨w.heap.size + 1, 0, none⟩ = some (.slice none 0 0) := blk_cell hR1 0
  have yf0 := blk_frozen hR1 0
  have y1 : w1.cell? ⟨w.heap.size + 1, 1, none⟩ = some (.slice none 0 0) := blk_cell hR1 1
  have yf1 := blk_frozen hR1 1
  have y2 : w1.cell? ⟨w.heap.size + 1, 2, none⟩ = some (.slice none 0 0) := blk_cell hR1 2
  have yf2 := blk_frozen hR1 2
  have y3 : w1.cell? ⟨w.heap.size + 1, 3, none⟩ = some (.int .i64 0) := blk_cell hR1 3
  have yf3 := blk_frozen hR1 3
  have y4 : w1.cell? ⟨w.heap.size + 1, 4, none⟩ = some (.slice none 0 0) := blk_cell hR1 4
  have yf4 := blk_frozen hR1 4
  have y5 : w1.cell? ⟨w.heap.size + 1, 5, none⟩ = some (.int .i64 0) := blk_cell hR1 5
  have yf5 := blk_frozen hR1 5
  have y6 : w1.cell? ⟨w.heap.size + 1, 6, none⟩ = some (.slice none 0 0) := blk_cell hR1 6
  have yf6 := blk_frozen hR1 6
  have y7 : w1.cell? ⟨w.heap.size + 1, 7, none⟩ = some (.bool false) := blk_cell hR1 7
  have yf7 := blk_frozen hR1 7
  cases hok : st.ok
  · have HM : Bx (st.mayNext = false) := ⟨by simp [StoreD.mayNext, hok]⟩
    clear hok
    go_wp2
    refine bodyPost_ret (v := .tuple #[.agg #[.slice none 0 0, .slice none 0 0, .slice none 0 0, .int .i64 0, .slice none 0 0, .int .i64 0, .slice none 0 0, .bool false], .bool false]) (by simp [results, Try.results34, go_sem, y0, y1, y2, y3, y4, y5, y6, y7]) rfl ?_
    rw [show st.stepped = StoreD.zero by unfold StoreD.stepped; rw [HM.out]; rfl, HM.out]
    refine ⟨_, rfl, ⟨none, 0, none, 0, none, 0, none, 0, none, 0, rfl, RowO.empty _ _ _ _ _ _ _, RowO.empty _ _ _ _ _ _ _, RowO.empty _ _ _ _ _ _ _, RowO.empty _ _ _ _ _ _ _, RowO.empty _ _ _ _ _ _ _, .inl rfl, .inl rfl, .inl rfl, .inl rfl, .inl rfl, .inl rfl, .inl rfl, .inl rfl, .inl rfl, .inl rfl⟩, ?_⟩
    refine Below.setCell (Below.setCell (Below.setCell (Below.setCell (Below.setCell (Below.setCell (Below.setCell (Below.setCell hb1 ?_ _) ?_ _) ?_ _) ?_ _) ?_ _) ?_ _) ?_ _) ?_ _
    all_goals (first | omega | (simp; done) | (simp; omega))
  · by_cases h9 : st.fTxg = 900
    · have HM : Bx (st.mayNext = false) := ⟨by simp [StoreD.mayNext, h9]⟩
      have h9' : (st.fTxg == 900) = true := by simp [h9]
      clear hok h9
      go_wp2
      refine bodyPost_ret (v := .tuple #[.agg #[.slice none 0 0, .slice none 0 0, .slice none 0 0, .int .i64 0, .slice none 0 0, .int .i64 0, .slice none 0 0, .bool false], .bool false]) (by simp [results, Try.results34, go_sem, y0, y1, y2, y3, y4, y5, y6, y7]) rfl ?_
      rw [show st.stepped = StoreD.zero by unfold StoreD.stepped; rw [HM.out]; rfl, HM.out]
      refine ⟨_, rfl, ⟨none, 0, none, 0, none, 0, none, 0, none, 0, rfl, RowO.empty _ _ _ _ _ _ _, RowO.empty _ _ _ _ _ _ _, RowO.empty _ _ _ _ _ _ _, RowO.empty _ _ _ _ _ _ _, RowO.empty _ _ _ _ _ _ _, .inl rfl, .inl rfl, .inl rfl, .inl rfl, .inl rfl, .inl rfl, .inl rfl, .inl rfl, .inl rfl, .inl rfl⟩, ?_⟩
      refine Below.setCell (Below.setCell (Below.setCell (Below.setCell (Below.setCell (Below.setCell (Below.setCell (Below.setCell hb1 ?_ _) ?_ _) ?_ _) ?_ _) ?_ _) ?_ _) ?_ _) ?_ _
      all_goals (first | omega | (simp; done) | (simp; omega))
    · have HM : Bx (st.mayNext = true) := ⟨by simp [StoreD.mayNext, hok, h9]⟩
      have h9' : (st.fTxg == 900) = false := by simp [h9]
      have HOK := Bx.mk (StoreD.ok_spec hok)
      have HSP := Bx.mk (SpaceD.ok_spec HOK.out.space)
      clear hok h9
      go_wp2_with fail
      refine (storeClone_any (.agg #[.slice a0 st.fRows.length c0, .slice a1 st.fSpace.fRefs.length c1, .slice a2 st.fSpace.fLast.length c2, .int .i64 st.fTxg, .slice a4 st.fGone.length c4, .int .i64 st.fKeep, .slice a6 st.fDead.length c6, .bool st.fSame]) st w1 hf ⟨a0, c0, a1, c1, a2, c2, a4, c4, a6, c6, rfl, RS.out.1.below hb1, RS.out.2.1.below hb1, RS.out.2.2.1.below hb1, RS.out.2.2.2.1.below hb1, RS.out.2.2.2.2.below hb1⟩).mono ?_
      rintro e w2 ⟨_, rfl, ⟨d0, f0, d1, f1, d2, f2, d4, f4, d6, f6, rfl, m0, m1, m2, m4, m6, p01, p02, p04, p06, p12, p14, p16, p24, p26, p46⟩, b2⟩
      have hb2 := hb1.trans (b2.mono hb1.size)
      have AL := Bx.mk ((Below.refl w2.heap.size w2).alloc (Nat.le_refl _) (.cells #[.slice d0 st.fRows.length f0, .slice d1 st.fSpace.fRefs.length f1, .slice d2 st.fSpace.fLast.length f2, .int .i64 st.fTxg, .slice d4 st.fGone.length f4, .int .i64 st.fKeep, .slice d6 st.fDead.length f6, .bool st.fSame] 68))
      have hin : ∀ p ∈ st.fGone, 8 ≤ p.fAt ∧ p.fAt ≤ 63 := fun p hp => by
        have := ptrIn_at (List.all_eq_true.1 HOK.out.gone p hp)
        omega
      have how : ∀ i, i < 64 → (cnt st.fGone i : Int) ≤ st.fSpace.fRefs.getD i 0 := fun i hi => by
        have h1 := List.all_eq_true.1 HOK.out.owed i (List.mem_range.2 hi)
        simp only [decide_eq_true_eq] at h1
        have := cnt_append st.fGone st.fDead i
        omega
      have hmx : ∀ i, i < 64 → st.fSpace.fRefs.getD i 0 ≤ 900 := fun i hi => by
        have := HSP.out.each i hi
        omega
      have HN := Bx.mk (next_any w2.heap.size d0 f0 d1 f1 d2 f2 d4 f4 d6 f6 st w1.heap.size w2.heap.size (w2.alloc (.cells #[.slice d0 st.fRows.length f0, .slice d1 st.fSpace.fRefs.length f1, .slice d2 st.fSpace.fLast.length f2, .int .i64 st.fTxg, .slice d4 st.fGone.length f4, .int .i64 st.fKeep, .slice d6 st.fDead.length f6, .bool st.fSame] 68)) HOK.out.rows HSP.out.refs HSP.out.last hf.f4 HOK.out.txg hin how hmx (blk_new w2 _ _ rfl) (Nat.le_refl _)
        (m0.below AL.out (Nat.le_refl _)) (m1.below AL.out (Nat.le_refl _)) (m2.below AL.out (Nat.le_refl _)) (m4.below AL.out (Nat.le_refl _)) p01 p02 p12 p04.symm p14.symm p24.symm)
      go_wp2_with fail
      refine HN.out.mono ?_
      rintro e w3 ⟨rfl, n0, n1, n2, hA3, hg⟩
      have hw1 : w.heap.size + 2 ≤ w1.heap.size := blk_lt hR1
      have hs2 := b2.size
      have hs3 := hg.size
      rw [sz_alloc] at hs3
      have hb3 := hb2.alloc hb2.size (.cells #[.slice d0 st.fRows.length f0, .slice d1 st.fSpace.fRefs.length f1, .slice d2 st.fSpace.fLast.length f2, .int .i64 st.fTxg, .slice d4 st.fGone.length f4, .int .i64 st.fKeep, .slice d6 st.fDead.length f6, .bool st.fSame] 68)
      have hO := hg.outside (B := w1.heap.size) (B1 := w2.heap.size + 1) (by
        intro v hv g h
        simp only [List.mem_cons, List.not_mem_nil, or_false] at hv
        rcases hv with rfl | rfl | rfl | rfl
        · have := m0.lt g h; omega
        · have := m1.lt g h; omega
        · have := m2.lt g h; omega
        · rw [selfB_row] at h; have := Option.some.inj h; omega)
      have hb4 : Below w.heap.size w w3 := hb3.trans (hO.mono (B' := w.heap.size) (by omega) (Nat.le_refl _) |>.below (by rw [sz_alloc]; omega))
      have hR3 := blk_outside (blk_alloc (blk_below hR1 b2 (Nat.le_refl _)) (.cells #[.slice d0 st.fRows.length f0, .slice d1 st.fSpace.fRefs.length f1, .slice d2 st.fSpace.fLast.length f2, .int .i64 st.fTxg, .slice d4 st.fGone.length f4, .int .i64 st.fKeep, .slice d6 st.fDead.length f6, .bool st.fSame] 68)) hO (.inl (by omega))
      have n6 := (m6.below AL.out (Nat.le_refl _)).all hg (by
        intro v hv
        simp only [List.mem_cons, List.not_mem_nil, or_false] at hv
        rcases hv with rfl | rfl | rfl | rfl
        · exact p06.symm
        · exact p16.symm
        · exact p26.symm
        · exact Apart.of_lt (m := w2.heap.size) (fun g h => (m6.lt g h).2.2) (fun g h => by rw [selfB_row] at h; have := Option.some.inj h; omega))
      have z0 : w3.cell? ⟨w2.heap.size, 0, none⟩ = some (.slice d0 st.fRows.length f0) := blk_cell hA3 0
      have z1 : w3.cell? ⟨w2.heap.size, 1, none⟩ = some (.slice d1 st.fSpace.fRefs.length f1) := blk_cell hA3 1
      have z2 : w3.cell? ⟨w2.heap.size, 2, none⟩ = some (.slice d2 st.fSpace.fLast.length f2) := blk_cell hA3 2
      have z3 : w3.cell? ⟨w2.heap.size, 3, none⟩ = some (.int .i64 (st.fTxg + 1)) := blk_cell hA3 3
      have z4 : w3.cell? ⟨w2.heap.size, 4, none⟩ = some (.slice none 0 0) := blk_cell hA3 4
      have z5 : w3.cell? ⟨w2.heap.size, 5, none⟩ = some (.int .i64 st.fKeep) := blk_cell hA3 5
      have z6 : w3.cell? ⟨w2.heap.size, 6, none⟩ = some (.slice d6 st.fDead.length f6) := blk_cell hA3 6
      have z7 : w3.cell? ⟨w2.heap.size, 7, none⟩ = some (.bool st.fSame) := blk_cell hA3 7
      have v0 : w3.cell? ⟨w.heap.size + 1, 0, none⟩ = some (.slice none 0 0) := blk_cell hR3 0
      have vf0 := blk_frozen hR3 0
      have v1 : w3.cell? ⟨w.heap.size + 1, 1, none⟩ = some (.slice none 0 0) := blk_cell hR3 1
      have vf1 := blk_frozen hR3 1
      have v2 : w3.cell? ⟨w.heap.size + 1, 2, none⟩ = some (.slice none 0 0) := blk_cell hR3 2
      have vf2 := blk_frozen hR3 2
      have v3 : w3.cell? ⟨w.heap.size + 1, 3, none⟩ = some (.int .i64 0) := blk_cell hR3 3
      have vf3 := blk_frozen hR3 3
      have v4 : w3.cell? ⟨w.heap.size + 1, 4, none⟩ = some (.slice none 0 0) := blk_cell hR3 4
      have vf4 := blk_frozen hR3 4
      have v5 : w3.cell? ⟨w.heap.size + 1, 5, none⟩ = some (.int .i64 0) := blk_cell hR3 5
      have vf5 := blk_frozen hR3 5
      have v6 : w3.cell? ⟨w.heap.size + 1, 6, none⟩ = some (.slice none 0 0) := blk_cell hR3 6
      have vf6 := blk_frozen hR3 6
      have v7 : w3.cell? ⟨w.heap.size + 1, 7, none⟩ = some (.bool false) := blk_cell hR3 7
      have vf7 := blk_frozen hR3 7
      have NR := Bx.mk (And.intro n0 (And.intro n1 (And.intro n2 n6)))
      have AP := Bx.mk (And.intro p01 (And.intro p02 (And.intro p06 (And.intro p12 (And.intro p16 p26)))))
      have HB4 := Bx.mk hb4
      have LN := Bx.mk (dropsRS_len (st.fRows, st.fSpace) st.fGone)
      clear n0 n1 n2 n6 m0 m1 m2 m4 m6 p01 p02 p04 p06 p12 p14 p16 p24 p26 p46 hg hO hb1 hb2 hb3 hb4 hA3 hR3 hX1 hR1 b1 b2 hin how hmx
      go_wp2
      refine bodyPost_ret (v := .tuple #[.agg #[.slice d0 st.fRows.length f0, .slice d1 st.fSpace.fRefs.length f1, .slice d2 st.fSpace.fLast.length f2, .int .i64 (st.fTxg + 1), .slice none 0 0, .int .i64 st.fKeep, .slice d6 st.fDead.length f6, .bool st.fSame], .bool true]) (by simp [results, Try.results34, go_sem, v0, v1, v2, v3, v4, v5, v6, v7]) rfl ?_
      rw [show st.stepped = st.nextOf by unfold StoreD.stepped; rw [HM.out]; rfl, HM.out]
      refine ⟨_, rfl, own_next_of (C := w.heap.size + 1) (C1 := w.heap.size + 2) (B := w1.heap.size) (B1 := w2.heap.size) (w3 := w3) ?hOut hw1 (by omega) ?hD1 NR.out.1 NR.out.2.1 NR.out.2.2.1 NR.out.2.2.2 AP.out.1 AP.out.2.1 AP.out.2.2.1 AP.out.2.2.2.1 AP.out.2.2.2.2.1 AP.out.2.2.2.2.2, ?hBel⟩
      case hOut =>
        repeat refine Outside.set ?_ (by simp) _
        exact Outside.refl _ _ _
      case hD1 => simp; omega
      case hBel =>
        repeat refine Below.setCell ?_ (by simp) _
        exact HB4.out
end Go.Proofs.Ytkgmilobmbeplaa
