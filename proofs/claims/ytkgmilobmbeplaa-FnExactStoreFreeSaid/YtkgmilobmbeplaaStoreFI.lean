/- The program's StoreFree. -/
import Derived.Test.YtkgmilobmbeplaaFreeI
import Derived.Test.YtkgmilobmbeplaaFreeR
import Derived.Test.YtkgmilobmbeplaaStoreOkI
namespace Go.Proofs.Ytkgmilobmbeplaa
open Go.RowKit

set_option maxHeartbeats 4000000 in
set_option maxRecDepth 100000 in
theorem implStoreFree_any (v : Value) (st : StoreD) (p : PtrD) (B B1 : Nat) (w : World) (hf : st.Fit) (hi : -9223372036854775808 ≤ st.fTxg) (ho : StoreD.Own w B B1 v st) :
    Calls Try.prog 40 #[v, .agg #[.int .i64 p.fAt, .int .i64 p.fBirth, .int .i64 p.fSize, .int .i64 p.fSum, .int .i64 p.fLevel]] w fun e w' => ∃ v', e = .returned (.tuple #[v', .bool (st.mayFree p)]) ∧ StoreD.Own w' w.heap.size w'.heap.size v' (st.freed p) ∧ Below w.heap.size w w' := by
  have HO := Bx.mk ho
  obtain ⟨a0, c0, a1, c1, a2, c2, a4, c4, a6, c6, rfl, q0, q1, _⟩ := ho
  have HQ := Bx.mk q1
  clear q0 q1
  have HX := Bx.mk (((Box.new w [.slice a0 st.fRows.length c0, .slice a1 st.fSpace.fRefs.length c1, .slice a2 st.fSpace.fLast.length c2, .int .i64 st.fTxg, .slice a4 st.fGone.length c4, .int .i64 st.fKeep, .slice a6 st.fDead.length c6, .bool st.fSame] 68 rfl rfl).alloc (.cells #[.int .i64 p.fAt, .int .i64 p.fBirth, .int .i64 p.fSize, .int .i64 p.fSum, .int .i64 p.fLevel] 78)).alloc (.cells #[.slice none 0 0, .slice none 0 0, .slice none 0 0, .int .i64 0, .slice none 0 0, .int .i64 0, .slice none 0 0, .bool false] 68))
  have HP := Bx.mk ((Box.new (w.alloc (.cells #[.slice a0 st.fRows.length c0, .slice a1 st.fSpace.fRefs.length c1, .slice a2 st.fSpace.fLast.length c2, .int .i64 st.fTxg, .slice a4 st.fGone.length c4, .int .i64 st.fKeep, .slice a6 st.fDead.length c6, .bool st.fSame] 68)) [.int .i64 p.fAt, .int .i64 p.fBirth, .int .i64 p.fSize, .int .i64 p.fSum, .int .i64 p.fLevel] 78 rfl (b := w.heap.size + 1) (sz_alloc _ _).symm).alloc (.cells #[.slice none 0 0, .slice none 0 0, .slice none 0 0, .int .i64 0, .slice none 0 0, .int .i64 0, .slice none 0 0, .bool false] 68))
  have HR := Bx.mk (Box.new ((w.alloc (.cells #[.slice a0 st.fRows.length c0, .slice a1 st.fSpace.fRefs.length c1, .slice a2 st.fSpace.fLast.length c2, .int .i64 st.fTxg, .slice a4 st.fGone.length c4, .int .i64 st.fKeep, .slice a6 st.fDead.length c6, .bool st.fSame] 68)).alloc (.cells #[.int .i64 p.fAt, .int .i64 p.fBirth, .int .i64 p.fSize, .int .i64 p.fSum, .int .i64 p.fLevel] 78)) [.slice none 0 0, .slice none 0 0, .slice none 0 0, .int .i64 0, .slice none 0 0, .int .i64 0, .slice none 0 0, .bool false] 68 rfl (b := w.heap.size + 1 + 1) (by simp))
  have HB : Bx (Below w.heap.size w (((w.alloc (.cells #[.slice a0 st.fRows.length c0, .slice a1 st.fSpace.fRefs.length c1, .slice a2 st.fSpace.fLast.length c2, .int .i64 st.fTxg, .slice a4 st.fGone.length c4, .int .i64 st.fKeep, .slice a6 st.fDead.length c6, .bool st.fSame] 68)).alloc (.cells #[.int .i64 p.fAt, .int .i64 p.fBirth, .int .i64 p.fSize, .int .i64 p.fSum, .int .i64 p.fLevel] 78)).alloc (.cells #[.slice none 0 0, .slice none 0 0, .slice none 0 0, .int .i64 0, .slice none 0 0, .int .i64 0, .slice none 0 0, .bool false] 68))) := ⟨(((Below.refl _ _).alloc (Nat.le_refl _) _).alloc (by simp) _).alloc (by simp; omega) _⟩
  replace HO := Bx.mk (HO.out.below HB.out (Nat.le_refl _))
  replace HQ := Bx.mk (HQ.out.below HB.out (Nat.le_refl _))
  have HC := Bx.mk (implStoreOk_any _ st _ HO.out.rd hf)
  go_enter Try.func40, Try.ntmps40
  go_wp2_with fail
  refine HC.out.mono ?_
  rintro e w1 ⟨rfl, b⟩
  clear HC
  replace HX := Bx.mk (HX.out.below b (Nat.le_refl _))
  replace HP := Bx.mk (HP.out.below b (Nat.le_refl _))
  replace HR := Bx.mk (HR.out.below b (Nat.le_refl _))
  replace HO := Bx.mk (HO.out.below b (Nat.le_refl _))
  replace HQ := Bx.mk (HQ.out.below b (Nat.le_refl _))
  replace HB := Bx.mk (HB.out.trans (b.mono HB.out.size))
  clear b
  have hw1 : w.heap.size + 1 + 1 < w1.heap.size := HR.out.lt
  cases hok : st.ok
  ·
    have HM : Bx (st.mayFree p = false) := ⟨by simp [StoreD.mayFree, hok]⟩
    go_wp2_with (((with_reducible refine wpList_store_box (op := ⟨none, .store 68 (.tmp 4) (.tmp 37), _, _, _, none⟩) ?ga 68 (.tmp 4) (.tmp 37) ?gb (w.heap.size + 1 + 1) 8 _ _ _ ?gc ?gd HR.out cells_zero ?ge ?_); (case ga => rfl); (case gb => rfl); (case gc => rfl); (case gd => rfl); (case ge => kernel_rfl)))
    intro wz hRz hOz hsz
    go_wp2
    refine bodyPost_ret (v := .tuple #[.agg #[.slice none 0 0, .slice none 0 0, .slice none 0 0, .int .i64 0, .slice none 0 0, .int .i64 0, .slice none 0 0, .bool false], .bool false]) (by simp [results, Try.results40, go_sem, hRz.cell 0, hRz.cell 1, hRz.cell 2, hRz.cell 3, hRz.cell 4, hRz.cell 5, hRz.cell 6, hRz.cell 7]) rfl ?_
    rw [freed_no HM.out, HM.out]
    exact ⟨_, rfl, own_zero _ _ _, HB.out.trans ((hOz.below (by omega)).mono (by omega))⟩
  · cases hpo : p.ok
    ·
      go_wp2_with (((with_reducible refine wpList_load_boxg (op := ⟨some 11, .load 78 (.tmp 3), _, _, _, some _⟩) 78 (.tmp 3) ?ja ?jb (w.heap.size + 1) 5 _ _ ?jc HP.out _ Try.underlying78 ?jd ?je ?_); (case ja => rfl); (case jb => rfl); (case jc => rfl); (case jd => rfl); (case je => kernel_rfl)))
      refine (implPtrOk_any p w1).mono ?_
      rintro e w2 ⟨rfl, b⟩
      have hw2 : w.heap.size + 1 + 1 < w2.heap.size := Nat.lt_of_lt_of_le hw1 b.size
      replace HX := Bx.mk (HX.out.below b (Nat.le_refl _))
      replace HP := Bx.mk (HP.out.below b (Nat.le_refl _))
      replace HR := Bx.mk (HR.out.below b (Nat.le_refl _))
      replace HO := Bx.mk (HO.out.below b (Nat.le_refl _))
      replace HQ := Bx.mk (HQ.out.below b (Nat.le_refl _))
      replace HB := Bx.mk (HB.out.trans (b.mono HB.out.size))
      clear b
      have HM : Bx (st.mayFree p = false) := ⟨by simp [StoreD.mayFree, hpo]⟩
      go_wp2_with (((with_reducible refine wpList_store_box (op := ⟨none, .store 68 (.tmp 4) (.tmp 37), _, _, _, none⟩) ?ga 68 (.tmp 4) (.tmp 37) ?gb (w.heap.size + 1 + 1) 8 _ _ _ ?gc ?gd HR.out cells_zero ?ge ?_); (case ga => rfl); (case gb => rfl); (case gc => rfl); (case gd => rfl); (case ge => kernel_rfl)))
      intro wz hRz hOz hsz
      go_wp2
      refine bodyPost_ret (v := .tuple #[.agg #[.slice none 0 0, .slice none 0 0, .slice none 0 0, .int .i64 0, .slice none 0 0, .int .i64 0, .slice none 0 0, .bool false], .bool false]) (by simp [results, Try.results40, go_sem, hRz.cell 0, hRz.cell 1, hRz.cell 2, hRz.cell 3, hRz.cell 4, hRz.cell 5, hRz.cell 6, hRz.cell 7]) rfl ?_
      rw [freed_no HM.out, HM.out]
      exact ⟨_, rfl, own_zero _ _ _, HB.out.trans ((hOz.below (by omega)).mono (by omega))⟩
    · have HOK := Bx.mk (StoreD.ok_spec hok)
      have HSP := Bx.mk (SpaceD.ok_spec HOK.out.space)
      have HK := Bx.mk (And.intro hok hpo)
      clear hok
      go_wp2_with (((with_reducible refine wpList_load_boxg (op := ⟨some 11, .load 78 (.tmp 3), _, _, _, some _⟩) 78 (.tmp 3) ?ja ?jb (w.heap.size + 1) 5 _ _ ?jc HP.out _ Try.underlying78 ?jd ?je ?_); (case ja => rfl); (case jb => rfl); (case jc => rfl); (case jd => rfl); (case je => kernel_rfl)))
      have HCP := implPtrOk_any p w1
      rw [hpo] at HCP
      clear hpo
      refine HCP.mono ?_
      rintro e w2 ⟨rfl, b⟩
      have hw2 : w.heap.size + 1 + 1 < w2.heap.size := Nat.lt_of_lt_of_le hw1 b.size
      clear HCP
      replace HX := Bx.mk (HX.out.below b (Nat.le_refl _))
      replace HP := Bx.mk (HP.out.below b (Nat.le_refl _))
      replace HR := Bx.mk (HR.out.below b (Nat.le_refl _))
      replace HO := Bx.mk (HO.out.below b (Nat.le_refl _))
      replace HQ := Bx.mk (HQ.out.below b (Nat.le_refl _))
      replace HB := Bx.mk (HB.out.trans (b.mono HB.out.size))
      clear b
      cases hh : p.hole
      · have PIN := Bx.mk (ok_at HK.out.2 hh)
        have HH := Bx.mk hh
        clear hh
        go_wp2_with (((with_reducible refine wpList_load_boxg (op := ⟨some 16, .load 78 (.tmp 3), _, _, _, some _⟩) 78 (.tmp 3) ?ja ?jb (w.heap.size + 1) 5 _ _ ?jc HP.out _ Try.underlying78 ?jd ?je ?_); (case ja => rfl); (case jb => rfl); (case jc => rfl); (case jd => rfl); (case je => kernel_rfl)))
        have HCH := implHole_any p w2
        rw [HH.out] at HCH
        refine HCH.mono ?_
        rintro e w3 ⟨rfl, b⟩
        have hw3 : w.heap.size + 1 + 1 < w3.heap.size := Nat.lt_of_lt_of_le hw2 b.size
        clear HCH
        replace HX := Bx.mk (HX.out.below b (Nat.le_refl _))
        replace HP := Bx.mk (HP.out.below b (Nat.le_refl _))
        replace HR := Bx.mk (HR.out.below b (Nat.le_refl _))
        replace HO := Bx.mk (HO.out.below b (Nat.le_refl _))
        replace HQ := Bx.mk (HQ.out.below b (Nat.le_refl _))
        replace HB := Bx.mk (HB.out.trans (b.mono HB.out.size))
        clear b
        obtain ⟨g1, eg, _, _, _, _, _⟩ := HQ.out.open1 (by rw [HSP.out.refs]; omega)
        obtain ⟨a, ha⟩ : ∃ a : Nat, p.fAt = (a : Int) := ⟨p.fAt.toNat, by have := PIN.out; omega⟩
        have ha64 : a < 64 := by have := PIN.out; omega
        have hra : Bx (p.fAt.toNat = a) := ⟨by omega⟩
        have hal : a < st.fSpace.fRefs.length := by rw [HSP.out.refs]; exact ha64
        have hq := HQ.out
        rw [eg] at hq
        have k1 := hq.cellI (a := a) (x := st.fSpace.fRefs.getD a 0) (by simp [List.getD, hal])
        have y0 : w3.cell? ⟨w.heap.size + 1, 0, none⟩ = some (.int .i64 (a : Int)) := by rw [← ha]; exact HP.out.cell 0
        have x1 : w3.cell? ⟨w.heap.size, 1, none⟩ = some (.slice (some ⟨g1, 0, none⟩) st.fSpace.fRefs.length c1) := by rw [← eg]; exact HX.out.cell 1
        have hlen : st.fSpace.fRefs.length ≤ 1048576 := hf.f1
        have HA := Bx.mk ha
        have EG := Bx.mk eg
        obtain ⟨r, hr⟩ : ∃ r, st.fSpace.fRefs.getD a 0 = r := ⟨_, rfl⟩
        rw [hr] at k1
        have HRr : Bx (st.fSpace.fRefs.getD p.fAt.toNat 0 = r) := ⟨by rw [hra.out]; exact hr⟩
        have HRb : Bx (0 ≤ r ∧ r ≤ 900) := ⟨by have := HSP.out.each a ha64; omega⟩
        clear hq ha eg hr
        have y1 : w3.cell? ⟨w.heap.size + 1, 1, none⟩ = some (.int .i64 p.fBirth) := HP.out.cell 1
        have x3 : w3.cell? ⟨w.heap.size, 3, none⟩ = some (.int .i64 st.fTxg) := HX.out.cell 3
        by_cases hz : r = 0
        · have hz2 : (r == 0) = true := by simp [hz]
          have HZ := Bx.mk hz2
          clear hz
          have HM : Bx (st.mayFree p = false) := ⟨by unfold StoreD.mayFree; rw [HRr.out, HZ.out, HH.out]; simp⟩
          go_wp2_with (((with_reducible refine wpList_store_box (op := ⟨none, .store 68 (.tmp 4) (.tmp 37), _, _, _, none⟩) ?ga 68 (.tmp 4) (.tmp 37) ?gb (w.heap.size + 1 + 1) 8 _ _ _ ?gc ?gd HR.out cells_zero ?ge ?_); (case ga => rfl); (case gb => rfl); (case gc => rfl); (case gd => rfl); (case ge => kernel_rfl)))
          intro wz hRz hOz hsz
          go_wp2
          refine bodyPost_ret (v := .tuple #[.agg #[.slice none 0 0, .slice none 0 0, .slice none 0 0, .int .i64 0, .slice none 0 0, .int .i64 0, .slice none 0 0, .bool false], .bool false]) (by simp [results, Try.results40, go_sem, hRz.cell 0, hRz.cell 1, hRz.cell 2, hRz.cell 3, hRz.cell 4, hRz.cell 5, hRz.cell 6, hRz.cell 7]) rfl ?_
          rw [freed_no HM.out, HM.out]
          exact ⟨_, rfl, own_zero _ _ _, HB.out.trans ((hOz.below (by omega)).mono (by omega))⟩
        · have hz2 : (r == 0) = false := by simp [hz]
          clear hz
          by_cases hb : p.fBirth ≤ st.fTxg
          · have hd : decide (st.fTxg < p.fBirth) = false := by simp; omega
            have MF : Bx ((p.hole || (decide (p.fBirth ≤ st.fTxg) && !(st.fSpace.fRefs.getD p.fAt.toNat 0 == 0))) = true) := ⟨by rw [HRr.out, hz2]; simp [hb]⟩
            have HPF0 : Bx (p.hole = false → (8 ≤ p.fAt ∧ p.fAt ≤ 63) ∧ 1 ≤ st.fSpace.fRefs.getD p.fAt.toNat 0 ∧ st.fSpace.fRefs.getD p.fAt.toNat 0 ≤ 1000000) := ⟨fun _ => by rw [HRr.out]; have h1 := HRb.out; have h2 := PIN.out; have h3 : r ≠ 0 := (by simpa using hz2); omega⟩
            have HFIN := Bx.mk hd
            have HM : Bx (st.mayFree p = true) := ⟨by unfold StoreD.mayFree; rw [HK.out.1, HK.out.2, MF.out]; rfl⟩
            have HPF : p.hole = false → (8 ≤ p.fAt ∧ p.fAt ≤ 63) ∧ 1 ≤ st.fSpace.fRefs.getD p.fAt.toNat 0 ∧ st.fSpace.fRefs.getD p.fAt.toNat 0 ≤ 1000000 := HPF0.out
            have HPFb := Bx.mk HPF
            clear HPF
            go_wp2_with (((with_reducible refine wpList_load_box (op := ⟨some 38, .load 68 (.tmp 2), _, _, _, none⟩) ?ha 68 (.tmp 2) ?hb w.heap.size 8 _ _ ?hc HX.out _ Try.underlying68 ?hd ?he ?_); (case ha => rfl); (case hb => rfl); (case hc => rfl); (case hd => rfl); (case he => kernel_rfl)))
            refine (storeClone_any _ st w3 hf HO.out.rd).mono ?_
            rintro e w4 ⟨_, rfl, o4, b⟩
            have O4 := Bx.mk o4
            obtain ⟨d0, f0, d1, f1, d2, f2, d4, f4, d6, f6, rfl, _⟩ := o4
            have hs4 : w3.heap.size ≤ w4.heap.size := b.size
            replace HX := Bx.mk (HX.out.below b (Nat.le_refl _))
            replace HP := Bx.mk (HP.out.below b (Nat.le_refl _))
            replace HR := Bx.mk (HR.out.below b (Nat.le_refl _))
            replace HO := Bx.mk (HO.out.below b (Nat.le_refl _))
            replace HQ := Bx.mk (HQ.out.below b (Nat.le_refl _))
            replace HB := Bx.mk (HB.out.trans (b.mono HB.out.size))
            clear b
            have HN := Bx.mk (Box.new w4 [.slice none 0 0, .slice none 0 0, .slice none 0 0, .int .i64 0, .slice none 0 0, .int .i64 0, .slice none 0 0, .bool false] 68 rfl rfl)
            go_wp2_with (((with_reducible refine wpList_store_box (op := ⟨none, .store 68 (.tmp 6) (.tmp 39), _, _, _, none⟩) ?ga 68 (.tmp 6) (.tmp 39) ?gb w4.heap.size 8 _ _ _ ?gc ?gd HN.out O4.out.cells ?ge ?_); (case ga => rfl); (case gb => rfl); (case gc => rfl); (case gd => rfl); (case ge => kernel_rfl)))
            intro w5 hN hO hs5
            have b := below_put hO
            have hs45 : w4.heap.size < w5.heap.size := hN.lt
            replace O4 := Bx.mk (O4.out.below b (Nat.le_refl _))
            replace HX := Bx.mk (HX.out.below b (Nat.le_refl _))
            replace HP := Bx.mk (HP.out.below b (Nat.le_refl _))
            replace HR := Bx.mk (HR.out.below b (Nat.le_refl _))
            replace HO := Bx.mk (HO.out.below b (Nat.le_refl _))
            replace HQ := Bx.mk (HQ.out.below b (Nat.le_refl _))
            replace HB := Bx.mk (HB.out.trans (b.mono HB.out.size))
            clear b
            have HN := Bx.mk hN
            clear hN hO hs5
            obtain ⟨_, _, _, _, _, _, _, _, _, _, hv, q0, q1, q2, q4, q6, p01, p02, p04, p06, p12, p14, p16, p24, p26, p46⟩ := O4.out
            simp only [Value.agg.injEq, Array.mk.injEq, List.cons.injEq, Value.slice.injEq, true_and, and_true] at hv
            obtain ⟨⟨rfl, rfl⟩, ⟨rfl, rfl⟩, ⟨rfl, rfl⟩, ⟨rfl, rfl⟩, ⟨rfl, rfl⟩⟩ := hv
            have HF := Bx.mk (free_any w4.heap.size d0 f0 d1 f1 d2 f2 d4 f4 d6 f6 st p w3.heap.size w4.heap.size w5 hf HN.out (Nat.le_refl _) hs4 q0 q1 q2 q4 q6 p01 p02 p04 p06 p12 p14 p16 p24 p26 p46 HOK.out.rows HSP.out.refs HSP.out.last HPFb.out)
            clear q0 q1 q2 q4 q6 p01 p02 p04 p06 p12 p14 p16 p24 p26 p46
            go_wp2_with (((with_reducible refine wpList_load_box (op := ⟨some 40, .load 78 (.tmp 3), _, _, _, none⟩) ?ha 78 (.tmp 3) ?hb (w.heap.size + 1) 5 _ _ ?hc HP.out _ Try.underlying78 ?hd ?he ?_); (case ha => rfl); (case hb => rfl); (case hc => rfl); (case hd => rfl); (case he => kernel_rfl)))
            refine HF.out.mono ?_
            rintro e w6 ⟨rfl, _, hV, o6, hO6⟩
            have O6 := Bx.mk o6
            obtain ⟨z0, g0, z1, g1, z2, g2, z4, g4, z6, g6, rfl, _⟩ := o6
            have HV := Bx.mk hV
            have hs6 := hO6.size
            replace HR := Bx.mk (HR.out.outside hO6 (.inl (by omega)))
            have hA6 : Below w.heap.size w5 w6 := (hO6.below (by omega)).mono (by omega)
            replace HB := Bx.mk (HB.out.trans hA6)
            clear hV hO6 hA6 HF
            go_wp2_with (first | ((with_reducible refine wpList_load_box (op := ⟨some 42, .load 68 (.tmp 6), _, _, _, none⟩) ?ha 68 (.tmp 6) ?hb w4.heap.size 8 _ _ ?hc HV.out _ Try.underlying68 ?hd ?he ?_); (case ha => rfl); (case hb => rfl); (case hc => rfl); (case hd => rfl); (case he => kernel_rfl)) | ((with_reducible refine wpList_store_box (op := ⟨none, .store 68 (.tmp 4) (.tmp 42), _, _, _, none⟩) ?ga2 68 (.tmp 4) (.tmp 42) ?gb2 (w.heap.size + 1 + 1) 8 _ _ _ ?gc2 ?gd2 HR.out O6.out.cells ?ge2 ?_); (case ga2 => rfl); (case gb2 => rfl); (case gc2 => rfl); (case gd2 => rfl); (case ge2 => kernel_rfl)))
            intro w7 hR7 hO7 hs7
            go_wp2
            refine bodyPost_ret (v := .tuple #[.agg #[.slice z0 (st.free p).fRows.length g0, .slice z1 (st.free p).fSpace.fRefs.length g1, .slice z2 (st.free p).fSpace.fLast.length g2, .int .i64 (st.free p).fTxg, .slice z4 (st.free p).fGone.length g4, .int .i64 (st.free p).fKeep, .slice z6 (st.free p).fDead.length g6, .bool (st.free p).fSame], .bool true]) (by simp [results, Try.results40, go_sem, hR7.cell 0, hR7.cell 1, hR7.cell 2, hR7.cell 3, hR7.cell 4, hR7.cell 5, hR7.cell 6, hR7.cell 7]) rfl ?_
            have hA7 : Below w.heap.size w6 w7 := (hO7.below (by omega)).mono (by omega)
            rw [freed_yes HM.out, HM.out]
            exact ⟨_, rfl, (O6.out.outside hO7 (.inr (by omega))).mono (by omega) (by omega), HB.out.trans hA7⟩
          · have hd : decide (st.fTxg < p.fBirth) = true := by simp; omega
            have hb2 : st.fTxg < p.fBirth := by omega
            have HM : Bx (st.mayFree p = false) := ⟨by unfold StoreD.mayFree; rw [HH.out]; simp; intro _ _; omega⟩
            go_wp2_with (((with_reducible refine wpList_store_box (op := ⟨none, .store 68 (.tmp 4) (.tmp 37), _, _, _, none⟩) ?ga 68 (.tmp 4) (.tmp 37) ?gb (w.heap.size + 1 + 1) 8 _ _ _ ?gc ?gd HR.out cells_zero ?ge ?_); (case ga => rfl); (case gb => rfl); (case gc => rfl); (case gd => rfl); (case ge => kernel_rfl)))
            intro wz hRz hOz hsz
            go_wp2
            refine bodyPost_ret (v := .tuple #[.agg #[.slice none 0 0, .slice none 0 0, .slice none 0 0, .int .i64 0, .slice none 0 0, .int .i64 0, .slice none 0 0, .bool false], .bool false]) (by simp [results, Try.results40, go_sem, hRz.cell 0, hRz.cell 1, hRz.cell 2, hRz.cell 3, hRz.cell 4, hRz.cell 5, hRz.cell 6, hRz.cell 7]) rfl ?_
            rw [freed_no HM.out, HM.out]
            exact ⟨_, rfl, own_zero _ _ _, HB.out.trans ((hOz.below (by omega)).mono (by omega))⟩
      · have HH := Bx.mk hh
        clear hh
        go_wp2_with (((with_reducible refine wpList_load_boxg (op := ⟨some 16, .load 78 (.tmp 3), _, _, _, some _⟩) 78 (.tmp 3) ?ja ?jb (w.heap.size + 1) 5 _ _ ?jc HP.out _ Try.underlying78 ?jd ?je ?_); (case ja => rfl); (case jb => rfl); (case jc => rfl); (case jd => rfl); (case je => kernel_rfl)))
        have HCH := implHole_any p w2
        rw [HH.out] at HCH
        refine HCH.mono ?_
        rintro e w3 ⟨rfl, b⟩
        have hw3 : w.heap.size + 1 + 1 < w3.heap.size := Nat.lt_of_lt_of_le hw2 b.size
        clear HCH
        replace HX := Bx.mk (HX.out.below b (Nat.le_refl _))
        replace HP := Bx.mk (HP.out.below b (Nat.le_refl _))
        replace HR := Bx.mk (HR.out.below b (Nat.le_refl _))
        replace HO := Bx.mk (HO.out.below b (Nat.le_refl _))
        replace HQ := Bx.mk (HQ.out.below b (Nat.le_refl _))
        replace HB := Bx.mk (HB.out.trans (b.mono HB.out.size))
        clear b
        have MF : Bx ((p.hole || (decide (p.fBirth ≤ st.fTxg) && !(st.fSpace.fRefs.getD p.fAt.toNat 0 == 0))) = true) := ⟨by simp [HH.out]⟩
        have HPF0 : Bx (p.hole = false → (8 ≤ p.fAt ∧ p.fAt ≤ 63) ∧ 1 ≤ st.fSpace.fRefs.getD p.fAt.toNat 0 ∧ st.fSpace.fRefs.getD p.fAt.toNat 0 ≤ 1000000) := ⟨fun h => by rw [HH.out] at h; cases h⟩
        have HM : Bx (st.mayFree p = true) := ⟨by unfold StoreD.mayFree; rw [HK.out.1, HK.out.2, MF.out]; rfl⟩
        have HPF : p.hole = false → (8 ≤ p.fAt ∧ p.fAt ≤ 63) ∧ 1 ≤ st.fSpace.fRefs.getD p.fAt.toNat 0 ∧ st.fSpace.fRefs.getD p.fAt.toNat 0 ≤ 1000000 := HPF0.out
        have HPFb := Bx.mk HPF
        clear HPF
        go_wp2_with (((with_reducible refine wpList_load_box (op := ⟨some 38, .load 68 (.tmp 2), _, _, _, none⟩) ?ha 68 (.tmp 2) ?hb w.heap.size 8 _ _ ?hc HX.out _ Try.underlying68 ?hd ?he ?_); (case ha => rfl); (case hb => rfl); (case hc => rfl); (case hd => rfl); (case he => kernel_rfl)))
        refine (storeClone_any _ st w3 hf HO.out.rd).mono ?_
        rintro e w4 ⟨_, rfl, o4, b⟩
        have O4 := Bx.mk o4
        obtain ⟨d0, f0, d1, f1, d2, f2, d4, f4, d6, f6, rfl, _⟩ := o4
        have hs4 : w3.heap.size ≤ w4.heap.size := b.size
        replace HX := Bx.mk (HX.out.below b (Nat.le_refl _))
        replace HP := Bx.mk (HP.out.below b (Nat.le_refl _))
        replace HR := Bx.mk (HR.out.below b (Nat.le_refl _))
        replace HO := Bx.mk (HO.out.below b (Nat.le_refl _))
        replace HQ := Bx.mk (HQ.out.below b (Nat.le_refl _))
        replace HB := Bx.mk (HB.out.trans (b.mono HB.out.size))
        clear b
        have HN := Bx.mk (Box.new w4 [.slice none 0 0, .slice none 0 0, .slice none 0 0, .int .i64 0, .slice none 0 0, .int .i64 0, .slice none 0 0, .bool false] 68 rfl rfl)
        go_wp2_with (((with_reducible refine wpList_store_box (op := ⟨none, .store 68 (.tmp 6) (.tmp 39), _, _, _, none⟩) ?ga 68 (.tmp 6) (.tmp 39) ?gb w4.heap.size 8 _ _ _ ?gc ?gd HN.out O4.out.cells ?ge ?_); (case ga => rfl); (case gb => rfl); (case gc => rfl); (case gd => rfl); (case ge => kernel_rfl)))
        intro w5 hN hO hs5
        have b := below_put hO
        have hs45 : w4.heap.size < w5.heap.size := hN.lt
        replace O4 := Bx.mk (O4.out.below b (Nat.le_refl _))
        replace HX := Bx.mk (HX.out.below b (Nat.le_refl _))
        replace HP := Bx.mk (HP.out.below b (Nat.le_refl _))
        replace HR := Bx.mk (HR.out.below b (Nat.le_refl _))
        replace HO := Bx.mk (HO.out.below b (Nat.le_refl _))
        replace HQ := Bx.mk (HQ.out.below b (Nat.le_refl _))
        replace HB := Bx.mk (HB.out.trans (b.mono HB.out.size))
        clear b
        have HN := Bx.mk hN
        clear hN hO hs5
        obtain ⟨_, _, _, _, _, _, _, _, _, _, hv, q0, q1, q2, q4, q6, p01, p02, p04, p06, p12, p14, p16, p24, p26, p46⟩ := O4.out
        simp only [Value.agg.injEq, Array.mk.injEq, List.cons.injEq, Value.slice.injEq, true_and, and_true] at hv
        obtain ⟨⟨rfl, rfl⟩, ⟨rfl, rfl⟩, ⟨rfl, rfl⟩, ⟨rfl, rfl⟩, ⟨rfl, rfl⟩⟩ := hv
        have HF := Bx.mk (free_any w4.heap.size d0 f0 d1 f1 d2 f2 d4 f4 d6 f6 st p w3.heap.size w4.heap.size w5 hf HN.out (Nat.le_refl _) hs4 q0 q1 q2 q4 q6 p01 p02 p04 p06 p12 p14 p16 p24 p26 p46 HOK.out.rows HSP.out.refs HSP.out.last HPFb.out)
        clear q0 q1 q2 q4 q6 p01 p02 p04 p06 p12 p14 p16 p24 p26 p46
        go_wp2_with (((with_reducible refine wpList_load_box (op := ⟨some 40, .load 78 (.tmp 3), _, _, _, none⟩) ?ha 78 (.tmp 3) ?hb (w.heap.size + 1) 5 _ _ ?hc HP.out _ Try.underlying78 ?hd ?he ?_); (case ha => rfl); (case hb => rfl); (case hc => rfl); (case hd => rfl); (case he => kernel_rfl)))
        refine HF.out.mono ?_
        rintro e w6 ⟨rfl, _, hV, o6, hO6⟩
        have O6 := Bx.mk o6
        obtain ⟨z0, g0, z1, g1, z2, g2, z4, g4, z6, g6, rfl, _⟩ := o6
        have HV := Bx.mk hV
        have hs6 := hO6.size
        replace HR := Bx.mk (HR.out.outside hO6 (.inl (by omega)))
        have hA6 : Below w.heap.size w5 w6 := (hO6.below (by omega)).mono (by omega)
        replace HB := Bx.mk (HB.out.trans hA6)
        clear hV hO6 hA6 HF
        go_wp2_with (first | ((with_reducible refine wpList_load_box (op := ⟨some 42, .load 68 (.tmp 6), _, _, _, none⟩) ?ha 68 (.tmp 6) ?hb w4.heap.size 8 _ _ ?hc HV.out _ Try.underlying68 ?hd ?he ?_); (case ha => rfl); (case hb => rfl); (case hc => rfl); (case hd => rfl); (case he => kernel_rfl)) | ((with_reducible refine wpList_store_box (op := ⟨none, .store 68 (.tmp 4) (.tmp 42), _, _, _, none⟩) ?ga2 68 (.tmp 4) (.tmp 42) ?gb2 (w.heap.size + 1 + 1) 8 _ _ _ ?gc2 ?gd2 HR.out O6.out.cells ?ge2 ?_); (case ga2 => rfl); (case gb2 => rfl); (case gc2 => rfl); (case gd2 => rfl); (case ge2 => kernel_rfl)))
        intro w7 hR7 hO7 hs7
        go_wp2
        refine bodyPost_ret (v := .tuple #[.agg #[.slice z0 (st.free p).fRows.length g0, .slice z1 (st.free p).fSpace.fRefs.length g1, .slice z2 (st.free p).fSpace.fLast.length g2, .int .i64 (st.free p).fTxg, .slice z4 (st.free p).fGone.length g4, .int .i64 (st.free p).fKeep, .slice z6 (st.free p).fDead.length g6, .bool (st.free p).fSame], .bool true]) (by simp [results, Try.results40, go_sem, hR7.cell 0, hR7.cell 1, hR7.cell 2, hR7.cell 3, hR7.cell 4, hR7.cell 5, hR7.cell 6, hR7.cell 7]) rfl ?_
        have hA7 : Below w.heap.size w6 w7 := (hO7.below (by omega)).mono (by omega)
        rw [freed_yes HM.out, HM.out]
        exact ⟨_, rfl, (O6.out.outside hO7 (.inr (by omega))).mono (by omega) (by omega), HB.out.trans hA7⟩
end Go.Proofs.Ytkgmilobmbeplaa
