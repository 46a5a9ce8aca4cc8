/- The reference's StoreFree. -/
import Derived.Test.YtkgmilobmbeplaaFreeR
import Derived.Deep.RegionWith
namespace Go.Proofs.Ytkgmilobmbeplaa
open Go.RowKit

set_option maxHeartbeats 4000000 in
set_option maxRecDepth 100000 in
theorem specStoreFree_any (v : Value) (st : StoreD) (p : PtrD) (B B1 : Nat) (w : World) (hf : st.Fit) (hi : -9223372036854775808 ≤ st.fTxg) (ho : StoreD.Own w B B1 v st) :
    Calls Try.prog 38 #[v, .agg #[.int .i64 p.fAt, .int .i64 p.fBirth, .int .i64 p.fSize, .int .i64 p.fSum, .int .i64 p.fLevel]] w fun e w' => ∃ v', e = .returned (.tuple #[v', .bool (st.mayFree p)]) ∧ StoreD.Own w' w.heap.size w'.heap.size v' (st.freed p) ∧ Below w.heap.size w w' := by
  have HO := Bx.mk ho
  obtain ⟨a0, c0, a1, c1, a2, c2, a4, c4, a6, c6, rfl, q0, q1, _⟩ := ho
  have HQ := Bx.mk q1
  clear q0 q1
  have HX := Bx.mk (((Box.new w [.slice a0 st.fRows.length c0, .slice a1 st.fSpace.fRefs.length c1, .slice a2 st.fSpace.fLast.length c2, .int .i64 st.fTxg, .slice a4 st.fGone.length c4, .int .i64 st.fKeep, .slice a6 st.fDead.length c6, .bool st.fSame] 68 rfl rfl).alloc (.cells #[.int .i64 p.fAt, .int .i64 p.fBirth, .int .i64 p.fSize, .int .i64 p.fSum, .int .i64 p.fLevel] 78)).alloc (.cells #[.slice none 0 0, .slice none 0 0, .slice none 0 0, .int .i64 0, .slice none 0 0, .int .i64 0, .slice none 0 0, .bool false] 68))
  have HP := Bx.mk ((Box.new (w.alloc (.cells #[.slice a0 st.fRows.length c0, .slice a1 st.fSpace.fRefs.length c1, .slice a2 st.fSpace.fLast.length c2, .int .i64 st.fTxg, .slice a4 st.fGone.length c4, .int .i64 st.fKeep, .slice a6 st.fDead.length c6, .bool st.fSame] 68)) [.int .i64 p.fAt, .int .i64 p.fBirth, .int .i64 p.fSize, .int .i64 p.fSum, .int .i64 p.fLevel] 78 rfl (b := w.heap.size + 1) (sz_alloc _ _).symm).alloc (.cells #[.slice none 0 0, .slice none 0 0, .slice none 0 0, .int .i64 0, .slice none 0 0, .int .i64 0, .slice none 0 0, .bool false] 68))
  have HR := Bx.mk (Box.new ((w.alloc (.cells #[.slice a0 st.fRows.length c0, .slice a1 st.fSpace.fRefs.length c1, .slice a2 st.fSpace.fLast.length c2, .int .i64 st.fTxg, .slice a4 st.fGone.length c4, .int .i64 st.fKeep, .slice a6 st.fDead.length c6, .bool st.fSame] 68)).alloc (.cells #[.int .i64 p.fAt, .int .i64 p.fBirth, .int .i64 p.fSize, .int .i64 p.fSum, .int .i64 p.fLevel] 78)) [.slice none 0 0, .slice none 0 0, .slice none 0 0, .int .i64 0, .slice none 0 0, .int .i64 0, .slice none 0 0, .bool false] 68 rfl (b := w.heap.size + 1 + 1) (by simp))
  have HB : Bx (Below w.heap.size w (((w.alloc (.cells #[.slice a0 st.fRows.length c0, .slice a1 st.fSpace.fRefs.length c1, .slice a2 st.fSpace.fLast.length c2, .int .i64 st.fTxg, .slice a4 st.fGone.length c4, .int .i64 st.fKeep, .slice a6 st.fDead.length c6, .bool st.fSame] 68)).alloc (.cells #[.int .i64 p.fAt, .int .i64 p.fBirth, .int .i64 p.fSize, .int .i64 p.fSum, .int .i64 p.fLevel] 78)).alloc (.cells #[.slice none 0 0, .slice none 0 0, .slice none 0 0, .int .i64 0, .slice none 0 0, .int .i64 0, .slice none 0 0, .bool false] 68))) := ⟨(((Below.refl _ _).alloc (Nat.le_refl _) _).alloc (by simp) _).alloc (by simp; omega) _⟩
  replace HO := Bx.mk (HO.out.below HB.out (Nat.le_refl _))
  replace HQ := Bx.mk (HQ.out.below HB.out (Nat.le_refl _))
  have HC := Bx.mk (specStoreOk_any _ st _ HO.out.rd hf hi)
  go_enter Try.func38, Try.ntmps38
  go_wp2_with fail
  refine HC.out.mono ?_
  rintro e w1 ⟨rfl, b⟩
  clear HC
  replace HX := Bx.mk (HX.out.below b (Nat.le_refl _))
  replace HP := Bx.mk (HP.out.below b (Nat.le_refl _))
  replace HR := Bx.mk (HR.out.below b (Nat.le_refl _))
  replace HO := Bx.mk (HO.out.below b (Nat.le_refl _))
  replace HQ := Bx.mk (HQ.out.below b (Nat.le_refl _))
  replace HB := Bx.mk (HB.out.trans (b.mono HB.out.size))
  clear b
  have hw1 : w.heap.size + 1 + 1 < w1.heap.size := HR.out.lt
  cases hok : st.ok
  ·
    have HM : Bx (st.mayFree p = false) := ⟨by simp [StoreD.mayFree, hok]⟩
    go_wp2_with (((with_reducible refine wpList_store_box (op := ⟨none, .store 68 (.tmp 4) (.tmp 36), _, _, _, none⟩) ?ga 68 (.tmp 4) (.tmp 36) ?gb (w.heap.size + 1 + 1) 8 _ _ _ ?gc ?gd HR.out cells_zero ?ge ?_); (case ga => rfl); (case gb => rfl); (case gc => rfl); (case gd => rfl); (case ge => kernel_rfl)))
    intro wz hRz hOz hsz
    go_wp2
    refine bodyPost_ret (v := .tuple #[.agg #[.slice none 0 0, .slice none 0 0, .slice none 0 0, .int .i64 0, .slice none 0 0, .int .i64 0, .slice none 0 0, .bool false], .bool false]) (by simp [results, Try.results38, go_sem, hRz.cell 0, hRz.cell 1, hRz.cell 2, hRz.cell 3, hRz.cell 4, hRz.cell 5, hRz.cell 6, hRz.cell 7]) rfl ?_
    rw [freed_no HM.out, HM.out]
    exact ⟨_, rfl, own_zero _ _ _, HB.out.trans ((hOz.below (by omega)).mono (by omega))⟩
  · cases hpo : p.ok
    ·
      go_wp2_with (((with_reducible refine wpList_load_boxg (op := ⟨some 10, .load 78 (.tmp 3), _, _, _, some _⟩) 78 (.tmp 3) ?ja ?jb (w.heap.size + 1) 5 _ _ ?jc HP.out _ Try.underlying78 ?jd ?je ?_); (case ja => rfl); (case jb => rfl); (case jc => rfl); (case jd => rfl); (case je => kernel_rfl)))
      refine (specPtrOk_any p w1).mono ?_
      rintro e w2 ⟨rfl, b⟩
      have hw2 : w.heap.size + 1 + 1 < w2.heap.size := Nat.lt_of_lt_of_le hw1 b.size
      replace HX := Bx.mk (HX.out.below b (Nat.le_refl _))
      replace HP := Bx.mk (HP.out.below b (Nat.le_refl _))
      replace HR := Bx.mk (HR.out.below b (Nat.le_refl _))
      replace HO := Bx.mk (HO.out.below b (Nat.le_refl _))
      replace HQ := Bx.mk (HQ.out.below b (Nat.le_refl _))
      replace HB := Bx.mk (HB.out.trans (b.mono HB.out.size))
      clear b
      have HM : Bx (st.mayFree p = false) := ⟨by simp [StoreD.mayFree, hpo]⟩
      go_wp2_with (((with_reducible refine wpList_store_box (op := ⟨none, .store 68 (.tmp 4) (.tmp 36), _, _, _, none⟩) ?ga 68 (.tmp 4) (.tmp 36) ?gb (w.heap.size + 1 + 1) 8 _ _ _ ?gc ?gd HR.out cells_zero ?ge ?_); (case ga => rfl); (case gb => rfl); (case gc => rfl); (case gd => rfl); (case ge => kernel_rfl)))
      intro wz hRz hOz hsz
      go_wp2
      refine bodyPost_ret (v := .tuple #[.agg #[.slice none 0 0, .slice none 0 0, .slice none 0 0, .int .i64 0, .slice none 0 0, .int .i64 0, .slice none 0 0, .bool false], .bool false]) (by simp [results, Try.results38, go_sem, hRz.cell 0, hRz.cell 1, hRz.cell 2, hRz.cell 3, hRz.cell 4, hRz.cell 5, hRz.cell 6, hRz.cell 7]) rfl ?_
      rw [freed_no HM.out, HM.out]
      exact ⟨_, rfl, own_zero _ _ _, HB.out.trans ((hOz.below (by omega)).mono (by omega))⟩
    · have HOK := Bx.mk (StoreD.ok_spec hok)
      have HSP := Bx.mk (SpaceD.ok_spec HOK.out.space)
      have HK := Bx.mk (And.intro hok hpo)
      clear hok
      go_wp2_with (((with_reducible refine wpList_load_boxg (op := ⟨some 10, .load 78 (.tmp 3), _, _, _, some _⟩) 78 (.tmp 3) ?ja ?jb (w.heap.size + 1) 5 _ _ ?jc HP.out _ Try.underlying78 ?jd ?je ?_); (case ja => rfl); (case jb => rfl); (case jc => rfl); (case jd => rfl); (case je => kernel_rfl)))
      have HCP := specPtrOk_any p w1
      rw [hpo] at HCP
      clear hpo
      refine HCP.mono ?_
      rintro e w2 ⟨rfl, b⟩
      have hw2 : w.heap.size + 1 + 1 < w2.heap.size := Nat.lt_of_lt_of_le hw1 b.size
      clear HCP
      replace HX := Bx.mk (HX.out.below b (Nat.le_refl _))
      replace HP := Bx.mk (HP.out.below b (Nat.le_refl _))
      replace HR := Bx.mk (HR.out.below b (Nat.le_refl _))
      replace HO := Bx.mk (HO.out.below b (Nat.le_refl _))
      replace HQ := Bx.mk (HQ.out.below b (Nat.le_refl _))
      replace HB := Bx.mk (HB.out.trans (b.mono HB.out.size))
      clear b
      cases hh : p.hole
      · have PIN := Bx.mk (ok_at HK.out.2 hh)
        by_cases hb : p.fBirth ≤ st.fTxg
        · have HH := Bx.mk hh
          have HH2 := Bx.mk hb
          have y1 : w2.cell? ⟨w.heap.size + 1, 1, none⟩ = some (.int .i64 p.fBirth) := HP.out.cell 1
          have x3 : w2.cell? ⟨w.heap.size, 3, none⟩ = some (.int .i64 st.fTxg) := HX.out.cell 3
          have hd : decide (st.fTxg < p.fBirth) = false := by simp; omega
          clear hh
          go_wp2_with (((with_reducible refine wpList_load_boxg (op := ⟨some 22, .load 78 (.tmp 3), _, _, _, some _⟩) 78 (.tmp 3) ?ja ?jb (w.heap.size + 1) 5 _ _ ?jc HP.out _ Try.underlying78 ?jd ?je ?_); (case ja => rfl); (case jb => rfl); (case jc => rfl); (case jd => rfl); (case je => kernel_rfl)))
          have HCH := specHole_any p w2
          rw [HH.out] at HCH
          refine HCH.mono ?_
          rintro e w3 ⟨rfl, b⟩
          have hw3 : w.heap.size + 1 + 1 < w3.heap.size := Nat.lt_of_lt_of_le hw2 b.size
          clear HCH y1 x3 hd
          replace HX := Bx.mk (HX.out.below b (Nat.le_refl _))
          replace HP := Bx.mk (HP.out.below b (Nat.le_refl _))
          replace HR := Bx.mk (HR.out.below b (Nat.le_refl _))
          replace HO := Bx.mk (HO.out.below b (Nat.le_refl _))
          replace HQ := Bx.mk (HQ.out.below b (Nat.le_refl _))
          replace HB := Bx.mk (HB.out.trans (b.mono HB.out.size))
          clear b
          obtain ⟨g1, eg, _, _, _, _, _⟩ := HQ.out.open1 (by rw [HSP.out.refs]; omega)
          obtain ⟨a, ha⟩ : ∃ a : Nat, p.fAt = (a : Int) := ⟨p.fAt.toNat, by have := PIN.out; omega⟩
          have ha64 : a < 64 := by have := PIN.out; omega
          have hra : Bx (p.fAt.toNat = a) := ⟨by omega⟩
          have hal : a < st.fSpace.fRefs.length := by rw [HSP.out.refs]; exact ha64
          have hq := HQ.out
          rw [eg] at hq
          have k1 := hq.cellI (a := a) (x := st.fSpace.fRefs.getD a 0) (by simp [List.getD, hal])
          have y0 : w3.cell? ⟨w.heap.size + 1, 0, none⟩ = some (.int .i64 (a : Int)) := by rw [← ha]; exact HP.out.cell 0
          have x1 : w3.cell? ⟨w.heap.size, 1, none⟩ = some (.slice (some ⟨g1, 0, none⟩) st.fSpace.fRefs.length c1) := by rw [← eg]; exact HX.out.cell 1
          have hlen : st.fSpace.fRefs.length ≤ 1048576 := hf.f1
          have HA := Bx.mk ha
          have EG := Bx.mk eg
          obtain ⟨r, hr⟩ : ∃ r, st.fSpace.fRefs.getD a 0 = r := ⟨_, rfl⟩
          rw [hr] at k1
          have HRr : Bx (st.fSpace.fRefs.getD p.fAt.toNat 0 = r) := ⟨by rw [hra.out]; exact hr⟩
          have HRb : Bx (0 ≤ r ∧ r ≤ 900) := ⟨by have := HSP.out.each a ha64; omega⟩
          clear hq ha eg hr
          by_cases hz : r = 0
          · have hz2 : (r == 0) = true := by simp [hz]
            have HZ := Bx.mk hz2
            clear hz
            have HM : Bx (st.mayFree p = false) := ⟨by unfold StoreD.mayFree; rw [HRr.out, HZ.out, HH.out]; simp⟩
            go_wp2_with (((with_reducible refine wpList_store_box (op := ⟨none, .store 68 (.tmp 4) (.tmp 36), _, _, _, none⟩) ?ga 68 (.tmp 4) (.tmp 36) ?gb (w.heap.size + 1 + 1) 8 _ _ _ ?gc ?gd HR.out cells_zero ?ge ?_); (case ga => rfl); (case gb => rfl); (case gc => rfl); (case gd => rfl); (case ge => kernel_rfl)))
            intro wz hRz hOz hsz
            go_wp2
            refine bodyPost_ret (v := .tuple #[.agg #[.slice none 0 0, .slice none 0 0, .slice none 0 0, .int .i64 0, .slice none 0 0, .int .i64 0, .slice none 0 0, .bool false], .bool false]) (by simp [results, Try.results38, go_sem, hRz.cell 0, hRz.cell 1, hRz.cell 2, hRz.cell 3, hRz.cell 4, hRz.cell 5, hRz.cell 6, hRz.cell 7]) rfl ?_
            rw [freed_no HM.out, HM.out]
            exact ⟨_, rfl, own_zero _ _ _, HB.out.trans ((hOz.below (by omega)).mono (by omega))⟩
          · have hz2 : (r == 0) = false := by simp [hz]
            have MF : Bx ((p.hole || (decide (p.fBirth ≤ st.fTxg) && !(st.fSpace.fRefs.getD p.fAt.toNat 0 == 0))) = true) := ⟨by rw [HRr.out, hz2]; simp [HH2.out]⟩
            have HPF0 : Bx (p.hole = false → (8 ≤ p.fAt ∧ p.fAt ≤ 63) ∧ 1 ≤ st.fSpace.fRefs.getD p.fAt.toNat 0 ∧ st.fSpace.fRefs.getD p.fAt.toNat 0 ≤ 1000000) := ⟨fun _ => by rw [HRr.out]; have h1 := HRb.out; have h2 := PIN.out; omega⟩
            clear hz
            have HM : Bx (st.mayFree p = true) := ⟨by unfold StoreD.mayFree; rw [HK.out.1, HK.out.2, MF.out]; rfl⟩
            have HPF : p.hole = false → (8 ≤ p.fAt ∧ p.fAt ≤ 63) ∧ 1 ≤ st.fSpace.fRefs.getD p.fAt.toNat 0 ∧ st.fSpace.fRefs.getD p.fAt.toNat 0 ≤ 1000000 := HPF0.out
            have HPFb := Bx.mk HPF
            clear HPF
            go_wp2_with fail
            clear x1 y0 k1 hz2
            have cx0 : w3.cell? ⟨w.heap.size, 0, none⟩ = some (.slice a0 st.fRows.length c0) := HX.out.cell 0
            have cx1 : w3.cell? ⟨w.heap.size, 1, none⟩ = some (.slice a1 st.fSpace.fRefs.length c1) := HX.out.cell 1
            have cx2 : w3.cell? ⟨w.heap.size, 2, none⟩ = some (.slice a2 st.fSpace.fLast.length c2) := HX.out.cell 2
            have cx3 : w3.cell? ⟨w.heap.size, 3, none⟩ = some (.int .i64 st.fTxg) := HX.out.cell 3
            have cx4 : w3.cell? ⟨w.heap.size, 4, none⟩ = some (.slice a4 st.fGone.length c4) := HX.out.cell 4
            have cx5 : w3.cell? ⟨w.heap.size, 5, none⟩ = some (.int .i64 st.fKeep) := HX.out.cell 5
            have cx6 : w3.cell? ⟨w.heap.size, 6, none⟩ = some (.slice a6 st.fDead.length c6) := HX.out.cell 6
            have cx7 : w3.cell? ⟨w.heap.size, 7, none⟩ = some (.bool st.fSame) := HX.out.cell 7
            have cy0 : w3.cell? ⟨w.heap.size + 1, 0, none⟩ = some (.int .i64 p.fAt) := HP.out.cell 0
            have cy1 : w3.cell? ⟨w.heap.size + 1, 1, none⟩ = some (.int .i64 p.fBirth) := HP.out.cell 1
            have cy2 : w3.cell? ⟨w.heap.size + 1, 2, none⟩ = some (.int .i64 p.fSize) := HP.out.cell 2
            have cy3 : w3.cell? ⟨w.heap.size + 1, 3, none⟩ = some (.int .i64 p.fSum) := HP.out.cell 3
            have cy4 : w3.cell? ⟨w.heap.size + 1, 4, none⟩ = some (.int .i64 p.fLevel) := HP.out.cell 4
            have hdr : Below w3.heap.size w3 w3.drew := (Below.refl _ _).drew
            have HOd := Bx.mk (HO.out.below hdr (Nat.le_refl _))
            have HBd := Bx.mk (HB.out.trans (hdr.mono HB.out.size))
            have hpl := HP.out.lt
            go_region_with (first | (go_at_call 71; refine (l7Copy_any _ st _ hf HOd.out).mono ?_; rintro e w4 ⟨v4, rfl, o4, b⟩; have dy0 := (b.cell (p := ⟨w.heap.size + 1, 0, none⟩) hpl).trans cy0; have dy1 := (b.cell (p := ⟨w.heap.size + 1, 1, none⟩) hpl).trans cy1; have dy2 := (b.cell (p := ⟨w.heap.size + 1, 2, none⟩) hpl).trans cy2; have dy3 := (b.cell (p := ⟨w.heap.size + 1, 3, none⟩) hpl).trans cy3; have dy4 := (b.cell (p := ⟨w.heap.size + 1, 4, none⟩) hpl).trans cy4; have O4 := Bx.mk o4; have B4 := Bx.mk (hdr.trans b); have hs4 : w3.heap.size ≤ w4.heap.size := b.size; have KR4 := Bx.mk (HR.out.below B4.out (Nat.le_refl _)); clear o4 b) | (go_at_call 89; refine (l7Free_any v4 st p w3.heap.size w4.heap.size w4 hf O4.out hs4 (Nat.le_refl _) HOK.out.rows HSP.out.refs HSP.out.last HPFb.out).mono ?_; rintro e w5 ⟨_, rfl, o5, hO5⟩; have O5 := Bx.mk o5; obtain ⟨z0, f0, z1, f1, z2, f2, z4, f4, z6, f6, rfl, _⟩ := o5; have HO5 := Bx.mk hO5; have KR5 := Bx.mk (KR4.out.outside hO5 (.inl (by omega))); have cr0 := KR5.out.cell 0; have fr0 := KR5.out.frozen 0; have cr1 := KR5.out.cell 1; have fr1 := KR5.out.frozen 1; have cr2 := KR5.out.cell 2; have fr2 := KR5.out.frozen 2; have cr3 := KR5.out.cell 3; have fr3 := KR5.out.frozen 3; have cr4 := KR5.out.cell 4; have fr4 := KR5.out.frozen 4; have cr5 := KR5.out.cell 5; have fr5 := KR5.out.frozen 5; have cr6 := KR5.out.cell 6; have fr6 := KR5.out.frozen 6; have cr7 := KR5.out.cell 7; have fr7 := KR5.out.frozen 7; clear hO5))
            all_goals
              clear cx0 cx1 cx2 cx3 cx4 cx5 cx6 cx7 cy0 dy0 cy1 dy1 cy2 dy2 cy3 dy3 cy4 dy4 KR4 hpl
              go_wp2
              refine bodyPost_ret (v := .tuple #[.agg #[.slice z0 (st.free p).fRows.length f0, .slice z1 (st.free p).fSpace.fRefs.length f1, .slice z2 (st.free p).fSpace.fLast.length f2, .int .i64 (st.free p).fTxg, .slice z4 (st.free p).fGone.length f4, .int .i64 (st.free p).fKeep, .slice z6 (st.free p).fDead.length f6, .bool (st.free p).fSame], .bool true]) (by simp [results, Try.results38, go_sem, cr0, cr1, cr2, cr3, cr4, cr5, cr6, cr7]) rfl ?_
              have hO6 : Outside (w.heap.size + 1 + 1) (w.heap.size + 1 + 1 + 1) w5 ((((((((w5.setCell ⟨w.heap.size + 1 + 1, 0, none⟩ (.slice z0 (st.free p).fRows.length f0)).setCell ⟨w.heap.size + 1 + 1, 1, none⟩ (.slice z1 (st.free p).fSpace.fRefs.length f1)).setCell ⟨w.heap.size + 1 + 1, 2, none⟩ (.slice z2 (st.free p).fSpace.fLast.length f2)).setCell ⟨w.heap.size + 1 + 1, 3, none⟩ (.int .i64 (st.free p).fTxg)).setCell ⟨w.heap.size + 1 + 1, 4, none⟩ (.slice z4 (st.free p).fGone.length f4)).setCell ⟨w.heap.size + 1 + 1, 5, none⟩ (.int .i64 (st.free p).fKeep)).setCell ⟨w.heap.size + 1 + 1, 6, none⟩ (.slice z6 (st.free p).fDead.length f6)).setCell ⟨w.heap.size + 1 + 1, 7, none⟩ (.bool (st.free p).fSame)) := by
                repeat refine Outside.set ?_ (by simp) _
                exact Outside.refl _ _ _
              have hs6 : w5.heap.size ≤ ((((((((w5.setCell ⟨w.heap.size + 1 + 1, 0, none⟩ (.slice z0 (st.free p).fRows.length f0)).setCell ⟨w.heap.size + 1 + 1, 1, none⟩ (.slice z1 (st.free p).fSpace.fRefs.length f1)).setCell ⟨w.heap.size + 1 + 1, 2, none⟩ (.slice z2 (st.free p).fSpace.fLast.length f2)).setCell ⟨w.heap.size + 1 + 1, 3, none⟩ (.int .i64 (st.free p).fTxg)).setCell ⟨w.heap.size + 1 + 1, 4, none⟩ (.slice z4 (st.free p).fGone.length f4)).setCell ⟨w.heap.size + 1 + 1, 5, none⟩ (.int .i64 (st.free p).fKeep)).setCell ⟨w.heap.size + 1 + 1, 6, none⟩ (.slice z6 (st.free p).fDead.length f6)).setCell ⟨w.heap.size + 1 + 1, 7, none⟩ (.bool (st.free p).fSame)).heap.size := hO6.size
              have hs5 := HO5.out.size
              have hA4 : Below w.heap.size w w4 := HB.out.trans (B4.out.mono HB.out.size)
              have hA5 : Below w.heap.size w4 w5 := (HO5.out.below hs4).mono (by omega)
              have hA6 : Below w.heap.size w5 ((((((((w5.setCell ⟨w.heap.size + 1 + 1, 0, none⟩ (.slice z0 (st.free p).fRows.length f0)).setCell ⟨w.heap.size + 1 + 1, 1, none⟩ (.slice z1 (st.free p).fSpace.fRefs.length f1)).setCell ⟨w.heap.size + 1 + 1, 2, none⟩ (.slice z2 (st.free p).fSpace.fLast.length f2)).setCell ⟨w.heap.size + 1 + 1, 3, none⟩ (.int .i64 (st.free p).fTxg)).setCell ⟨w.heap.size + 1 + 1, 4, none⟩ (.slice z4 (st.free p).fGone.length f4)).setCell ⟨w.heap.size + 1 + 1, 5, none⟩ (.int .i64 (st.free p).fKeep)).setCell ⟨w.heap.size + 1 + 1, 6, none⟩ (.slice z6 (st.free p).fDead.length f6)).setCell ⟨w.heap.size + 1 + 1, 7, none⟩ (.bool (st.free p).fSame)) := (hO6.below (by omega)).mono (by omega)
              rw [freed_yes HM.out, HM.out]
              exact ⟨_, rfl, (O5.out.outside hO6 (.inr (by omega))).mono (by omega) hs6, (hA4.trans hA5).trans hA6⟩
        · have hb2 : st.fTxg < p.fBirth := by omega
          have hd : decide (st.fTxg < p.fBirth) = true := by simp; omega
          have y1 : w2.cell? ⟨w.heap.size + 1, 1, none⟩ = some (.int .i64 p.fBirth) := HP.out.cell 1
          have x3 : w2.cell? ⟨w.heap.size, 3, none⟩ = some (.int .i64 st.fTxg) := HX.out.cell 3
          have HM : Bx (st.mayFree p = false) := ⟨by have h1 : p.hole = false := hh; simp [StoreD.mayFree, h1]; intro _ _; omega⟩
          go_wp2_with (((with_reducible refine wpList_store_box (op := ⟨none, .store 68 (.tmp 4) (.tmp 36), _, _, _, none⟩) ?ga 68 (.tmp 4) (.tmp 36) ?gb (w.heap.size + 1 + 1) 8 _ _ _ ?gc ?gd HR.out cells_zero ?ge ?_); (case ga => rfl); (case gb => rfl); (case gc => rfl); (case gd => rfl); (case ge => kernel_rfl)))
          intro wz hRz hOz hsz
          go_wp2
          refine bodyPost_ret (v := .tuple #[.agg #[.slice none 0 0, .slice none 0 0, .slice none 0 0, .int .i64 0, .slice none 0 0, .int .i64 0, .slice none 0 0, .bool false], .bool false]) (by simp [results, Try.results38, go_sem, hRz.cell 0, hRz.cell 1, hRz.cell 2, hRz.cell 3, hRz.cell 4, hRz.cell 5, hRz.cell 6, hRz.cell 7]) rfl ?_
          rw [freed_no HM.out, HM.out]
          exact ⟨_, rfl, own_zero _ _ _, HB.out.trans ((hOz.below (by omega)).mono (by omega))⟩
      · have hb1 : p.fBirth = 0 := hole_birth hh
        have ht1 : 1 ≤ st.fTxg := HOK.out.txg.1
        have hb2 : p.fBirth ≤ st.fTxg := by omega
        have HH := Bx.mk hh
        have y1 : w2.cell? ⟨w.heap.size + 1, 1, none⟩ = some (.int .i64 p.fBirth) := HP.out.cell 1
        have x3 : w2.cell? ⟨w.heap.size, 3, none⟩ = some (.int .i64 st.fTxg) := HX.out.cell 3
        have hd : decide (st.fTxg < p.fBirth) = false := by simp; omega
        clear hb1 hh
        go_wp2_with (((with_reducible refine wpList_load_boxg (op := ⟨some 22, .load 78 (.tmp 3), _, _, _, some _⟩) 78 (.tmp 3) ?ja ?jb (w.heap.size + 1) 5 _ _ ?jc HP.out _ Try.underlying78 ?jd ?je ?_); (case ja => rfl); (case jb => rfl); (case jc => rfl); (case jd => rfl); (case je => kernel_rfl)))
        have HCH := specHole_any p w2
        rw [HH.out] at HCH
        refine HCH.mono ?_
        rintro e w3 ⟨rfl, b⟩
        have hw3 : w.heap.size + 1 + 1 < w3.heap.size := Nat.lt_of_lt_of_le hw2 b.size
        clear HCH y1 x3 hd
        replace HX := Bx.mk (HX.out.below b (Nat.le_refl _))
        replace HP := Bx.mk (HP.out.below b (Nat.le_refl _))
        replace HR := Bx.mk (HR.out.below b (Nat.le_refl _))
        replace HO := Bx.mk (HO.out.below b (Nat.le_refl _))
        replace HQ := Bx.mk (HQ.out.below b (Nat.le_refl _))
        replace HB := Bx.mk (HB.out.trans (b.mono HB.out.size))
        clear b
        have MF : Bx ((p.hole || (decide (p.fBirth ≤ st.fTxg) && !(st.fSpace.fRefs.getD p.fAt.toNat 0 == 0))) = true) := ⟨by simp [HH.out]⟩
        have HPF0 : Bx (p.hole = false → (8 ≤ p.fAt ∧ p.fAt ≤ 63) ∧ 1 ≤ st.fSpace.fRefs.getD p.fAt.toNat 0 ∧ st.fSpace.fRefs.getD p.fAt.toNat 0 ≤ 1000000) := ⟨fun h => by rw [HH.out] at h; cases h⟩
        have HM : Bx (st.mayFree p = true) := ⟨by unfold StoreD.mayFree; rw [HK.out.1, HK.out.2, MF.out]; rfl⟩
        have HPF : p.hole = false → (8 ≤ p.fAt ∧ p.fAt ≤ 63) ∧ 1 ≤ st.fSpace.fRefs.getD p.fAt.toNat 0 ∧ st.fSpace.fRefs.getD p.fAt.toNat 0 ≤ 1000000 := HPF0.out
        have HPFb := Bx.mk HPF
        clear HPF
        go_wp2_with fail
        have cx0 : w3.cell? ⟨w.heap.size, 0, none⟩ = some (.slice a0 st.fRows.length c0) := HX.out.cell 0
        have cx1 : w3.cell? ⟨w.heap.size, 1, none⟩ = some (.slice a1 st.fSpace.fRefs.length c1) := HX.out.cell 1
        have cx2 : w3.cell? ⟨w.heap.size, 2, none⟩ = some (.slice a2 st.fSpace.fLast.length c2) := HX.out.cell 2
        have cx3 : w3.cell? ⟨w.heap.size, 3, none⟩ = some (.int .i64 st.fTxg) := HX.out.cell 3
        have cx4 : w3.cell? ⟨w.heap.size, 4, none⟩ = some (.slice a4 st.fGone.length c4) := HX.out.cell 4
        have cx5 : w3.cell? ⟨w.heap.size, 5, none⟩ = some (.int .i64 st.fKeep) := HX.out.cell 5
        have cx6 : w3.cell? ⟨w.heap.size, 6, none⟩ = some (.slice a6 st.fDead.length c6) := HX.out.cell 6
        have cx7 : w3.cell? ⟨w.heap.size, 7, none⟩ = some (.bool st.fSame) := HX.out.cell 7
        have cy0 : w3.cell? ⟨w.heap.size + 1, 0, none⟩ = some (.int .i64 p.fAt) := HP.out.cell 0
        have cy1 : w3.cell? ⟨w.heap.size + 1, 1, none⟩ = some (.int .i64 p.fBirth) := HP.out.cell 1
        have cy2 : w3.cell? ⟨w.heap.size + 1, 2, none⟩ = some (.int .i64 p.fSize) := HP.out.cell 2
        have cy3 : w3.cell? ⟨w.heap.size + 1, 3, none⟩ = some (.int .i64 p.fSum) := HP.out.cell 3
        have cy4 : w3.cell? ⟨w.heap.size + 1, 4, none⟩ = some (.int .i64 p.fLevel) := HP.out.cell 4
        have hdr : Below w3.heap.size w3 w3.drew := (Below.refl _ _).drew
        have HOd := Bx.mk (HO.out.below hdr (Nat.le_refl _))
        have HBd := Bx.mk (HB.out.trans (hdr.mono HB.out.size))
        have hpl := HP.out.lt
        go_region_with (first | (go_at_call 71; refine (l7Copy_any _ st _ hf HOd.out).mono ?_; rintro e w4 ⟨v4, rfl, o4, b⟩; have dy0 := (b.cell (p := ⟨w.heap.size + 1, 0, none⟩) hpl).trans cy0; have dy1 := (b.cell (p := ⟨w.heap.size + 1, 1, none⟩) hpl).trans cy1; have dy2 := (b.cell (p := ⟨w.heap.size + 1, 2, none⟩) hpl).trans cy2; have dy3 := (b.cell (p := ⟨w.heap.size + 1, 3, none⟩) hpl).trans cy3; have dy4 := (b.cell (p := ⟨w.heap.size + 1, 4, none⟩) hpl).trans cy4; have O4 := Bx.mk o4; have B4 := Bx.mk (hdr.trans b); have hs4 : w3.heap.size ≤ w4.heap.size := b.size; have KR4 := Bx.mk (HR.out.below B4.out (Nat.le_refl _)); clear o4 b) | (go_at_call 89; refine (l7Free_any v4 st p w3.heap.size w4.heap.size w4 hf O4.out hs4 (Nat.le_refl _) HOK.out.rows HSP.out.refs HSP.out.last HPFb.out).mono ?_; rintro e w5 ⟨_, rfl, o5, hO5⟩; have O5 := Bx.mk o5; obtain ⟨z0, f0, z1, f1, z2, f2, z4, f4, z6, f6, rfl, _⟩ := o5; have HO5 := Bx.mk hO5; have KR5 := Bx.mk (KR4.out.outside hO5 (.inl (by omega))); have cr0 := KR5.out.cell 0; have fr0 := KR5.out.frozen 0; have cr1 := KR5.out.cell 1; have fr1 := KR5.out.frozen 1; have cr2 := KR5.out.cell 2; have fr2 := KR5.out.frozen 2; have cr3 := KR5.out.cell 3; have fr3 := KR5.out.frozen 3; have cr4 := KR5.out.cell 4; have fr4 := KR5.out.frozen 4; have cr5 := KR5.out.cell 5; have fr5 := KR5.out.frozen 5; have cr6 := KR5.out.cell 6; have fr6 := KR5.out.frozen 6; have cr7 := KR5.out.cell 7; have fr7 := KR5.out.frozen 7; clear hO5))
        all_goals
          clear cx0 cx1 cx2 cx3 cx4 cx5 cx6 cx7 cy0 dy0 cy1 dy1 cy2 dy2 cy3 dy3 cy4 dy4 KR4 hpl
          go_wp2
          refine bodyPost_ret (v := .tuple #[.agg #[.slice z0 (st.free p).fRows.length f0, .slice z1 (st.free p).fSpace.fRefs.length f1, .slice z2 (st.free p).fSpace.fLast.length f2, .int .i64 (st.free p).fTxg, .slice z4 (st.free p).fGone.length f4, .int .i64 (st.free p).fKeep, .slice z6 (st.free p).fDead.length f6, .bool (st.free p).fSame], .bool true]) (by simp [results, Try.results38, go_sem, cr0, cr1, cr2, cr3, cr4, cr5, cr6, cr7]) rfl ?_
          have hO6 : Outside (w.heap.size + 1 + 1) (w.heap.size + 1 + 1 + 1) w5 ((((((((w5.setCell ⟨w.heap.size + 1 + 1, 0, none⟩ (.slice z0 (st.free p).fRows.length f0)).setCell ⟨w.heap.size + 1 + 1, 1, none⟩ (.slice z1 (st.free p).fSpace.fRefs.length f1)).setCell ⟨w.heap.size + 1 + 1, 2, none⟩ (.slice z2 (st.free p).fSpace.fLast.length f2)).setCell ⟨w.heap.size + 1 + 1, 3, none⟩ (.int .i64 (st.free p).fTxg)).setCell ⟨w.heap.size + 1 + 1, 4, none⟩ (.slice z4 (st.free p).fGone.length f4)).setCell ⟨w.heap.size + 1 + 1, 5, none⟩ (.int .i64 (st.free p).fKeep)).setCell ⟨w.heap.size + 1 + 1, 6, none⟩ (.slice z6 (st.free p).fDead.length f6)).setCell ⟨w.heap.size + 1 + 1, 7, none⟩ (.bool (st.free p).fSame)) := by
            repeat refine Outside.set ?_ (by simp) _
            exact Outside.refl _ _ _
          have hs6 : w5.heap.size ≤ ((((((((w5.setCell ⟨w.heap.size + 1 + 1, 0, none⟩ (.slice z0 (st.free p).fRows.length f0)).setCell ⟨w.heap.size + 1 + 1, 1, none⟩ (.slice z1 (st.free p).fSpace.fRefs.length f1)).setCell ⟨w.heap.size + 1 + 1, 2, none⟩ (.slice z2 (st.free p).fSpace.fLast.length f2)).setCell ⟨w.heap.size + 1 + 1, 3, none⟩ (.int .i64 (st.free p).fTxg)).setCell ⟨w.heap.size + 1 + 1, 4, none⟩ (.slice z4 (st.free p).fGone.length f4)).setCell ⟨w.heap.size + 1 + 1, 5, none⟩ (.int .i64 (st.free p).fKeep)).setCell ⟨w.heap.size + 1 + 1, 6, none⟩ (.slice z6 (st.free p).fDead.length f6)).setCell ⟨w.heap.size + 1 + 1, 7, none⟩ (.bool (st.free p).fSame)).heap.size := hO6.size
          have hs5 := HO5.out.size
          have hA4 : Below w.heap.size w w4 := HB.out.trans (B4.out.mono HB.out.size)
          have hA5 : Below w.heap.size w4 w5 := (HO5.out.below hs4).mono (by omega)
          have hA6 : Below w.heap.size w5 ((((((((w5.setCell ⟨w.heap.size + 1 + 1, 0, none⟩ (.slice z0 (st.free p).fRows.length f0)).setCell ⟨w.heap.size + 1 + 1, 1, none⟩ (.slice z1 (st.free p).fSpace.fRefs.length f1)).setCell ⟨w.heap.size + 1 + 1, 2, none⟩ (.slice z2 (st.free p).fSpace.fLast.length f2)).setCell ⟨w.heap.size + 1 + 1, 3, none⟩ (.int .i64 (st.free p).fTxg)).setCell ⟨w.heap.size + 1 + 1, 4, none⟩ (.slice z4 (st.free p).fGone.length f4)).setCell ⟨w.heap.size + 1 + 1, 5, none⟩ (.int .i64 (st.free p).fKeep)).setCell ⟨w.heap.size + 1 + 1, 6, none⟩ (.slice z6 (st.free p).fDead.length f6)).setCell ⟨w.heap.size + 1 + 1, 7, none⟩ (.bool (st.free p).fSame)) := (hO6.below (by omega)).mono (by omega)
          rw [freed_yes HM.out, HM.out]
          exact ⟨_, rfl, (O5.out.outside hO6 (.inr (by omega))).mono (by omega) hs6, (hA4.trans hA5).trans hA6⟩
end Go.Proofs.Ytkgmilobmbeplaa
