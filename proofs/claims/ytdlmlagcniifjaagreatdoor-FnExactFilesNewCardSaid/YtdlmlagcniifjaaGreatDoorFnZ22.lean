/- A part of the proof in YtdlmlagcniifjaaGreatDoorFnZ32. -/
import Derived.Deep.DeepCutAuto
import Derived.Test.YtdlmlagcniifjaaGreatDoorFnZ21
namespace Go.Proofs.YtdlmlagcniifjaaGreatDoor
set_option linter.unusedVariables false
set_option linter.unusedSimpArgs false
set_option maxHeartbeats 1000000
set_option maxRecDepth 100000
open Go.RowKit
theorem str_empty (s : ByteArray) (c : Bool) (h : (s.size == 0) = c) : s.toList.isEmpty = c := by
  rw [← h, ByteArray.toList_eq, Bool.eq_iff_iff, List.isEmpty_iff, beq_iff_eq]
  show _ ↔ s.data.size = 0
  rw [← Array.length_toList, List.length_eq_zero_iff]
set_option maxHeartbeats 2000000 in
theorem specStoreOk_no (v : Value) (st : StoreD) (w : World) (hr : StoreD.Reads w v st) (hf : st.Fit)
    (_hi : -9223372036854775808 ≤ st.fTxg) (hbad : (st.fRows.length == 64 && (st.fSpace.ok && (inB st.fTxg 1 900 && inB st.fKeep 0 (st.fTxg - 1)))) = false) :
    Calls Tryz.prog 20 #[v] w fun e w' => e = .returned (.bool false) ∧ Below w.heap.size w w' := by
  obtain ⟨a0, c0, a1, c1, a2, c2, a4, c4, a6, c6, rfl, r0, r1, r2, r4, r6⟩ := hr
  have hl0 := hf.f0
  have hb0 : Below w.heap.size w (w.alloc (.cells #[.slice a0 st.fRows.length c0, .slice a1 st.fSpace.fRefs.length c1, .slice a2 st.fSpace.fLast.length c2, .int .i64 st.fTxg, .slice a4 st.fGone.length c4, .int .i64 st.fKeep, .slice a6 st.fDead.length c6, .bool st.fSame] 33)) := (Below.refl _ _).alloc (Nat.le_refl _) _
  have hA0 := blk_new w (.cells #[.slice a0 st.fRows.length c0, .slice a1 st.fSpace.fRefs.length c1, .slice a2 st.fSpace.fLast.length c2, .int .i64 st.fTxg, .slice a4 st.fGone.length c4, .int .i64 st.fKeep, .slice a6 st.fDead.length c6, .bool st.fSame] 33) _ rfl
  by_cases h0 : st.fRows.length = 64
  rotate_left
  · go_enter Tryz.func20, Tryz.ntmps20
    go_wp2
    go_ret
    exact ⟨rfl, hb0⟩
  have hl : ((st.fRows.length : Int) != 64) = false := by simp [h0]
  have HS := Lib.hid (specSpaceOk_any (.agg #[.slice a1 st.fSpace.fRefs.length c1, .slice a2 st.fSpace.fLast.length c2]) st.fSpace _ ⟨_, _, _, _, rfl, r1.below hb0, r2.below hb0⟩ ⟨hf.f1, hf.f2⟩)
  have H0 := Lib.hid h0
  have HB := Lib.hid hbad
  clear h0 hbad
  cases h1 : st.fSpace.ok
  · go_enter Tryz.func20, Tryz.ntmps20
    go_wp2_with fail
    refine HS.out.mono ?_
    rintro e w1 ⟨rfl, b1⟩
    rw [h1]
    go_wp2
    go_ret
    exact ⟨rfl, hb0.trans (b1.mono hb0.size)⟩
  · cases h2 : inB st.fTxg 1 900
    · go_enter Tryz.func20, Tryz.ntmps20
      go_wp2_with fail
      refine HS.out.mono ?_
      rintro e w1 ⟨rfl, b1⟩
      have hA1 := blk_below hA0 b1 (Nat.le_refl _)
      have p3 : w1.cell? ⟨w.heap.size, 3, none⟩ = some (.int .i64 st.fTxg) := blk_cell hA1 3
      rw [h1]
      go_wp2_with (go_at_call 37; refine (l6In_any _ _ _ _).mono ?_; rintro e w' ⟨rfl, rfl⟩)
      go_ret
      exact ⟨rfl, hb0.trans (b1.mono hb0.size)⟩
    · cases h3 : inB st.fKeep 0 (st.fTxg - 1)
      · have hbt := inB_true h2
        go_enter Tryz.func20, Tryz.ntmps20
        go_wp2_with fail
        refine HS.out.mono ?_
        rintro e w1 ⟨rfl, b1⟩
        have hA1 := blk_below hA0 b1 (Nat.le_refl _)
        have p3 : w1.cell? ⟨w.heap.size, 3, none⟩ = some (.int .i64 st.fTxg) := blk_cell hA1 3
        have p5 : w1.cell? ⟨w.heap.size, 5, none⟩ = some (.int .i64 st.fKeep) := blk_cell hA1 5
        rw [h1]
        go_wp2_with (go_at_call 37; refine (l6In_any _ _ _ _).mono ?_; rintro e w' ⟨rfl, rfl⟩)
        go_ret
        exact ⟨rfl, hb0.trans (b1.mono hb0.size)⟩
      · exact absurd HB.out (by rw [H0.out, h1, h2, h3]; simp)
set_option maxHeartbeats 2000000 in
theorem specStoreOk_yes (v : Value) (st : StoreD) (w : World) (hr : StoreD.Reads w v st) (hf : st.Fit)
    (h64 : st.fRows.length = 64) (hsp : st.fSpace.ok = true) (htx : inB st.fTxg 1 900 = true) (hkp : inB st.fKeep 0 (st.fTxg - 1) = true) :
    Calls Tryz.prog 20 #[v] w fun e w' => e = .returned (.bool st.ok) ∧ Below w.heap.size w w' := by
  obtain ⟨a0, c0, a1, c1, a2, c2, a4, c4, a6, c6, rfl, r0, r1, r2, r4, r6⟩ := hr
  have hl0 := hf.f0
  have hb0 : Below w.heap.size w (w.alloc (.cells #[.slice a0 st.fRows.length c0, .slice a1 st.fSpace.fRefs.length c1, .slice a2 st.fSpace.fLast.length c2, .int .i64 st.fTxg, .slice a4 st.fGone.length c4, .int .i64 st.fKeep, .slice a6 st.fDead.length c6, .bool st.fSame] 33)) := (Below.refl _ _).alloc (Nat.le_refl _) _
  have hA0 := blk_new w (.cells #[.slice a0 st.fRows.length c0, .slice a1 st.fSpace.fRefs.length c1, .slice a2 st.fSpace.fLast.length c2, .int .i64 st.fTxg, .slice a4 st.fGone.length c4, .int .i64 st.fKeep, .slice a6 st.fDead.length c6, .bool st.fSame] 33) _ rfl
  have hl : ((st.fRows.length : Int) != 64) = false := by simp [h64]
  have HS := Lib.hid (specSpaceOk_any (.agg #[.slice a1 st.fSpace.fRefs.length c1, .slice a2 st.fSpace.fLast.length c2]) st.fSpace _ ⟨_, _, _, _, rfl, r1.below hb0, r2.below hb0⟩ ⟨hf.f1, hf.f2⟩)
  have hst : Hid (st.ok = (rowsSt st 64 && (st.fGone.all (fun p => ptrIn p (st.fTxg - 1)) && (st.fDead.all (fun p => ptrIn p st.fKeep) && owedOk st.fSpace.fRefs (st.fGone ++ st.fDead))))) := by show _ = _; simp [StoreD.ok, h64, hsp, htx, hkp]
  have hbt := inB_true htx
  have hbk := inB_true hkp
  have hg4 := hf.f4
  have hg6 := hf.f6
  have HSP := Lib.hid (SpaceD.ok_spec hsp)
  have H64 := Lib.hid h64
  have hf2 := hf
  clear h64 hf
  go_enter Tryz.func20, Tryz.ntmps20
  go_wp2_with fail
  refine HS.out.mono ?_
  rintro e w1 ⟨rfl, b1⟩
  have hA1 := blk_below hA0 b1 (Nat.le_refl _)
  have hb1 := hb0.trans (b1.mono hb0.size)
  have p3 : w1.cell? ⟨w.heap.size, 3, none⟩ = some (.int .i64 st.fTxg) := blk_cell hA1 3
  have p5 : w1.cell? ⟨w.heap.size, 5, none⟩ = some (.int .i64 st.fKeep) := blk_cell hA1 5
  rw [hsp]
  go_wp2_with (go_at_call 37; refine (l6In_any _ _ _ _).mono ?_; rintro e w' ⟨rfl, rfl⟩)
  have HSPB := Lib.hid hsp
  clear hsp htx hkp hb0 hA0 b1 p3 p5
  go_loopw [3] (fun i wr => ∃ k : Nat, k ≤ 64 ∧ i = .int .i64 k ∧ rowsSt st k = true ∧ Below w.heap.size w wr ∧ wr.heap[w.heap.size]? = some (.cells #[.slice a0 st.fRows.length c0, .slice a1 st.fSpace.fRefs.length c1, .slice a2 st.fSpace.fLast.length c2, .int .i64 st.fTxg, .slice a4 st.fGone.length c4, .int .i64 st.fKeep, .slice a6 st.fDead.length c6, .bool st.fSame] 33 (0, 0))) (fun i _ => 64 - (intOf i).toNat)
  case atStart => exact ⟨0, by omega, rfl, rfl, hb1, hA1⟩
  case round =>
    obtain ⟨k, hk, rfl, hok, hb, hA⟩ := hrel
    have HOK := Lib.hid hok
    clear hok hb1 hA1
    by_cases hlt : k < 64
    · obtain ⟨b, off, s, hx0, rfl, hbl, hrg⟩ := r0.at_ k (by rw [H64.out]; exact hlt)
      have d0 := (rangeAt_below hrg hb hbl) 0 _ rfl
      obtain ⟨b1, off1, r, hx1, rfl, hbl1, hrg1⟩ := r1.at_ k (by rw [HSP.out.refs]; exact hlt)
      have d1 := (rangeAt_below hrg1 hb hbl1) 0 _ rfl
      obtain ⟨b2, off2, l, hx2, rfl, hbl2, hrg2⟩ := r2.at_ k (by rw [HSP.out.last]; exact hlt)
      have d2 := (rangeAt_below hrg2 hb hbl2) 0 _ rfl
      simp only [Nat.mul_one, Nat.add_zero] at d0 d1 d2
      have e0 := getD_of (d := ByteArray.empty) hx0
      have e1 := getD_of (d := (0 : Int)) hx1
      have e2 := getD_of (d := (0 : Int)) hx2
      have hrow : Hid (rowSt st k = (decide (s.size ≤ 128) && ((s.size == 0) == (r == 0) && decide (l ≤ st.fTxg)))) := by show _ = _; unfold rowSt; rw [e0, e1, e2]
      have hlast : Hid (rowSt st k = false → st.ok = false) := fun h => by rw [hst.out, rowsSt_bad hlt h]; rfl
      have hnext : Hid (rowSt st k = true → rowsSt st (k + 1) = true) := fun h => by rw [rowsSt_succ, HOK.out, h]; rfl
      have hlen0 : k < st.fRows.length := by rw [H64.out]; exact hlt
      have hlen1 : k < st.fSpace.fRefs.length := by rw [HSP.out.refs]; exact hlt
      have hlen2 : k < st.fSpace.fLast.length := by rw [HSP.out.last]; exact hlt
      have p0 : wr.cell? ⟨w.heap.size, 0, none⟩ = some (.slice (some ⟨b, off, none⟩) st.fRows.length c0) := blk_cell hA 0
      have p1 : wr.cell? ⟨w.heap.size, 1, none⟩ = some (.slice (some ⟨b1, off1, none⟩) st.fSpace.fRefs.length c1) := blk_cell hA 1
      have p2 : wr.cell? ⟨w.heap.size, 2, none⟩ = some (.slice (some ⟨b2, off2, none⟩) st.fSpace.fLast.length c2) := blk_cell hA 2
      have p3 : wr.cell? ⟨w.heap.size, 3, none⟩ = some (.int .i64 st.fTxg) := blk_cell hA 3
      have HA := Lib.hid hA
      clear hx0 hx1 hx2 hrg hrg1 hrg2 hA e0 e1 e2
      by_cases g1 : s.size ≤ 128
      rotate_left
      · have HR : Hid (rowSt st k = false) := by show _ = _; rw [hrow.out]; simp [g1]
        have g1' : decide ((128 : Int) < (s.size : Int)) = true := by simp; omega
        go_wp2_with fail
        go_quiet (fail)
        go_wp2
        go_ret
        exact ⟨ret_bool (hlast.out HR.out).symm, hb.trans (below_drewN _ _ _)⟩
      · have g1' : decide ((128 : Int) < (s.size : Int)) = false := by simp; omega
        have e1 : ∀ (cb : Bool), (s.size == 0) = cb → s.toList.isEmpty = cb := fun cb h => str_empty s cb h
        cases gs : (s.size == 0)
        all_goals
          have gs2 := e1 _ gs
          clear e1
          cases gr : (r == 0)
        · by_cases g3 : l ≤ st.fTxg
          · have g3' : decide (st.fTxg < l) = false := by simp; omega
            have HR : Hid (rowSt st k = true) := by show _ = _; rw [hrow.out]; simp [g1, g3, gs, gr]
            go_wp2_with fail
            go_quiet (fail)
            go_wp2
            go_roundw
            case rel => exact ⟨k + 1, by omega, by go_num, hnext.out HR.out, hb.trans (below_drewN _ _ _), HA.out⟩
            case measure => simp [intOf]; omega
          · have g3' : decide (st.fTxg < l) = true := by simp; omega
            have HR : Hid (rowSt st k = false) := by show _ = _; rw [hrow.out]; simp [g3]
            go_wp2_with fail
            go_quiet (fail)
            go_wp2
            go_ret
            exact ⟨ret_bool (hlast.out HR.out).symm, hb.trans (below_drewN _ _ _)⟩
        · have HR : Hid (rowSt st k = false) := by show _ = _; rw [hrow.out]; simp [gs, gr]
          go_wp2_with fail
          go_quiet (fail)
          go_wp2
          go_ret
          exact ⟨ret_bool (hlast.out HR.out).symm, hb.trans (below_drewN _ _ _)⟩
        · have HR : Hid (rowSt st k = false) := by show _ = _; rw [hrow.out]; simp [gs, gr]
          go_wp2_with fail
          go_quiet (fail)
          go_wp2
          go_ret
          exact ⟨ret_bool (hlast.out HR.out).symm, hb.trans (below_drewN _ _ _)⟩
        · by_cases g3 : l ≤ st.fTxg
          · have g3' : decide (st.fTxg < l) = false := by simp; omega
            have HR : Hid (rowSt st k = true) := by show _ = _; rw [hrow.out]; simp [g1, g3, gs, gr]
            go_wp2_with fail
            go_quiet (fail)
            go_wp2
            go_roundw
            case rel => exact ⟨k + 1, by omega, by go_num, hnext.out HR.out, hb.trans (below_drewN _ _ _), HA.out⟩
            case measure => simp [intOf]; omega
          · have g3' : decide (st.fTxg < l) = true := by simp; omega
            have HR : Hid (rowSt st k = false) := by show _ = _; rw [hrow.out]; simp [g3]
            go_wp2_with fail
            go_quiet (fail)
            go_wp2
            go_ret
            exact ⟨ret_bool (hlast.out HR.out).symm, hb.trans (below_drewN _ _ _)⟩
    · have hk' : k = 64 := by omega
      subst hk'
      obtain ⟨i0, hi, hz0, hz1, hz2⟩ := info_parts Tryz.infoIntS
      go_wp2_with (refine wpList_make_full _ rfl (.const (.int .i64 64)) (.const (.int .i64 64)) 23 rfl wr.heap.size 3 i0 _ 1 Tryz.underlying23 hi hz0 hz1 .i64 .i64 _ _ 64 rfl rfl rfl rfl ?b2 ?b3 ?b4 ?_)
      case b2 => rw [hz2]; omega
      case b3 => unfold maxLen; omega
      case b4 => exact Nat.le_refl _
      intro wm hown hg
      have hbm : Below w.heap.size w wm := hb.grown hg hb.size (by simp)
      have hAm := blk_grown hA hg (by simp)
      have hgm : w.heap.size < wr.heap.size := blk_lt hA
      have hown : wm.ownsRow wr.heap.size 3 1 (.slice (some ⟨wr.heap.size, 0, none⟩) 64 64) 64 (cntCells ((st.fGone ++ st.fDead).take 0)) := by rw [← cnt_start]; exact hown
      generalize wr.heap.size = g at hown hgm ⊢
      clear hb hA hg hi hz0 hz1 hz2 hlt hk r0 r2 HS
      go_wp2
      go_loopw [5] (fun i wr => ∃ j : Nat, j ≤ st.fGone.length + st.fDead.length ∧ i = .int .i64 j ∧ Given st j ∧ wr.ownsRow g 3 1 (.slice (some ⟨g, 0, none⟩) 64 64) 64 (cntCells ((st.fGone ++ st.fDead).take j)) ∧ Below w.heap.size w wr ∧ wr.heap[w.heap.size]? = some (.cells #[.slice a0 st.fRows.length c0, .slice a1 st.fSpace.fRefs.length c1, .slice a2 st.fSpace.fLast.length c2, .int .i64 st.fTxg, .slice a4 st.fGone.length c4, .int .i64 st.fKeep, .slice a6 st.fDead.length c6, .bool st.fSame] 33 (0, 0))) (fun i _ => st.fGone.length + st.fDead.length - (intOf i).toNat)
      case atStart => exact ⟨0, Nat.zero_le _, rfl, Given.zero st, hown, hbm, hAm⟩
      case round =>
        obtain ⟨j, hj, rfl, hgiv, ho, hb, hA⟩ := hrel
        clear hown hbm hAm
        by_cases hlt : j < st.fGone.length + st.fDead.length
        · by_cases hgo : j < st.fGone.length
          · obtain ⟨b, off, p, hp, rfl, hbl, hrg⟩ := r4.at_ (j) (by omega)
            obtain ⟨d0, d1, d2, d3, d4⟩ := PtrD.at_ (rangeAt_below hrg hb hbl)
            have hout : outAt st j = some p := by unfold outAt; rw [List.getElem?_append_left hgo]; exact hp
            have hmost : mostAt st j = st.fTxg - 1 := by unfold mostAt; rw [if_pos hgo]
            have hbad : Hid (ptrIn p (st.fTxg - 1) = false → st.ok = false) := fun h => given_bad hout (by rw [hmost]; exact h)
            have hmany : Hid (∀ a : Nat, p.fAt = (a : Int) → a < 64 → st.fSpace.fRefs.getD a 0 < ((cnt ((st.fGone ++ st.fDead).take j) a + 1 : Nat) : Int) → st.ok = false) := fun a h1 h2 h3 => given_many hout a h1 h2 h3
            have hstep : Hid (∀ a : Nat, ptrIn p (st.fTxg - 1) = true → p.fAt = (a : Int) → ((cnt ((st.fGone ++ st.fDead).take j) a + 1 : Nat) : Int) ≤ st.fSpace.fRefs.getD a 0 → Given st (j + 1)) := fun a h1 h2 h3 => hgiv.succ hout (by rw [hmost]; exact h1) a h2 h3
            have hsn : Hid ((st.fGone ++ st.fDead).take (j + 1) = (st.fGone ++ st.fDead).take j ++ [p]) := by show _ = _; obtain ⟨hj2, hpe⟩ := List.getElem?_eq_some_iff.1 hout; rw [List.take_succ_eq_append_getElem hj2]; unfold outAt at hout; rw [hpe]
            have hcj : ((st.fGone ++ st.fDead).take j).length ≤ 2097152 := by rw [List.length_take, List.length_append]; omega
            have hgiv2 := Lib.hid hgiv
            have p1 : wr.cell? ⟨w.heap.size, 1, none⟩ = some (.slice a1 st.fSpace.fRefs.length c1) := blk_cell hA 1
            have p3 : wr.cell? ⟨w.heap.size, 3, none⟩ = some (.int .i64 st.fTxg) := blk_cell hA 3
            have p4 : wr.cell? ⟨w.heap.size, 4, none⟩ = some (.slice (some ⟨b, off, none⟩) st.fGone.length c4) := blk_cell hA 4
            have p5 : wr.cell? ⟨w.heap.size, 5, none⟩ = some (.int .i64 st.fKeep) := blk_cell hA 5
            have p6 : wr.cell? ⟨w.heap.size, 6, none⟩ = some (.slice a6 st.fDead.length c6) := blk_cell hA 6
            have HA := Lib.hid hA
            have hw0 := blk_lt hA
            have hbw : b < wr.heap.size := Nat.lt_of_lt_of_le hbl hb.size
            clear hp hout hmost hrg hgiv hA
            have hin : Hid (ptrIn p (st.fTxg - 1) = (p.ok && (!p.hole && decide (p.fBirth ≤ st.fTxg - 1)))) := rfl
            cases h1 : p.ok
            · have HR : Hid (ptrIn p (st.fTxg - 1) = false) := by show _ = _; rw [hin.out, h1]; rfl
              go_wp2_with fail
              refine (specPtrOk_any p _).mono ?_
              rintro e w2 ⟨rfl, b2⟩
              have hb2 := (hb.alloc hb.size _).trans (b2.mono (hb.alloc hb.size _).size)
              have q2 := blk_below (blk_new wr (.cells #[.int .i64 p.fAt, .int .i64 p.fBirth, .int .i64 p.fSize, .int .i64 p.fSum, .int .i64 p.fLevel] 35) _ rfl) b2 (Nat.le_refl _)
              rw [h1]
              go_wp2
              go_ret
              exact ⟨ret_bool (hbad.out HR.out).symm, hb2⟩
            · cases h2 : p.hole
              rotate_left
              · have HR : Hid (ptrIn p (st.fTxg - 1) = false) := by show _ = _; rw [hin.out, h1, h2]; rfl
                go_wp2_with fail
                refine (specPtrOk_any p _).mono ?_
                rintro e w2 ⟨rfl, b2⟩
                have hb2 := (hb.alloc hb.size _).trans (b2.mono (hb.alloc hb.size _).size)
                have q2 := blk_below (blk_new wr (.cells #[.int .i64 p.fAt, .int .i64 p.fBirth, .int .i64 p.fSize, .int .i64 p.fSum, .int .i64 p.fLevel] 35) _ rfl) b2 (Nat.le_refl _)
                rw [h1]
                have f0 : w2.cell? ⟨wr.heap.size, 0, none⟩ = some (.int .i64 p.fAt) := blk_cell q2 0
                have f1 : w2.cell? ⟨wr.heap.size, 1, none⟩ = some (.int .i64 p.fBirth) := blk_cell q2 1
                have f2 : w2.cell? ⟨wr.heap.size, 2, none⟩ = some (.int .i64 p.fSize) := blk_cell q2 2
                have f3 : w2.cell? ⟨wr.heap.size, 3, none⟩ = some (.int .i64 p.fSum) := blk_cell q2 3
                have f4 : w2.cell? ⟨wr.heap.size, 4, none⟩ = some (.int .i64 p.fLevel) := blk_cell q2 4
                go_wp2_with fail
                refine (specHole_any p _).mono ?_
                rintro e w3 ⟨rfl, b3⟩
                have hb3 := hb2.trans (b3.mono hb2.size)
                have q3 := blk_below q2 b3 (Nat.le_refl _)
                clear f0 f1 f2 f3 f4
                rw [h2]
                go_wp2
                go_ret
                exact ⟨ret_bool (hbad.out HR.out).symm, hb3⟩
              · by_cases h3 : p.fBirth ≤ st.fTxg - 1
                rotate_left
                · have HR : Hid (ptrIn p (st.fTxg - 1) = false) := by show _ = _; rw [hin.out, h1, h2]; simp [h3]
                  go_wp2_with fail
                  refine (specPtrOk_any p _).mono ?_
                  rintro e w2 ⟨rfl, b2⟩
                  have hb2 := (hb.alloc hb.size _).trans (b2.mono (hb.alloc hb.size _).size)
                  have q2 := blk_below (blk_new wr (.cells #[.int .i64 p.fAt, .int .i64 p.fBirth, .int .i64 p.fSize, .int .i64 p.fSum, .int .i64 p.fLevel] 35) _ rfl) b2 (Nat.le_refl _)
                  rw [h1]
                  have f0 : w2.cell? ⟨wr.heap.size, 0, none⟩ = some (.int .i64 p.fAt) := blk_cell q2 0
                  have f1 : w2.cell? ⟨wr.heap.size, 1, none⟩ = some (.int .i64 p.fBirth) := blk_cell q2 1
                  have f2 : w2.cell? ⟨wr.heap.size, 2, none⟩ = some (.int .i64 p.fSize) := blk_cell q2 2
                  have f3 : w2.cell? ⟨wr.heap.size, 3, none⟩ = some (.int .i64 p.fSum) := blk_cell q2 3
                  have f4 : w2.cell? ⟨wr.heap.size, 4, none⟩ = some (.int .i64 p.fLevel) := blk_cell q2 4
                  go_wp2_with fail
                  refine (specHole_any p _).mono ?_
                  rintro e w3 ⟨rfl, b3⟩
                  have hb3 := hb2.trans (b3.mono hb2.size)
                  have q3 := blk_below q2 b3 (Nat.le_refl _)
                  clear f0 f1 f2 f3 f4
                  rw [h2]
                  have f1 : w3.cell? ⟨wr.heap.size, 1, none⟩ = some (.int .i64 p.fBirth) := blk_cell q3 1
                  go_wp2
                  go_ret
                  exact ⟨ret_bool (hbad.out HR.out).symm, hb3⟩
                · have HR : Hid (ptrIn p (st.fTxg - 1) = true) := by show _ = _; rw [hin.out, h1, h2]; simp [h3]
                  have hat := ptrIn_at HR.out
                  obtain ⟨a, ha⟩ : ∃ a : Nat, p.fAt = (a : Int) := ⟨p.fAt.toNat, by omega⟩
                  have ha1 : a < 64 := by omega
                  have ha0 : 8 ≤ a := by omega
                  have Ha := Lib.hid ha
                  clear ha
                  go_wp2_with fail
                  refine (specPtrOk_any p _).mono ?_
                  rintro e w2 ⟨rfl, b2⟩
                  have hb2 := (hb.alloc hb.size _).trans (b2.mono (hb.alloc hb.size _).size)
                  have q2 := blk_below (blk_new wr (.cells #[.int .i64 p.fAt, .int .i64 p.fBirth, .int .i64 p.fSize, .int .i64 p.fSum, .int .i64 p.fLevel] 35) _ rfl) b2 (Nat.le_refl _)
                  rw [h1]
                  have f0 : w2.cell? ⟨wr.heap.size, 0, none⟩ = some (.int .i64 p.fAt) := blk_cell q2 0
                  have f1 : w2.cell? ⟨wr.heap.size, 1, none⟩ = some (.int .i64 p.fBirth) := blk_cell q2 1
                  have f2 : w2.cell? ⟨wr.heap.size, 2, none⟩ = some (.int .i64 p.fSize) := blk_cell q2 2
                  have f3 : w2.cell? ⟨wr.heap.size, 3, none⟩ = some (.int .i64 p.fSum) := blk_cell q2 3
                  have f4 : w2.cell? ⟨wr.heap.size, 4, none⟩ = some (.int .i64 p.fLevel) := blk_cell q2 4
                  go_wp2_with fail
                  refine (specHole_any p _).mono ?_
                  rintro e w3 ⟨rfl, b3⟩
                  have hb3 := hb2.trans (b3.mono hb2.size)
                  have q3 := blk_below q2 b3 (Nat.le_refl _)
                  clear f0 f1 f2 f3 f4
                  rw [h2]
                  have f0 : w3.cell? ⟨wr.heap.size, 0, none⟩ = some (.int .i64 (a : Int)) := by rw [← Ha.out]; exact blk_cell q3 0
                  have f1 : w3.cell? ⟨wr.heap.size, 1, none⟩ = some (.int .i64 p.fBirth) := blk_cell q3 1
                  have hw3 : wr.heap.size < w3.heap.size := blk_lt q3
                  have hA3 := blk_below (blk_below (blk_alloc HA.out (.cells #[.int .i64 p.fAt, .int .i64 p.fBirth, .int .i64 p.fSize, .int .i64 p.fSum, .int .i64 p.fLevel] 35)) b2 (Nat.le_refl _)) b3 (Nat.le_refl _)
                  have ho3 := owns_below (owns_below (ho.alloc (.cells #[.int .i64 p.fAt, .int .i64 p.fBirth, .int .i64 p.fSize, .int .i64 p.fSum, .int .i64 p.fLevel] 35)) b2 (Nat.le_refl _)) b3 (Nat.le_refl _)
                  have hca : w3.cell? ⟨g, a, none⟩ = some (.int .i64 (cnt ((st.fGone ++ st.fDead).take j) a : Nat)) := by rw [ho3.cellAt a (by omega)]; exact cntCells_get _ _ ha1
                  have hfa := ho3.frozenAt a
                  have hcl := cnt_le ((st.fGone ++ st.fDead).take j) a
                  obtain ⟨b1, off1, r, hx1, rfl, hbl1, hrg1⟩ := r1.at_ a (by rw [HSP.out.refs]; exact ha1)
                  have g1 := (rangeAt_below hrg1 hb3 hbl1) 0 _ rfl
                  simp only [Nat.mul_one, Nat.add_zero] at g1
                  have e1 := Lib.hid (getD_of (d := (0 : Int)) hx1)
                  have hl1 : a < st.fSpace.fRefs.length := by rw [HSP.out.refs]; exact ha1
                  have hgw : g < wr.heap.size := (ho.lt g (by simp [Value.ownBlock])).2
                  have p1 : w3.cell? ⟨w.heap.size, 1, none⟩ = some (.slice (some ⟨b1, off1, none⟩) st.fSpace.fRefs.length c1) := blk_cell hA3 1
                  have HA3 := Lib.hid hA3
                  have HO3 := Lib.hid ho3
                  have hb3l : b1 < g := Nat.lt_trans hbl1 hgm
                  have Q3 := Lib.hid q3
                  clear hx1 hrg1 hA3 ho3 q2 q3 b2 b3 ho HA hb hb2
                  generalize hcd : cnt ((st.fGone ++ st.fDead).take j) a = cn at hca hcl
                  have HCD := Lib.hid hcd
                  clear hcd
                  go_wp2_with fail
                  go_region
                  all_goals
                    obtain ⟨ho4, _⟩ := HO3.out.stored a (.int .i64 ((cn : Int) + 1))
                    have ho5 : World.ownsRow (w3.setCell ⟨g, a, none⟩ (.int .i64 ((cn : Int) + 1))).drew g 3 1 (.slice (some ⟨g, 0, none⟩) 64 64) 64 (cntCells ((st.fGone ++ st.fDead).take (j + 1))) := by rw [hsn.out, ← cntCells_snoc _ p a Ha.out ha1, HCD.out]; exact ho4
                    have hb4 : Below w.heap.size w (w3.setCell ⟨g, a, none⟩ (.int .i64 ((cn : Int) + 1))).drew := (hb3.setCell (p := ⟨g, a, none⟩) (Nat.le_of_lt hgm) _).drew
                    have hA4 : ((w3.setCell ⟨g, a, none⟩ (.int .i64 ((cn : Int) + 1))).drew).heap[w.heap.size]? = some (.cells #[.slice a0 st.fRows.length c0, .slice (some ⟨b1, off1, none⟩) st.fSpace.fRefs.length c1, .slice a2 st.fSpace.fLast.length c2, .int .i64 st.fTxg, .slice (some ⟨b, off, none⟩) st.fGone.length c4, .int .i64 st.fKeep, .slice a6 st.fDead.length c6, .bool st.fSame] 33 (0, 0)) := blk_set_other HA3.out (p := ⟨g, a, none⟩) (Nat.ne_of_lt hgm) _
                    have q4 : ((w3.setCell ⟨g, a, none⟩ (.int .i64 ((cn : Int) + 1))).drew).heap[wr.heap.size]? = some (.cells #[.int .i64 p.fAt, .int .i64 p.fBirth, .int .i64 p.fSize, .int .i64 p.fSum, .int .i64 p.fLevel] 35 (0, 0)) := blk_set_other Q3.out (p := ⟨g, a, none⟩) (Nat.ne_of_gt hgw) _
                    have g4 : World.cell? (w3.setCell ⟨g, a, none⟩ (.int .i64 ((cn : Int) + 1))).drew ⟨b1, off1 + a, none⟩ = some (.int .i64 r) := (World.cell?_setCell_other _ _ _ _ (fun e => by injection e with e _ _; omega)).trans g1
                    have hca4 : World.cell? (w3.setCell ⟨g, a, none⟩ (.int .i64 ((cn : Int) + 1))).drew ⟨g, a, none⟩ = some (.int .i64 ((cn : Int) + 1)) := World.cell?_setCell_same _ _ _ hca
                    clear f0 f1 g1 p1 hca hfa ho4
                    generalize (w3.setCell ⟨g, a, none⟩ (.int .i64 ((cn : Int) + 1))).drew = w4 at ho5 hb4 hA4 q4 g4 hca4 ⊢
                    have f0 : w4.cell? ⟨wr.heap.size, 0, none⟩ = some (.int .i64 (a : Int)) := by rw [← Ha.out]; exact blk_cell q4 0
                    have p1 : w4.cell? ⟨w.heap.size, 1, none⟩ = some (.slice (some ⟨b1, off1, none⟩) st.fSpace.fRefs.length c1) := blk_cell hA4 1
                    have HA4 := Lib.hid hA4
                    have HO5 := Lib.hid ho5
                    clear hA4 ho5 q4
                    by_cases hmn : (cn : Int) + 1 ≤ r
                    · have hcmp : decide ((r : Int) < (cn : Int) + 1) = false := by simp; omega
                      go_wp2_with fail
                      go_quiet (fail)
                      go_wp2
                      go_roundw
                      case rel => exact ⟨j + 1, by omega, by go_num, hstep.out a HR.out Ha.out (by rw [e1.out, HCD.out]; omega), HO5.out, hb4.trans (below_drewN _ _ _), HA4.out⟩
                      case measure => simp [intOf]; omega
                    · have hcmp : decide ((r : Int) < (cn : Int) + 1) = true := by simp; omega
                      go_wp2_with fail
                      go_quiet (fail)
                      go_wp2
                      go_ret
                      exact ⟨ret_bool (hmany.out a Ha.out ha1 (by rw [e1.out, HCD.out]; omega)).symm, hb4.trans (below_drewN _ _ _)⟩
          · obtain ⟨b, off, p, hp, rfl, hbl, hrg⟩ := r6.at_ (j - st.fGone.length) (by omega)
            obtain ⟨d0, d1, d2, d3, d4⟩ := PtrD.at_ (rangeAt_below hrg hb hbl)
            have hout : outAt st j = some p := by unfold outAt; rw [List.getElem?_append_right (by omega)]; exact hp
            have hmost : mostAt st j = st.fKeep := by unfold mostAt; rw [if_neg hgo]
            have hbad : Hid (ptrIn p (st.fKeep) = false → st.ok = false) := fun h => given_bad hout (by rw [hmost]; exact h)
            have hmany : Hid (∀ a : Nat, p.fAt = (a : Int) → a < 64 → st.fSpace.fRefs.getD a 0 < ((cnt ((st.fGone ++ st.fDead).take j) a + 1 : Nat) : Int) → st.ok = false) := fun a h1 h2 h3 => given_many hout a h1 h2 h3
            have hstep : Hid (∀ a : Nat, ptrIn p (st.fKeep) = true → p.fAt = (a : Int) → ((cnt ((st.fGone ++ st.fDead).take j) a + 1 : Nat) : Int) ≤ st.fSpace.fRefs.getD a 0 → Given st (j + 1)) := fun a h1 h2 h3 => hgiv.succ hout (by rw [hmost]; exact h1) a h2 h3
            have hsn : Hid ((st.fGone ++ st.fDead).take (j + 1) = (st.fGone ++ st.fDead).take j ++ [p]) := by show _ = _; obtain ⟨hj2, hpe⟩ := List.getElem?_eq_some_iff.1 hout; rw [List.take_succ_eq_append_getElem hj2]; unfold outAt at hout; rw [hpe]
            have hcj : ((st.fGone ++ st.fDead).take j).length ≤ 2097152 := by rw [List.length_take, List.length_append]; omega
            have hgiv2 := Lib.hid hgiv
            have p1 : wr.cell? ⟨w.heap.size, 1, none⟩ = some (.slice a1 st.fSpace.fRefs.length c1) := blk_cell hA 1
            have p3 : wr.cell? ⟨w.heap.size, 3, none⟩ = some (.int .i64 st.fTxg) := blk_cell hA 3
            have p4 : wr.cell? ⟨w.heap.size, 4, none⟩ = some (.slice a4 st.fGone.length c4) := blk_cell hA 4
            have p5 : wr.cell? ⟨w.heap.size, 5, none⟩ = some (.int .i64 st.fKeep) := blk_cell hA 5
            have p6 : wr.cell? ⟨w.heap.size, 6, none⟩ = some (.slice (some ⟨b, off, none⟩) st.fDead.length c6) := blk_cell hA 6
            have HA := Lib.hid hA
            have hw0 := blk_lt hA
            have hbw : b < wr.heap.size := Nat.lt_of_lt_of_le hbl hb.size
            clear hp hout hmost hrg hgiv hA
            have hin : Hid (ptrIn p (st.fKeep) = (p.ok && (!p.hole && decide (p.fBirth ≤ st.fKeep)))) := rfl
            cases h1 : p.ok
            · have HR : Hid (ptrIn p (st.fKeep) = false) := by show _ = _; rw [hin.out, h1]; rfl
              go_wp2_with fail
              refine (specPtrOk_any p _).mono ?_
              rintro e w2 ⟨rfl, b2⟩
              have hb2 := (hb.alloc hb.size _).trans (b2.mono (hb.alloc hb.size _).size)
              have q2 := blk_below (blk_new wr (.cells #[.int .i64 p.fAt, .int .i64 p.fBirth, .int .i64 p.fSize, .int .i64 p.fSum, .int .i64 p.fLevel] 35) _ rfl) b2 (Nat.le_refl _)
              rw [h1]
              go_wp2
              go_ret
              exact ⟨ret_bool (hbad.out HR.out).symm, hb2⟩
            · cases h2 : p.hole
              rotate_left
              · have HR : Hid (ptrIn p (st.fKeep) = false) := by show _ = _; rw [hin.out, h1, h2]; rfl
                go_wp2_with fail
                refine (specPtrOk_any p _).mono ?_
                rintro e w2 ⟨rfl, b2⟩
                have hb2 := (hb.alloc hb.size _).trans (b2.mono (hb.alloc hb.size _).size)
                have q2 := blk_below (blk_new wr (.cells #[.int .i64 p.fAt, .int .i64 p.fBirth, .int .i64 p.fSize, .int .i64 p.fSum, .int .i64 p.fLevel] 35) _ rfl) b2 (Nat.le_refl _)
                rw [h1]
                have f0 : w2.cell? ⟨wr.heap.size, 0, none⟩ = some (.int .i64 p.fAt) := blk_cell q2 0
                have f1 : w2.cell? ⟨wr.heap.size, 1, none⟩ = some (.int .i64 p.fBirth) := blk_cell q2 1
                have f2 : w2.cell? ⟨wr.heap.size, 2, none⟩ = some (.int .i64 p.fSize) := blk_cell q2 2
                have f3 : w2.cell? ⟨wr.heap.size, 3, none⟩ = some (.int .i64 p.fSum) := blk_cell q2 3
                have f4 : w2.cell? ⟨wr.heap.size, 4, none⟩ = some (.int .i64 p.fLevel) := blk_cell q2 4
                go_wp2_with fail
                refine (specHole_any p _).mono ?_
                rintro e w3 ⟨rfl, b3⟩
                have hb3 := hb2.trans (b3.mono hb2.size)
                have q3 := blk_below q2 b3 (Nat.le_refl _)
                clear f0 f1 f2 f3 f4
                rw [h2]
                go_wp2
                go_ret
                exact ⟨ret_bool (hbad.out HR.out).symm, hb3⟩
              · by_cases h3 : p.fBirth ≤ st.fKeep
                rotate_left
                · have HR : Hid (ptrIn p (st.fKeep) = false) := by show _ = _; rw [hin.out, h1, h2]; simp [h3]
                  go_wp2_with fail
                  refine (specPtrOk_any p _).mono ?_
                  rintro e w2 ⟨rfl, b2⟩
                  have hb2 := (hb.alloc hb.size _).trans (b2.mono (hb.alloc hb.size _).size)
                  have q2 := blk_below (blk_new wr (.cells #[.int .i64 p.fAt, .int .i64 p.fBirth, .int .i64 p.fSize, .int .i64 p.fSum, .int .i64 p.fLevel] 35) _ rfl) b2 (Nat.le_refl _)
                  rw [h1]
                  have f0 : w2.cell? ⟨wr.heap.size, 0, none⟩ = some (.int .i64 p.fAt) := blk_cell q2 0
                  have f1 : w2.cell? ⟨wr.heap.size, 1, none⟩ = some (.int .i64 p.fBirth) := blk_cell q2 1
                  have f2 : w2.cell? ⟨wr.heap.size, 2, none⟩ = some (.int .i64 p.fSize) := blk_cell q2 2
                  have f3 : w2.cell? ⟨wr.heap.size, 3, none⟩ = some (.int .i64 p.fSum) := blk_cell q2 3
                  have f4 : w2.cell? ⟨wr.heap.size, 4, none⟩ = some (.int .i64 p.fLevel) := blk_cell q2 4
                  go_wp2_with fail
                  refine (specHole_any p _).mono ?_
                  rintro e w3 ⟨rfl, b3⟩
                  have hb3 := hb2.trans (b3.mono hb2.size)
                  have q3 := blk_below q2 b3 (Nat.le_refl _)
                  clear f0 f1 f2 f3 f4
                  rw [h2]
                  have f1 : w3.cell? ⟨wr.heap.size, 1, none⟩ = some (.int .i64 p.fBirth) := blk_cell q3 1
                  go_wp2
                  go_ret
                  exact ⟨ret_bool (hbad.out HR.out).symm, hb3⟩
                · have HR : Hid (ptrIn p (st.fKeep) = true) := by show _ = _; rw [hin.out, h1, h2]; simp [h3]
                  have hat := ptrIn_at HR.out
                  obtain ⟨a, ha⟩ : ∃ a : Nat, p.fAt = (a : Int) := ⟨p.fAt.toNat, by omega⟩
                  have ha1 : a < 64 := by omega
                  have ha0 : 8 ≤ a := by omega
                  have Ha := Lib.hid ha
                  clear ha
                  go_wp2_with fail
                  refine (specPtrOk_any p _).mono ?_
                  rintro e w2 ⟨rfl, b2⟩
                  have hb2 := (hb.alloc hb.size _).trans (b2.mono (hb.alloc hb.size _).size)
                  have q2 := blk_below (blk_new wr (.cells #[.int .i64 p.fAt, .int .i64 p.fBirth, .int .i64 p.fSize, .int .i64 p.fSum, .int .i64 p.fLevel] 35) _ rfl) b2 (Nat.le_refl _)
                  rw [h1]
                  have f0 : w2.cell? ⟨wr.heap.size, 0, none⟩ = some (.int .i64 p.fAt) := blk_cell q2 0
                  have f1 : w2.cell? ⟨wr.heap.size, 1, none⟩ = some (.int .i64 p.fBirth) := blk_cell q2 1
                  have f2 : w2.cell? ⟨wr.heap.size, 2, none⟩ = some (.int .i64 p.fSize) := blk_cell q2 2
                  have f3 : w2.cell? ⟨wr.heap.size, 3, none⟩ = some (.int .i64 p.fSum) := blk_cell q2 3
                  have f4 : w2.cell? ⟨wr.heap.size, 4, none⟩ = some (.int .i64 p.fLevel) := blk_cell q2 4
                  go_wp2_with fail
                  refine (specHole_any p _).mono ?_
                  rintro e w3 ⟨rfl, b3⟩
                  have hb3 := hb2.trans (b3.mono hb2.size)
                  have q3 := blk_below q2 b3 (Nat.le_refl _)
                  clear f0 f1 f2 f3 f4
                  rw [h2]
                  have f0 : w3.cell? ⟨wr.heap.size, 0, none⟩ = some (.int .i64 (a : Int)) := by rw [← Ha.out]; exact blk_cell q3 0
                  have f1 : w3.cell? ⟨wr.heap.size, 1, none⟩ = some (.int .i64 p.fBirth) := blk_cell q3 1
                  have hw3 : wr.heap.size < w3.heap.size := blk_lt q3
                  have hA3 := blk_below (blk_below (blk_alloc HA.out (.cells #[.int .i64 p.fAt, .int .i64 p.fBirth, .int .i64 p.fSize, .int .i64 p.fSum, .int .i64 p.fLevel] 35)) b2 (Nat.le_refl _)) b3 (Nat.le_refl _)
                  have ho3 := owns_below (owns_below (ho.alloc (.cells #[.int .i64 p.fAt, .int .i64 p.fBirth, .int .i64 p.fSize, .int .i64 p.fSum, .int .i64 p.fLevel] 35)) b2 (Nat.le_refl _)) b3 (Nat.le_refl _)
                  have hca : w3.cell? ⟨g, a, none⟩ = some (.int .i64 (cnt ((st.fGone ++ st.fDead).take j) a : Nat)) := by rw [ho3.cellAt a (by omega)]; exact cntCells_get _ _ ha1
                  have hfa := ho3.frozenAt a
                  have hcl := cnt_le ((st.fGone ++ st.fDead).take j) a
                  obtain ⟨b1, off1, r, hx1, rfl, hbl1, hrg1⟩ := r1.at_ a (by rw [HSP.out.refs]; exact ha1)
                  have g1 := (rangeAt_below hrg1 hb3 hbl1) 0 _ rfl
                  simp only [Nat.mul_one, Nat.add_zero] at g1
                  have e1 := Lib.hid (getD_of (d := (0 : Int)) hx1)
                  have hl1 : a < st.fSpace.fRefs.length := by rw [HSP.out.refs]; exact ha1
                  have hgw : g < wr.heap.size := (ho.lt g (by simp [Value.ownBlock])).2
                  have p1 : w3.cell? ⟨w.heap.size, 1, none⟩ = some (.slice (some ⟨b1, off1, none⟩) st.fSpace.fRefs.length c1) := blk_cell hA3 1
                  have HA3 := Lib.hid hA3
                  have HO3 := Lib.hid ho3
                  have hb3l : b1 < g := Nat.lt_trans hbl1 hgm
                  have Q3 := Lib.hid q3
                  clear hx1 hrg1 hA3 ho3 q2 q3 b2 b3 ho HA hb hb2
                  generalize hcd : cnt ((st.fGone ++ st.fDead).take j) a = cn at hca hcl
                  have HCD := Lib.hid hcd
                  clear hcd
                  go_wp2_with fail
                  go_region
                  all_goals
                    obtain ⟨ho4, _⟩ := HO3.out.stored a (.int .i64 ((cn : Int) + 1))
                    have ho5 : World.ownsRow (w3.setCell ⟨g, a, none⟩ (.int .i64 ((cn : Int) + 1))).drew g 3 1 (.slice (some ⟨g, 0, none⟩) 64 64) 64 (cntCells ((st.fGone ++ st.fDead).take (j + 1))) := by rw [hsn.out, ← cntCells_snoc _ p a Ha.out ha1, HCD.out]; exact ho4
                    have hb4 : Below w.heap.size w (w3.setCell ⟨g, a, none⟩ (.int .i64 ((cn : Int) + 1))).drew := (hb3.setCell (p := ⟨g, a, none⟩) (Nat.le_of_lt hgm) _).drew
                    have hA4 : ((w3.setCell ⟨g, a, none⟩ (.int .i64 ((cn : Int) + 1))).drew).heap[w.heap.size]? = some (.cells #[.slice a0 st.fRows.length c0, .slice (some ⟨b1, off1, none⟩) st.fSpace.fRefs.length c1, .slice a2 st.fSpace.fLast.length c2, .int .i64 st.fTxg, .slice a4 st.fGone.length c4, .int .i64 st.fKeep, .slice (some ⟨b, off, none⟩) st.fDead.length c6, .bool st.fSame] 33 (0, 0)) := blk_set_other HA3.out (p := ⟨g, a, none⟩) (Nat.ne_of_lt hgm) _
                    have q4 : ((w3.setCell ⟨g, a, none⟩ (.int .i64 ((cn : Int) + 1))).drew).heap[wr.heap.size]? = some (.cells #[.int .i64 p.fAt, .int .i64 p.fBirth, .int .i64 p.fSize, .int .i64 p.fSum, .int .i64 p.fLevel] 35 (0, 0)) := blk_set_other Q3.out (p := ⟨g, a, none⟩) (Nat.ne_of_gt hgw) _
                    have g4 : World.cell? (w3.setCell ⟨g, a, none⟩ (.int .i64 ((cn : Int) + 1))).drew ⟨b1, off1 + a, none⟩ = some (.int .i64 r) := (World.cell?_setCell_other _ _ _ _ (fun e => by injection e with e _ _; omega)).trans g1
                    have hca4 : World.cell? (w3.setCell ⟨g, a, none⟩ (.int .i64 ((cn : Int) + 1))).drew ⟨g, a, none⟩ = some (.int .i64 ((cn : Int) + 1)) := World.cell?_setCell_same _ _ _ hca
                    clear f0 f1 g1 p1 hca hfa ho4
                    generalize (w3.setCell ⟨g, a, none⟩ (.int .i64 ((cn : Int) + 1))).drew = w4 at ho5 hb4 hA4 q4 g4 hca4 ⊢
                    have f0 : w4.cell? ⟨wr.heap.size, 0, none⟩ = some (.int .i64 (a : Int)) := by rw [← Ha.out]; exact blk_cell q4 0
                    have p1 : w4.cell? ⟨w.heap.size, 1, none⟩ = some (.slice (some ⟨b1, off1, none⟩) st.fSpace.fRefs.length c1) := blk_cell hA4 1
                    have HA4 := Lib.hid hA4
                    have HO5 := Lib.hid ho5
                    clear hA4 ho5 q4
                    by_cases hmn : (cn : Int) + 1 ≤ r
                    · have hcmp : decide ((r : Int) < (cn : Int) + 1) = false := by simp; omega
                      go_wp2_with fail
                      go_quiet (fail)
                      go_wp2
                      go_roundw
                      case rel => exact ⟨j + 1, by omega, by go_num, hstep.out a HR.out Ha.out (by rw [e1.out, HCD.out]; omega), HO5.out, hb4.trans (below_drewN _ _ _), HA4.out⟩
                      case measure => simp [intOf]; omega
                    · have hcmp : decide ((r : Int) < (cn : Int) + 1) = true := by simp; omega
                      go_wp2_with fail
                      go_quiet (fail)
                      go_wp2
                      go_ret
                      exact ⟨ret_bool (hmany.out a Ha.out ha1 (by rw [e1.out, HCD.out]; omega)).symm, hb4.trans (below_drewN _ _ _)⟩
        · have hk' : j = st.fGone.length + st.fDead.length := by omega
          have HJ := Lib.hid hk'
          clear hk'
          have hfin : Hid (st.ok = true) := by
            show _ = _
            rw [hst.out, HOK.out, Bool.true_and]
            refine Given.all (by rw [List.length_append, ← HJ.out]; exact hgiv) (fun i hi => (HSP.out.each i hi).1)
          have p4 : wr.cell? ⟨w.heap.size, 4, none⟩ = some (.slice a4 st.fGone.length c4) := blk_cell hA 4
          have p6 : wr.cell? ⟨w.heap.size, 6, none⟩ = some (.slice a6 st.fDead.length c6) := blk_cell hA 6
          go_wp2
          go_ret
          exact ⟨ret_bool hfin.out.symm, hb⟩
open Go.RowKit
def mkI (k : Int) : Int := k
theorem markIntS_any (ao : Option Addr) (len cap B : Nat) (cs : List Value) (k : Int) (w : World) (hk0 : 0 < k) (hk1 : k ≤ 1000000000000) (hlen : len ≤ 1048576) (hpos : 0 < len) (hown : w.ownsRow B 3 1 (.slice ao len cap) len cs) :
    Calls Tryz.prog 57 #[.slice ao len cap, .int .i64 k] w fun e w' => e = .returned (.int .i64 (k + (len : Int) * 1)) ∧ w'.ownsRow B 3 1 (.slice ao len cap) len ((marks mkI 1 k len).flatMap encI) ∧ w.grownBy w' (Value.slice ao len cap).ownBlock := by
  · obtain ⟨ao', cap', hv, hcl, _, hg⟩ := owns_slice hown
    obtain ⟨g, rfl, hgB, hgs⟩ := hg hpos
    simp only [Value.slice.injEq, true_and] at hv
    obtain ⟨rfl, rfl⟩ := hv
    have hml := marks_len mkI 1 k len
    have hF0 : FillC encI 1 B 3 w g len cap (marks mkI 1 k len) 0 := FillC.start hown
    clear hown
    go_enter Tryz.func57, Tryz.ntmps57
    go_wp2
    go_loopw [1, 5] (fun k' i wr => ∃ j : Nat, j ≤ len ∧ i = .int .i64 j ∧ k' = .int .i64 (k + (j : Int) * 1) ∧ FillC encI 1 B 3 wr g len cap (marks mkI 1 k len) j ∧ w.grownBy wr (some g)) (fun _ i _ => len - (intOf i).toNat)
    case atStart => exact ⟨0, Nat.zero_le _, rfl, by simp, hF0, grown_refl _ _⟩
    case round =>
      obtain ⟨j, hj, rfl, rfl, hf, hgr⟩ := hrel
      by_cases hlt : j < len
      · have hx := Lib.hid (marks_get mkI 1 k len j hlt)
        simp only [Int.mul_one] at hx
        obtain ⟨rest, hrest, hown⟩ := hf
        have hcs := Lib.hid (show ∃ rest' : List Value, rest'.length = (len - j) * 1 ∧ ((marks mkI 1 k len).take j).flatMap encI ++ rest = ((marks mkI 1 k len).take j).flatMap encI ++ rest' from ⟨rest, hrest, rfl⟩)
        have hlen2 : j * 1 + 1 ≤ (((marks mkI 1 k len).take j).flatMap encI ++ rest).length := by
          rw [List.length_append, flat_len _ _ encI_len, List.length_take, hml, hrest]; omega
        have hdef : ∃ C, C = ((marks mkI 1 k len).take j).flatMap encI ++ rest := ⟨_, rfl⟩
        obtain ⟨C, hC⟩ := hdef
        rw [← hC] at hown hlen2
        rw [← hC] at hcs
        have HC := Lib.hid hC
        clear hC hrest hml hF0
        have hL : j + 1 ≤ C.length := by omega
        have HT := owns_there hown (j) 1 (hL)
        obtain ⟨q0, hq0⟩ := Option.isSome_iff_exists.1 (HT 0 (by omega)).1
        have hz0 := (HT 0 (by omega)).2
        simp only [Nat.add_zero] at hq0 hz0
        clear HT
        go_wp2
        have hp0 := hown.stored (j + 0) (.int .i64 (k + (j : Int)))
        simp only [Nat.add_zero] at hp0
        have hgE := (grown_trans hgr hp0.2)
        have hoE := hp0.1
        have hsp : (C.set (j) (.int .i64 (k + (j : Int)))) = splice C (j * 1) (encI (mkI (k + (j : Int)))) := by
          show _ = splice C (j * 1) [.int .i64 (k + (j : Int))]
          rw [Nat.mul_one, splice_one _ _ _ (by omega)]
        rw [hsp] at hoE
        have hf3 := FillC.next encI_len (marks_len mkI 1 k len) hx.out hcs.out hoE
        go_roundw
        case rel => exact ⟨j + 1, by omega, by go_num, by go_num, hf3, hgE⟩
        case measure => simp [intOf]; omega
      · have hk' : j = len := by omega
        subst hk'
        have hfd := FillC.done hf hml
        rw [hml] at hfd
        go_wp2
        go_ret
        exact ⟨rfl, hfd, hgr⟩
theorem markIntS_zero (ao : Option Addr) (cap : Nat) (k : Int) (w : World) :
    Calls Tryz.prog 57 #[.slice ao 0 cap, .int .i64 k] w fun e w' => e = .returned (.int .i64 k) ∧ w = w' := by
  go_enter Tryz.func57, Tryz.ntmps57
  go_wp2
  go_loop [1, 5] (fun k' i => i = .int .i64 0 ∧ k' = .int .i64 k) (fun _ _ => 0)
  case atStart => exact ⟨rfl, rfl⟩
  case round =>
    obtain ⟨rfl, rfl⟩ := hrel
    go_wp2
    go_ret
    exact ⟨rfl, rfl⟩
theorem markIntS_r (ao : Option Addr) (cap : Nat) (B B1 : Nat) (xs : List Int) (k : Int) (w : World) (hk0 : 0 < k) (hk1 : k ≤ 1000000000000) (hlen : xs.length ≤ 1048576) (h : RowO encI 1 3 w B B1 (.slice ao xs.length cap) xs) :
    Calls Tryz.prog 57 #[.slice ao xs.length cap, .int .i64 k] w fun e w' => e = .returned (.int .i64 (k + (xs.length : Int) * 1)) ∧ RowO encI 1 3 w' B B1 (.slice ao xs.length cap) (marks mkI 1 k xs.length) ∧ w.grownBy w' (Value.rowBlock (.slice ao xs.length cap)) := by
  have hlt := h.lt
  obtain ⟨ao', cap', hv, hc, hg⟩ := h
  simp only [Value.slice.injEq, true_and] at hv
  obtain ⟨rfl, rfl⟩ := hv
  by_cases hpos : 0 < xs.length
  · rcases hc with ⟨_, hx⟩ | hown
    · rw [hx] at hpos; exact absurd hpos (Nat.lt_irrefl _)
    · obtain ⟨ao', cap', hv, hcl, _, _⟩ := owns_slice hown
      simp only [Value.slice.injEq, true_and] at hv
      obtain ⟨rfl, rfl⟩ := hv
      refine (markIntS_any ao xs.length cap B _ k w hk0 hk1 hlen hpos hown).mono ?_
      rintro e w' ⟨rfl, h1, h2⟩
      rw [rowBlock_pos (by omega)]
      refine ⟨rfl, ⟨ao, cap, by rw [marks_len], .inr (by rw [marks_len]; exact h1), hg⟩, h2⟩
  · have hx : xs = [] := List.length_eq_zero_iff.1 (by omega)
    subst hx
    refine (markIntS_zero ao cap k w).mono ?_
    rintro e w' ⟨rfl, rfl⟩
    refine ⟨by simp, ⟨ao, cap, by rw [marks_len], ?_, hg⟩, grown_refl _ _⟩
    rcases hc with ⟨h0, _⟩ | h0
    · exact .inl ⟨h0, rfl⟩
    · right
      rw [marks_len]
      simpa [marks] using h0
theorem heldIntS_any (ao : Option Addr) (len cap : Nat) (k : Int) (w : World) (hk0 : 0 < k) (hk1 : k ≤ 1000000000000) (hlen : len ≤ 1048576) (hr : Rd encI 1 w ao len (marks mkI 1 k len)) :
    Calls Tryz.prog 58 #[.slice ao len cap, .int .i64 k] w fun e w' => e = .returned (.int .i64 (k + (len : Int) * 1)) ∧ Below w.heap.size w w' := by
  go_enter Tryz.func58, Tryz.ntmps58
  go_wp2
  go_loopw [1, 5] (fun k' i wr => ∃ j : Nat, j ≤ len ∧ i = .int .i64 j ∧ k' = .int .i64 (k + (j : Int) * 1) ∧ Below w.heap.size w wr) (fun _ i _ => len - (intOf i).toNat)
  case atStart => exact ⟨0, Nat.zero_le _, rfl, by simp, Below.refl _ _⟩
  case round =>
    obtain ⟨j, hj, rfl, rfl, hb⟩ := hrel
    by_cases hlt : j < len
    · obtain ⟨b, off, x, hx0, rfl, hbl, hrg⟩ := hr.at_ j (by rw [hr.len]; exact hlt)
      obtain rfl := Option.some.inj (hx0.symm.trans (marks_get mkI 1 k len j hlt))
      clear hx0
      have hrg2 := rangeAt_below hrg hb hbl
      have hbl2 : b < wr.heap.size := Nat.lt_of_lt_of_le hbl hb.size
      simp only [Nat.mul_one, Int.mul_one] at hrg2
      have c0 : wr.cell? ⟨b, off + j, none⟩ = some (.int .i64 (k + (j : Int))) := hrg2 0 _ rfl
      clear hrg hrg2
      go_wp2
      go_roundw
      case rel => exact ⟨j + 1, by omega, by go_num, by go_num, hb⟩
      case measure => simp [intOf]; omega
    · have hk' : j = len := by omega
      subst hk'
      go_wp2
      go_ret
      exact ⟨rfl, hb⟩
open Go.RowKit
def SpaceD.marked (x : SpaceD) (k : Int) : SpaceD := { fRefs := marks mkI 1 (k) x.fRefs.length, fLast := marks mkI 1 (k + (x.fRefs.length : Int) * 1) x.fLast.length }
def SpaceD.past (x : SpaceD) (k : Int) : Int := k + (x.fRefs.length : Int) * 1 + (x.fLast.length : Int) * 1
theorem markSpace_x (a0 : Option Addr) (c0 : Nat) (a1 : Option Addr) (c1 : Nat) (x : SpaceD) (B B1 : Nat) (k : Int) (w : World) (hk0 : 0 < k) (hk1 : k ≤ 100000000000) (hf : x.Fit) (r0 : RowO encI 1 3 w B B1 (.slice a0 x.fRefs.length c0) x.fRefs) (r1 : RowO encI 1 3 w B B1 (.slice a1 x.fLast.length c1) x.fLast) (p0_1 : Apart (.slice a0 x.fRefs.length c0) (.slice a1 x.fLast.length c1)) (hB : B1 ≤ w.heap.size) :
    Calls Tryz.prog 31 #[.agg #[.slice a0 x.fRefs.length c0, .slice a1 x.fLast.length c1], .int .i64 k] w fun e w' => e = .returned (.int .i64 (k + (x.fRefs.length : Int) * 1 + (x.fLast.length : Int) * 1)) ∧ RowO encI 1 3 w' B B1 (.slice a0 x.fRefs.length c0) (marks mkI 1 (k) x.fRefs.length) ∧ RowO encI 1 3 w' B B1 (.slice a1 x.fLast.length c1) (marks mkI 1 (k + (x.fRefs.length : Int) * 1) x.fLast.length) ∧ GrownAll [.slice a0 x.fRefs.length c0, .slice a1 x.fLast.length c1] w w' := by
  have hO0 : GrownAll [.slice a0 x.fRefs.length c0, .slice a1 x.fLast.length c1] w (w.alloc (.cells #[.slice a0 x.fRefs.length c0, .slice a1 x.fLast.length c1] 30)) := GrownAll.alloc _ _ _
  have hne0 : Value.rowBlock (.slice a0 x.fRefs.length c0) ≠ some w.heap.size := fun e => by have := (r0.lt _ e).2.1; omega
  have hne1 : Value.rowBlock (.slice a1 x.fLast.length c1) ≠ some w.heap.size := fun e => by have := (r1.lt _ e).2.1; omega
  have hA0 := blk_new w (.cells #[.slice a0 x.fRefs.length c0, .slice a1 x.fLast.length c1] 30) _ rfl
  have r0 := r0.below ((Below.refl w.heap.size w).alloc (Nat.le_refl _) (.cells #[.slice a0 x.fRefs.length c0, .slice a1 x.fLast.length c1] 30)) (Nat.le_refl _)
  have r1 := r1.below ((Below.refl w.heap.size w).alloc (Nat.le_refl _) (.cells #[.slice a0 x.fRefs.length c0, .slice a1 x.fLast.length c1] 30)) (Nat.le_refl _)
  go_enter Tryz.func31, Tryz.ntmps31
  go_wp2_with fail
  obtain ⟨k1, hk1⟩ : ∃ z : Int, z = k + (x.fRefs.length : Int) * 1 := ⟨_, rfl⟩
  have hbk1 : 0 < k1 ∧ k1 ≤ k + 10000000 := by
    rw [hk1]
    have := hf.f0
    omega
  have Hk1 := Lib.hid hk1
  clear hk1
  obtain ⟨hbk1a, hbk1b⟩ := hbk1
  refine (markIntS_r _ _ _ _ _ _ _ (by omega) (by omega) hf.f0 r0).mono ?_
  rintro e w1 ⟨rfl, on0, hg1⟩
  have hq1 := GrownAll.one hg1
  have r1 := r1.grown hg1 (p0_1).symm
  clear r0
  have r0 := on0
  clear on0 hg1
  have hA1 := blk_all hA0 hq1 (all1 hne0)
  have hO1 := hO0.trans (hq1.mono (by simp))
  clear hq1 hA0 hO0
  rw [← Hk1.out]
  have pa1 : w1.cell? ⟨w.heap.size, 1, none⟩ = some (.slice a1 x.fLast.length c1) := blk_cell hA1 1
  go_wp2_with fail
  obtain ⟨k2, hk2⟩ : ∃ z : Int, z = k1 + (x.fLast.length : Int) * 1 := ⟨_, rfl⟩
  have hbk2 : 0 < k2 ∧ k2 ≤ k1 + 10000000 := by
    rw [hk2]
    have := hf.f1
    omega
  have Hk2 := Lib.hid hk2
  clear hk2
  obtain ⟨hbk2a, hbk2b⟩ := hbk2
  refine (markIntS_r _ _ _ _ _ _ _ (by omega) (by omega) hf.f1 r1).mono ?_
  rintro e w2 ⟨rfl, on1, hg2⟩
  have hq2 := GrownAll.one hg2
  have r0 := r0.grown hg2 p0_1
  clear r1
  have r1 := on1
  clear on1 hg2
  have hA2 := blk_all hA1 hq2 (all1 hne1)
  have hO2 := hO1.trans (hq2.mono (by simp))
  clear hq2 hA1 hO1
  rw [← Hk2.out]
  clear pa1
  go_wp2
  go_ret
  obtain rfl := Hk1.out
  obtain rfl := Hk2.out
  exact ⟨rfl, r0, r1, hO2⟩
theorem heldSpace_x (a0 : Option Addr) (c0 : Nat) (a1 : Option Addr) (c1 : Nat) (x : SpaceD) (k : Int) (w : World) (hk0 : 0 < k) (hk1 : k ≤ 100000000000) (hf : x.Fit) (r0 : Rd encI 1 w a0 x.fRefs.length (marks mkI 1 (k) x.fRefs.length)) (r1 : Rd encI 1 w a1 x.fLast.length (marks mkI 1 (k + (x.fRefs.length : Int) * 1) x.fLast.length)) :
    Calls Tryz.prog 34 #[.agg #[.slice a0 x.fRefs.length c0, .slice a1 x.fLast.length c1], .int .i64 k] w fun e w' => e = .returned (.int .i64 (k + (x.fRefs.length : Int) * 1 + (x.fLast.length : Int) * 1)) ∧ Below w.heap.size w w' := by
  have hb0 : Below w.heap.size w (w.alloc (.cells #[.slice a0 x.fRefs.length c0, .slice a1 x.fLast.length c1] 30)) := (Below.refl _ _).alloc (Nat.le_refl _) _
  have hA0 := blk_new w (.cells #[.slice a0 x.fRefs.length c0, .slice a1 x.fLast.length c1] 30) _ rfl
  obtain ⟨k1, hk1⟩ : ∃ z : Int, z = k + (x.fRefs.length : Int) * 1 := ⟨_, rfl⟩
  have hbk1 : 0 < k1 ∧ k1 ≤ k + 10000000 := by
    rw [hk1]
    have := hf.f0
    omega
  rw [← hk1] at r1
  have Hk1 := Lib.hid hk1
  clear hk1
  obtain ⟨hbk1a, hbk1b⟩ := hbk1
  obtain ⟨k2, hk2⟩ : ∃ z : Int, z = k1 + (x.fLast.length : Int) * 1 := ⟨_, rfl⟩
  have hbk2 : 0 < k2 ∧ k2 ≤ k1 + 10000000 := by
    rw [hk2]
    have := hf.f1
    omega
  have Hk2 := Lib.hid hk2
  clear hk2
  obtain ⟨hbk2a, hbk2b⟩ := hbk2
  go_enter Tryz.func34, Tryz.ntmps34
  go_wp2_with fail
  refine (heldIntS_any _ _ _ _ _ (by omega) (by omega) hf.f0 (r0.below hb0)).mono ?_
  rintro e w1 ⟨rfl, b1⟩
  rw [← Hk1.out]
  have hA1 := blk_below hA0 b1 (Nat.le_refl _)
  have hb1 := hb0.trans (b1.mono hb0.size)
  clear b1 hA0
  have pa1 : w1.cell? ⟨w.heap.size, 1, none⟩ = some (.slice a1 x.fLast.length c1) := blk_cell hA1 1
  go_wp2_with fail
  refine (heldIntS_any _ _ _ _ _ (by omega) (by omega) hf.f1 (r1.below hb1)).mono ?_
  rintro e w2 ⟨rfl, b2⟩
  rw [← Hk2.out]
  have hA2 := blk_below hA1 b2 (Nat.le_refl _)
  have hb2 := hb1.trans (b2.mono hb1.size)
  clear b2 hA1
  clear pa1
  go_wp2
  go_ret
  obtain rfl := Hk1.out
  obtain rfl := Hk2.out
  exact ⟨rfl, hb2⟩
open Go.RowKit
def mkPtr (k : Int) : PtrD := { fAt := (k), fBirth := (k + 1), fSize := (k + 1 + 1), fSum := (k + 1 + 1 + 1), fLevel := (k + 1 + 1 + 1 + 1) }
theorem markPtrS_any (ao : Option Addr) (len cap B : Nat) (cs : List Value) (k : Int) (w : World) (hk0 : 0 < k) (hk1 : k ≤ 1000000000000) (hlen : len ≤ 1048576) (hpos : 0 < len) (hown : w.ownsRow B 35 5 (.slice ao len cap) len cs) :
    Calls Tryz.prog 32 #[.slice ao len cap, .int .i64 k] w fun e w' => e = .returned (.int .i64 (k + (len : Int) * 5)) ∧ w'.ownsRow B 35 5 (.slice ao len cap) len ((marks mkPtr 5 k len).flatMap PtrD.cells) ∧ w.grownBy w' (Value.slice ao len cap).ownBlock := by
  · obtain ⟨ao', cap', hv, hcl, _, hg⟩ := owns_slice hown
    obtain ⟨g, rfl, hgB, hgs⟩ := hg hpos
    simp only [Value.slice.injEq, true_and] at hv
    obtain ⟨rfl, rfl⟩ := hv
    have hml := marks_len mkPtr 5 k len
    have hF0 : FillC PtrD.cells 5 B 35 w g len cap (marks mkPtr 5 k len) 0 := FillC.start hown
    clear hown
    go_enter Tryz.func32, Tryz.ntmps32
    go_wp2
    go_loopw [1, 5] (fun k' i wr => ∃ j : Nat, j ≤ len ∧ i = .int .i64 j ∧ k' = .int .i64 (k + (j : Int) * 5) ∧ FillC PtrD.cells 5 B 35 wr g len cap (marks mkPtr 5 k len) j ∧ w.grownBy wr (some g)) (fun _ i _ => len - (intOf i).toNat)
    case atStart => exact ⟨0, Nat.zero_le _, rfl, by simp, hF0, grown_refl _ _⟩
    case round =>
      obtain ⟨j, hj, rfl, rfl, hf, hgr⟩ := hrel
      by_cases hlt : j < len
      · have hx := Lib.hid (marks_get mkPtr 5 k len j hlt)
        obtain ⟨rest, hrest, hown⟩ := hf
        have hcs := Lib.hid (show ∃ rest' : List Value, rest'.length = (len - j) * 5 ∧ ((marks mkPtr 5 k len).take j).flatMap PtrD.cells ++ rest = ((marks mkPtr 5 k len).take j).flatMap PtrD.cells ++ rest' from ⟨rest, hrest, rfl⟩)
        have hlen2 : j * 5 + 5 ≤ (((marks mkPtr 5 k len).take j).flatMap PtrD.cells ++ rest).length := by
          rw [List.length_append, flat_len _ _ PtrD.cells_len, List.length_take, hml, hrest]; omega
        have hdef : ∃ C, C = ((marks mkPtr 5 k len).take j).flatMap PtrD.cells ++ rest := ⟨_, rfl⟩
        obtain ⟨C, hC⟩ := hdef
        rw [← hC] at hown hlen2
        rw [← hC] at hcs
        have HC := Lib.hid hC
        clear hC hrest hml hF0
        have hL : j * 5 + 5 ≤ C.length := by omega
        have HT := owns_there hown (j * 5) 5 (hL)
        obtain ⟨q0, hq0⟩ := Option.isSome_iff_exists.1 (HT 0 (by omega)).1
        have hz0 := (HT 0 (by omega)).2
        obtain ⟨q1, hq1⟩ := Option.isSome_iff_exists.1 (HT 1 (by omega)).1
        have hz1 := (HT 1 (by omega)).2
        obtain ⟨q2, hq2⟩ := Option.isSome_iff_exists.1 (HT 2 (by omega)).1
        have hz2 := (HT 2 (by omega)).2
        obtain ⟨q3, hq3⟩ := Option.isSome_iff_exists.1 (HT 3 (by omega)).1
        have hz3 := (HT 3 (by omega)).2
        obtain ⟨q4, hq4⟩ := Option.isSome_iff_exists.1 (HT 4 (by omega)).1
        have hz4 := (HT 4 (by omega)).2
        simp only [Nat.add_zero] at hq0 hz0 hq1 hz1 hq2 hz2 hq3 hz3 hq4 hz4
        clear HT
        go_wp2
        have hp0 := hown.stored (j * 5 + 0) (.int .i64 (k + (j : Int) * 5))
        simp only [Nat.add_zero] at hp0
        have hp1 := hp0.1.stored (j * 5 + 1) (.int .i64 ((k + (j : Int) * 5) + 1))
        have hp2 := hp1.1.stored (j * 5 + 2) (.int .i64 ((k + (j : Int) * 5) + 1 + 1))
        have hp3 := hp2.1.stored (j * 5 + 3) (.int .i64 ((k + (j : Int) * 5) + 1 + 1 + 1))
        have hp4 := hp3.1.stored (j * 5 + 4) (.int .i64 ((k + (j : Int) * 5) + 1 + 1 + 1 + 1))
        have hgE := (grown_trans (grown_trans (grown_trans (grown_trans (grown_trans hgr hp0.2) hp1.2) hp2.2) hp3.2) hp4.2)
        have hoE := hp4.1
        have hsp : (((((C.set (j * 5) (.int .i64 (k + (j : Int) * 5))).set (j * 5 + 1) (.int .i64 ((k + (j : Int) * 5) + 1))).set (j * 5 + 2) (.int .i64 ((k + (j : Int) * 5) + 1 + 1))).set (j * 5 + 3) (.int .i64 ((k + (j : Int) * 5) + 1 + 1 + 1))).set (j * 5 + 4) (.int .i64 ((k + (j : Int) * 5) + 1 + 1 + 1 + 1))) = splice C (j * 5) (PtrD.cells (mkPtr (k + (j : Int) * 5))) := by
          show _ = splice C (j * 5) [.int .i64 (k + (j : Int) * 5), .int .i64 ((k + (j : Int) * 5) + 1), .int .i64 ((k + (j : Int) * 5) + 1 + 1), .int .i64 ((k + (j : Int) * 5) + 1 + 1 + 1), .int .i64 ((k + (j : Int) * 5) + 1 + 1 + 1 + 1)]
          rw [← splice_cons _ (j * 5) _ _ (by simp; omega)]
          rw [← splice_cons _ (j * 5 + 1) _ _ (by simp; omega)]
          rw [← splice_cons _ (j * 5 + 1 + 1) _ _ (by simp; omega)]
          rw [← splice_cons _ (j * 5 + 1 + 1 + 1) _ _ (by simp; omega)]
          rw [splice_one _ _ _ (by simp; omega)]
        rw [hsp] at hoE
        have hf3 := FillC.next PtrD.cells_len (marks_len mkPtr 5 k len) hx.out hcs.out hoE
        go_roundw
        case rel => exact ⟨j + 1, by omega, by go_num, by go_num, hf3, hgE⟩
        case measure => simp [intOf]; omega
      · have hk' : j = len := by omega
        subst hk'
        have hfd := FillC.done hf hml
        rw [hml] at hfd
        go_wp2
        go_ret
        exact ⟨rfl, hfd, hgr⟩
theorem markPtrS_zero (ao : Option Addr) (cap : Nat) (k : Int) (w : World) :
    Calls Tryz.prog 32 #[.slice ao 0 cap, .int .i64 k] w fun e w' => e = .returned (.int .i64 k) ∧ w = w' := by
  go_enter Tryz.func32, Tryz.ntmps32
  go_wp2
  go_loop [1, 5] (fun k' i => i = .int .i64 0 ∧ k' = .int .i64 k) (fun _ _ => 0)
  case atStart => exact ⟨rfl, rfl⟩
  case round =>
    obtain ⟨rfl, rfl⟩ := hrel
    go_wp2
    go_ret
    exact ⟨rfl, rfl⟩
theorem markPtrS_r (ao : Option Addr) (cap : Nat) (B B1 : Nat) (xs : List PtrD) (k : Int) (w : World) (hk0 : 0 < k) (hk1 : k ≤ 1000000000000) (hlen : xs.length ≤ 1048576) (h : RowO PtrD.cells 5 35 w B B1 (.slice ao xs.length cap) xs) :
    Calls Tryz.prog 32 #[.slice ao xs.length cap, .int .i64 k] w fun e w' => e = .returned (.int .i64 (k + (xs.length : Int) * 5)) ∧ RowO PtrD.cells 5 35 w' B B1 (.slice ao xs.length cap) (marks mkPtr 5 k xs.length) ∧ w.grownBy w' (Value.rowBlock (.slice ao xs.length cap)) := by
  have hlt := h.lt
  obtain ⟨ao', cap', hv, hc, hg⟩ := h
  simp only [Value.slice.injEq, true_and] at hv
  obtain ⟨rfl, rfl⟩ := hv
  by_cases hpos : 0 < xs.length
  · rcases hc with ⟨_, hx⟩ | hown
    · rw [hx] at hpos; exact absurd hpos (Nat.lt_irrefl _)
    · obtain ⟨ao', cap', hv, hcl, _, _⟩ := owns_slice hown
      simp only [Value.slice.injEq, true_and] at hv
      obtain ⟨rfl, rfl⟩ := hv
      refine (markPtrS_any ao xs.length cap B _ k w hk0 hk1 hlen hpos hown).mono ?_
      rintro e w' ⟨rfl, h1, h2⟩
      rw [rowBlock_pos (by omega)]
      refine ⟨rfl, ⟨ao, cap, by rw [marks_len], .inr (by rw [marks_len]; exact h1), hg⟩, h2⟩
  · have hx : xs = [] := List.length_eq_zero_iff.1 (by omega)
    subst hx
    refine (markPtrS_zero ao cap k w).mono ?_
    rintro e w' ⟨rfl, rfl⟩
    refine ⟨by simp, ⟨ao, cap, by rw [marks_len], ?_, hg⟩, grown_refl _ _⟩
    rcases hc with ⟨h0, _⟩ | h0
    · exact .inl ⟨h0, rfl⟩
    · right
      rw [marks_len]
      simpa [marks] using h0
theorem heldPtrS_any (ao : Option Addr) (len cap : Nat) (k : Int) (w : World) (hk0 : 0 < k) (hk1 : k ≤ 1000000000000) (hlen : len ≤ 1048576) (hr : Rd PtrD.cells 5 w ao len (marks mkPtr 5 k len)) :
    Calls Tryz.prog 35 #[.slice ao len cap, .int .i64 k] w fun e w' => e = .returned (.int .i64 (k + (len : Int) * 5)) ∧ Below w.heap.size w w' := by
  go_enter Tryz.func35, Tryz.ntmps35
  go_wp2
  go_loopw [1, 5] (fun k' i wr => ∃ j : Nat, j ≤ len ∧ i = .int .i64 j ∧ k' = .int .i64 (k + (j : Int) * 5) ∧ Below w.heap.size w wr) (fun _ i _ => len - (intOf i).toNat)
  case atStart => exact ⟨0, Nat.zero_le _, rfl, by simp, Below.refl _ _⟩
  case round =>
    obtain ⟨j, hj, rfl, rfl, hb⟩ := hrel
    by_cases hlt : j < len
    · obtain ⟨b, off, x, hx0, rfl, hbl, hrg⟩ := hr.at_ j (by rw [hr.len]; exact hlt)
      obtain rfl := Option.some.inj (hx0.symm.trans (marks_get mkPtr 5 k len j hlt))
      clear hx0
      have hrg2 := rangeAt_below hrg hb hbl
      have hbl2 : b < wr.heap.size := Nat.lt_of_lt_of_le hbl hb.size
      have c0 : wr.cell? ⟨b, off + j * 5, none⟩ = some (.int .i64 (k + (j : Int) * 5)) := hrg2 0 _ rfl
      have c1 : wr.cell? ⟨b, off + j * 5 + 1, none⟩ = some (.int .i64 ((k + (j : Int) * 5) + 1)) := hrg2 1 _ rfl
      have c2 : wr.cell? ⟨b, off + j * 5 + 2, none⟩ = some (.int .i64 ((k + (j : Int) * 5) + 1 + 1)) := hrg2 2 _ rfl
      have c3 : wr.cell? ⟨b, off + j * 5 + 3, none⟩ = some (.int .i64 ((k + (j : Int) * 5) + 1 + 1 + 1)) := hrg2 3 _ rfl
      have c4 : wr.cell? ⟨b, off + j * 5 + 4, none⟩ = some (.int .i64 ((k + (j : Int) * 5) + 1 + 1 + 1 + 1)) := hrg2 4 _ rfl
      clear hrg hrg2
      go_wp2
      go_roundw
      case rel => exact ⟨j + 1, by omega, by go_num, by go_num, hb⟩
      case measure => simp [intOf]; omega
    · have hk' : j = len := by omega
      subst hk'
      go_wp2
      go_ret
      exact ⟨rfl, hb⟩
open Go.RowKit
def StoreD.marked (x : StoreD) (k : Int) : StoreD := { fRows := marks markT 1 (k) x.fRows.length, fSpace := { fRefs := marks mkI 1 (k + (x.fRows.length : Int) * 1) x.fSpace.fRefs.length, fLast := marks mkI 1 (k + (x.fRows.length : Int) * 1 + (x.fSpace.fRefs.length : Int) * 1) x.fSpace.fLast.length }, fTxg := x.fTxg, fGone := marks mkPtr 5 (k + (x.fRows.length : Int) * 1 + (x.fSpace.fRefs.length : Int) * 1 + (x.fSpace.fLast.length : Int) * 1) x.fGone.length, fKeep := x.fKeep, fDead := marks mkPtr 5 (k + (x.fRows.length : Int) * 1 + (x.fSpace.fRefs.length : Int) * 1 + (x.fSpace.fLast.length : Int) * 1 + (x.fGone.length : Int) * 5) x.fDead.length, fSame := x.fSame }
def StoreD.past (x : StoreD) (k : Int) : Int := k + (x.fRows.length : Int) * 1 + (x.fSpace.fRefs.length : Int) * 1 + (x.fSpace.fLast.length : Int) * 1 + (x.fGone.length : Int) * 5 + (x.fDead.length : Int) * 5
theorem markStore_x (a0 : Option Addr) (c0 : Nat) (a1 : Option Addr) (c1 : Nat) (a2 : Option Addr) (c2 : Nat) (a4 : Option Addr) (c4 : Nat) (a6 : Option Addr) (c6 : Nat) (x : StoreD) (B B1 : Nat) (k : Int) (w : World) (hk0 : 0 < k) (hk1 : k ≤ 1000000000) (hf : x.Fit) (r0 : RowO encS 1 9 w B B1 (.slice a0 x.fRows.length c0) x.fRows) (r1 : RowO encI 1 3 w B B1 (.slice a1 x.fSpace.fRefs.length c1) x.fSpace.fRefs) (r2 : RowO encI 1 3 w B B1 (.slice a2 x.fSpace.fLast.length c2) x.fSpace.fLast) (r4 : RowO PtrD.cells 5 35 w B B1 (.slice a4 x.fGone.length c4) x.fGone) (r6 : RowO PtrD.cells 5 35 w B B1 (.slice a6 x.fDead.length c6) x.fDead) (p0_1 : Apart (.slice a0 x.fRows.length c0) (.slice a1 x.fSpace.fRefs.length c1)) (p0_2 : Apart (.slice a0 x.fRows.length c0) (.slice a2 x.fSpace.fLast.length c2)) (p0_4 : Apart (.slice a0 x.fRows.length c0) (.slice a4 x.fGone.length c4)) (p0_6 : Apart (.slice a0 x.fRows.length c0) (.slice a6 x.fDead.length c6)) (p1_2 : Apart (.slice a1 x.fSpace.fRefs.length c1) (.slice a2 x.fSpace.fLast.length c2)) (p1_4 : Apart (.slice a1 x.fSpace.fRefs.length c1) (.slice a4 x.fGone.length c4)) (p1_6 : Apart (.slice a1 x.fSpace.fRefs.length c1) (.slice a6 x.fDead.length c6)) (p2_4 : Apart (.slice a2 x.fSpace.fLast.length c2) (.slice a4 x.fGone.length c4)) (p2_6 : Apart (.slice a2 x.fSpace.fLast.length c2) (.slice a6 x.fDead.length c6)) (p4_6 : Apart (.slice a4 x.fGone.length c4) (.slice a6 x.fDead.length c6)) (hB : B1 ≤ w.heap.size) :
    Calls Tryz.prog 11 #[.agg #[.slice a0 x.fRows.length c0, .slice a1 x.fSpace.fRefs.length c1, .slice a2 x.fSpace.fLast.length c2, .int .i64 x.fTxg, .slice a4 x.fGone.length c4, .int .i64 x.fKeep, .slice a6 x.fDead.length c6, .bool x.fSame], .int .i64 k] w fun e w' => e = .returned (.int .i64 (k + (x.fRows.length : Int) * 1 + (x.fSpace.fRefs.length : Int) * 1 + (x.fSpace.fLast.length : Int) * 1 + (x.fGone.length : Int) * 5 + (x.fDead.length : Int) * 5)) ∧ RowO encS 1 9 w' B B1 (.slice a0 x.fRows.length c0) (marks markT 1 (k) x.fRows.length) ∧ RowO encI 1 3 w' B B1 (.slice a1 x.fSpace.fRefs.length c1) (marks mkI 1 (k + (x.fRows.length : Int) * 1) x.fSpace.fRefs.length) ∧ RowO encI 1 3 w' B B1 (.slice a2 x.fSpace.fLast.length c2) (marks mkI 1 (k + (x.fRows.length : Int) * 1 + (x.fSpace.fRefs.length : Int) * 1) x.fSpace.fLast.length) ∧ RowO PtrD.cells 5 35 w' B B1 (.slice a4 x.fGone.length c4) (marks mkPtr 5 (k + (x.fRows.length : Int) * 1 + (x.fSpace.fRefs.length : Int) * 1 + (x.fSpace.fLast.length : Int) * 1) x.fGone.length) ∧ RowO PtrD.cells 5 35 w' B B1 (.slice a6 x.fDead.length c6) (marks mkPtr 5 (k + (x.fRows.length : Int) * 1 + (x.fSpace.fRefs.length : Int) * 1 + (x.fSpace.fLast.length : Int) * 1 + (x.fGone.length : Int) * 5) x.fDead.length) ∧ GrownAll [.slice a0 x.fRows.length c0, .slice a1 x.fSpace.fRefs.length c1, .slice a2 x.fSpace.fLast.length c2, .slice a4 x.fGone.length c4, .slice a6 x.fDead.length c6] w w' := by
  have hO0 : GrownAll [.slice a0 x.fRows.length c0, .slice a1 x.fSpace.fRefs.length c1, .slice a2 x.fSpace.fLast.length c2, .slice a4 x.fGone.length c4, .slice a6 x.fDead.length c6] w (w.alloc (.cells #[.slice a0 x.fRows.length c0, .slice a1 x.fSpace.fRefs.length c1, .slice a2 x.fSpace.fLast.length c2, .int .i64 x.fTxg, .slice a4 x.fGone.length c4, .int .i64 x.fKeep, .slice a6 x.fDead.length c6, .bool x.fSame] 33)) := GrownAll.alloc _ _ _
  have hne0 : Value.rowBlock (.slice a0 x.fRows.length c0) ≠ some w.heap.size := fun e => by have := (r0.lt _ e).2.1; omega
  have hne1 : Value.rowBlock (.slice a1 x.fSpace.fRefs.length c1) ≠ some w.heap.size := fun e => by have := (r1.lt _ e).2.1; omega
  have hne2 : Value.rowBlock (.slice a2 x.fSpace.fLast.length c2) ≠ some w.heap.size := fun e => by have := (r2.lt _ e).2.1; omega
  have hne4 : Value.rowBlock (.slice a4 x.fGone.length c4) ≠ some w.heap.size := fun e => by have := (r4.lt _ e).2.1; omega
  have hne6 : Value.rowBlock (.slice a6 x.fDead.length c6) ≠ some w.heap.size := fun e => by have := (r6.lt _ e).2.1; omega
  have hA0 := blk_new w (.cells #[.slice a0 x.fRows.length c0, .slice a1 x.fSpace.fRefs.length c1, .slice a2 x.fSpace.fLast.length c2, .int .i64 x.fTxg, .slice a4 x.fGone.length c4, .int .i64 x.fKeep, .slice a6 x.fDead.length c6, .bool x.fSame] 33) _ rfl
  have r0 := r0.below ((Below.refl w.heap.size w).alloc (Nat.le_refl _) (.cells #[.slice a0 x.fRows.length c0, .slice a1 x.fSpace.fRefs.length c1, .slice a2 x.fSpace.fLast.length c2, .int .i64 x.fTxg, .slice a4 x.fGone.length c4, .int .i64 x.fKeep, .slice a6 x.fDead.length c6, .bool x.fSame] 33)) (Nat.le_refl _)
  have r1 := r1.below ((Below.refl w.heap.size w).alloc (Nat.le_refl _) (.cells #[.slice a0 x.fRows.length c0, .slice a1 x.fSpace.fRefs.length c1, .slice a2 x.fSpace.fLast.length c2, .int .i64 x.fTxg, .slice a4 x.fGone.length c4, .int .i64 x.fKeep, .slice a6 x.fDead.length c6, .bool x.fSame] 33)) (Nat.le_refl _)
  have r2 := r2.below ((Below.refl w.heap.size w).alloc (Nat.le_refl _) (.cells #[.slice a0 x.fRows.length c0, .slice a1 x.fSpace.fRefs.length c1, .slice a2 x.fSpace.fLast.length c2, .int .i64 x.fTxg, .slice a4 x.fGone.length c4, .int .i64 x.fKeep, .slice a6 x.fDead.length c6, .bool x.fSame] 33)) (Nat.le_refl _)
  have r4 := r4.below ((Below.refl w.heap.size w).alloc (Nat.le_refl _) (.cells #[.slice a0 x.fRows.length c0, .slice a1 x.fSpace.fRefs.length c1, .slice a2 x.fSpace.fLast.length c2, .int .i64 x.fTxg, .slice a4 x.fGone.length c4, .int .i64 x.fKeep, .slice a6 x.fDead.length c6, .bool x.fSame] 33)) (Nat.le_refl _)
  have r6 := r6.below ((Below.refl w.heap.size w).alloc (Nat.le_refl _) (.cells #[.slice a0 x.fRows.length c0, .slice a1 x.fSpace.fRefs.length c1, .slice a2 x.fSpace.fLast.length c2, .int .i64 x.fTxg, .slice a4 x.fGone.length c4, .int .i64 x.fKeep, .slice a6 x.fDead.length c6, .bool x.fSame] 33)) (Nat.le_refl _)
  go_enter Tryz.func11, Tryz.ntmps11
  go_wp2_with fail
  obtain ⟨k1, hk1⟩ : ∃ z : Int, z = k + (x.fRows.length : Int) * 1 := ⟨_, rfl⟩
  have hbk1 : 0 < k1 ∧ k1 ≤ k + 10000000 := by
    rw [hk1]
    have := hf.f0
    omega
  have Hk1 := Lib.hid hk1
  clear hk1
  obtain ⟨hbk1a, hbk1b⟩ := hbk1
  refine (markStringS_r _ _ _ _ _ _ _ (by omega) (by omega) hf.f0 r0).mono ?_
  rintro e w1 ⟨rfl, on0, hg1⟩
  have hq1 := GrownAll.one hg1
  have r1 := r1.grown hg1 (p0_1).symm
  have r2 := r2.grown hg1 (p0_2).symm
  have r4 := r4.grown hg1 (p0_4).symm
  have r6 := r6.grown hg1 (p0_6).symm
  clear r0
  have r0 := on0
  clear on0 hg1
  have hA1 := blk_all hA0 hq1 (all1 hne0)
  have hO1 := hO0.trans (hq1.mono (by simp))
  clear hq1 hA0 hO0
  rw [← Hk1.out]
  have pa1 : w1.cell? ⟨w.heap.size, 1, none⟩ = some (.slice a1 x.fSpace.fRefs.length c1) := blk_cell hA1 1
  have pa2 : w1.cell? ⟨w.heap.size, 2, none⟩ = some (.slice a2 x.fSpace.fLast.length c2) := blk_cell hA1 2
  go_wp2_with fail
  obtain ⟨k2, hk2⟩ : ∃ z : Int, z = k1 + (x.fSpace.fRefs.length : Int) * 1 + (x.fSpace.fLast.length : Int) * 1 := ⟨_, rfl⟩
  have hbk2 : 0 < k2 ∧ k2 ≤ k1 + 20000000 := by
    rw [hk2]
    have := hf.f1
    have := hf.f2
    omega
  have Hk2 := Lib.hid hk2
  clear hk2
  obtain ⟨hbk2a, hbk2b⟩ := hbk2
  refine (markSpace_x _ _ _ _ x.fSpace B B1 _ _ (by omega) (by omega) ⟨hf.f1, hf.f2⟩ r1 r2 p1_2 ?_).mono ?_
  · have := hO1.size; omega
  rintro e w2 ⟨rfl, rn1, rn2, hq2⟩
  have r0 := r0.all hq2 (all2 p0_1 p0_2)
  have r4 := r4.all hq2 (all2 (p1_4).symm (p2_4).symm)
  have r6 := r6.all hq2 (all2 (p1_6).symm (p2_6).symm)
  clear r1
  have r1 := rn1
  clear rn1
  clear r2
  have r2 := rn2
  clear rn2
  have hA2 := blk_all hA1 hq2 (all2 hne1 hne2)
  have hO2 := hO1.trans (hq2.mono (by simp))
  clear hq2 hA1 hO1
  rw [← Hk2.out]
  clear pa1 pa2
  have pa4 : w2.cell? ⟨w.heap.size, 4, none⟩ = some (.slice a4 x.fGone.length c4) := blk_cell hA2 4
  go_wp2_with fail
  obtain ⟨k3, hk3⟩ : ∃ z : Int, z = k2 + (x.fGone.length : Int) * 5 := ⟨_, rfl⟩
  have hbk3 : 0 < k3 ∧ k3 ≤ k2 + 10000000 := by
    rw [hk3]
    have := hf.f4
    omega
  have Hk3 := Lib.hid hk3
  clear hk3
  obtain ⟨hbk3a, hbk3b⟩ := hbk3
  refine (markPtrS_r _ _ _ _ _ _ _ (by omega) (by omega) hf.f4 r4).mono ?_
  rintro e w3 ⟨rfl, on4, hg3⟩
  have hq3 := GrownAll.one hg3
  have r0 := r0.grown hg3 p0_4
  have r1 := r1.grown hg3 p1_4
  have r2 := r2.grown hg3 p2_4
  have r6 := r6.grown hg3 (p4_6).symm
  clear r4
  have r4 := on4
  clear on4 hg3
  have hA3 := blk_all hA2 hq3 (all1 hne4)
  have hO3 := hO2.trans (hq3.mono (by simp))
  clear hq3 hA2 hO2
  rw [← Hk3.out]
  clear pa4
  have pa6 : w3.cell? ⟨w.heap.size, 6, none⟩ = some (.slice a6 x.fDead.length c6) := blk_cell hA3 6
  go_wp2_with fail
  obtain ⟨k4, hk4⟩ : ∃ z : Int, z = k3 + (x.fDead.length : Int) * 5 := ⟨_, rfl⟩
  have hbk4 : 0 < k4 ∧ k4 ≤ k3 + 10000000 := by
    rw [hk4]
    have := hf.f6
    omega
  have Hk4 := Lib.hid hk4
  clear hk4
  obtain ⟨hbk4a, hbk4b⟩ := hbk4
  refine (markPtrS_r _ _ _ _ _ _ _ (by omega) (by omega) hf.f6 r6).mono ?_
  rintro e w4 ⟨rfl, on6, hg4⟩
  have hq4 := GrownAll.one hg4
  have r0 := r0.grown hg4 p0_6
  have r1 := r1.grown hg4 p1_6
  have r2 := r2.grown hg4 p2_6
  have r4 := r4.grown hg4 p4_6
  clear r6
  have r6 := on6
  clear on6 hg4
  have hA4 := blk_all hA3 hq4 (all1 hne6)
  have hO4 := hO3.trans (hq4.mono (by simp))
  clear hq4 hA3 hO3
  rw [← Hk4.out]
  clear pa6
  go_wp2
  go_ret
  obtain rfl := Hk1.out
  obtain rfl := Hk2.out
  obtain rfl := Hk3.out
  obtain rfl := Hk4.out
  exact ⟨rfl, r0, r1, r2, r4, r6, hO4⟩
theorem markStore_any (v : Value) (x : StoreD) (B B1 : Nat) (k : Int) (w : World) (hk0 : 0 < k) (hk1 : k ≤ 1000000000) (hf : x.Fit) (ho : StoreD.Own w B B1 v x) (hB : B1 ≤ w.heap.size) :
    Calls Tryz.prog 11 #[v, .int .i64 k] w fun e w' => e = .returned (.int .i64 (x.past k)) ∧ StoreD.Own w' B B1 v (x.marked k) ∧ Outside B B1 w w' := by
  obtain ⟨a0, c0, a1, c1, a2, c2, a4, c4, a6, c6, rfl, r0, r1, r2, r4, r6, p0_1, p0_2, p0_4, p0_6, p1_2, p1_4, p1_6, p2_4, p2_6, p4_6⟩ := ho
  refine (markStore_x a0 c0 a1 c1 a2 c2 a4 c4 a6 c6 x B B1 k w hk0 hk1 hf r0 r1 r2 r4 r6 p0_1 p0_2 p0_4 p0_6 p1_2 p1_4 p1_6 p2_4 p2_6 p4_6 hB).mono ?_
  rintro e w' ⟨rfl, q0, q1, q2, q4, q6, hO⟩
  have hO := hO.outside (B := B) (B1 := B1) (all5 (fun g h => ⟨(r0.lt g h).1, (r0.lt g h).2.1⟩) (fun g h => ⟨(r1.lt g h).1, (r1.lt g h).2.1⟩) (fun g h => ⟨(r2.lt g h).1, (r2.lt g h).2.1⟩) (fun g h => ⟨(r4.lt g h).1, (r4.lt g h).2.1⟩) (fun g h => ⟨(r6.lt g h).1, (r6.lt g h).2.1⟩))
  refine ⟨rfl, ⟨a0, c0, a1, c1, a2, c2, a4, c4, a6, c6, by simp only [StoreD.marked, marks_len], ?_, ?_, ?_, ?_, ?_, ?_, ?_, ?_, ?_, ?_, ?_, ?_, ?_, ?_, ?_⟩, hO⟩
  · simp only [StoreD.marked, marks_len]; exact q0
  · simp only [StoreD.marked, marks_len]; exact q1
  · simp only [StoreD.marked, marks_len]; exact q2
  · simp only [StoreD.marked, marks_len]; exact q4
  · simp only [StoreD.marked, marks_len]; exact q6
  · simp only [StoreD.marked, marks_len]; exact p0_1
  · simp only [StoreD.marked, marks_len]; exact p0_2
  · simp only [StoreD.marked, marks_len]; exact p0_4
  · simp only [StoreD.marked, marks_len]; exact p0_6
  · simp only [StoreD.marked, marks_len]; exact p1_2
  · simp only [StoreD.marked, marks_len]; exact p1_4
  · simp only [StoreD.marked, marks_len]; exact p1_6
  · simp only [StoreD.marked, marks_len]; exact p2_4
  · simp only [StoreD.marked, marks_len]; exact p2_6
  · simp only [StoreD.marked, marks_len]; exact p4_6
theorem heldStore_x (a0 : Option Addr) (c0 : Nat) (a1 : Option Addr) (c1 : Nat) (a2 : Option Addr) (c2 : Nat) (a4 : Option Addr) (c4 : Nat) (a6 : Option Addr) (c6 : Nat) (x : StoreD) (k : Int) (w : World) (hk0 : 0 < k) (hk1 : k ≤ 1000000000) (hf : x.Fit) (r0 : Rd encS 1 w a0 x.fRows.length (marks markT 1 (k) x.fRows.length)) (r1 : Rd encI 1 w a1 x.fSpace.fRefs.length (marks mkI 1 (k + (x.fRows.length : Int) * 1) x.fSpace.fRefs.length)) (r2 : Rd encI 1 w a2 x.fSpace.fLast.length (marks mkI 1 (k + (x.fRows.length : Int) * 1 + (x.fSpace.fRefs.length : Int) * 1) x.fSpace.fLast.length)) (r4 : Rd PtrD.cells 5 w a4 x.fGone.length (marks mkPtr 5 (k + (x.fRows.length : Int) * 1 + (x.fSpace.fRefs.length : Int) * 1 + (x.fSpace.fLast.length : Int) * 1) x.fGone.length)) (r6 : Rd PtrD.cells 5 w a6 x.fDead.length (marks mkPtr 5 (k + (x.fRows.length : Int) * 1 + (x.fSpace.fRefs.length : Int) * 1 + (x.fSpace.fLast.length : Int) * 1 + (x.fGone.length : Int) * 5) x.fDead.length)) :
    Calls Tryz.prog 12 #[.agg #[.slice a0 x.fRows.length c0, .slice a1 x.fSpace.fRefs.length c1, .slice a2 x.fSpace.fLast.length c2, .int .i64 x.fTxg, .slice a4 x.fGone.length c4, .int .i64 x.fKeep, .slice a6 x.fDead.length c6, .bool x.fSame], .int .i64 k] w fun e w' => e = .returned (.int .i64 (k + (x.fRows.length : Int) * 1 + (x.fSpace.fRefs.length : Int) * 1 + (x.fSpace.fLast.length : Int) * 1 + (x.fGone.length : Int) * 5 + (x.fDead.length : Int) * 5)) ∧ Below w.heap.size w w' := by
  have hb0 : Below w.heap.size w (w.alloc (.cells #[.slice a0 x.fRows.length c0, .slice a1 x.fSpace.fRefs.length c1, .slice a2 x.fSpace.fLast.length c2, .int .i64 x.fTxg, .slice a4 x.fGone.length c4, .int .i64 x.fKeep, .slice a6 x.fDead.length c6, .bool x.fSame] 33)) := (Below.refl _ _).alloc (Nat.le_refl _) _
  have hA0 := blk_new w (.cells #[.slice a0 x.fRows.length c0, .slice a1 x.fSpace.fRefs.length c1, .slice a2 x.fSpace.fLast.length c2, .int .i64 x.fTxg, .slice a4 x.fGone.length c4, .int .i64 x.fKeep, .slice a6 x.fDead.length c6, .bool x.fSame] 33) _ rfl
  obtain ⟨k1, hk1⟩ : ∃ z : Int, z = k + (x.fRows.length : Int) * 1 := ⟨_, rfl⟩
  have hbk1 : 0 < k1 ∧ k1 ≤ k + 10000000 := by
    rw [hk1]
    have := hf.f0
    omega
  rw [← hk1] at r1 r2 r4 r6
  have Hk1 := Lib.hid hk1
  clear hk1
  obtain ⟨hbk1a, hbk1b⟩ := hbk1
  obtain ⟨k2, hk2⟩ : ∃ z : Int, z = k1 + (x.fSpace.fRefs.length : Int) * 1 + (x.fSpace.fLast.length : Int) * 1 := ⟨_, rfl⟩
  have hbk2 : 0 < k2 ∧ k2 ≤ k1 + 20000000 := by
    rw [hk2]
    have := hf.f1
    have := hf.f2
    omega
  rw [← hk2] at r4 r6
  have Hk2 := Lib.hid hk2
  clear hk2
  obtain ⟨hbk2a, hbk2b⟩ := hbk2
  obtain ⟨k3, hk3⟩ : ∃ z : Int, z = k2 + (x.fGone.length : Int) * 5 := ⟨_, rfl⟩
  have hbk3 : 0 < k3 ∧ k3 ≤ k2 + 10000000 := by
    rw [hk3]
    have := hf.f4
    omega
  rw [← hk3] at r6
  have Hk3 := Lib.hid hk3
  clear hk3
  obtain ⟨hbk3a, hbk3b⟩ := hbk3
  obtain ⟨k4, hk4⟩ : ∃ z : Int, z = k3 + (x.fDead.length : Int) * 5 := ⟨_, rfl⟩
  have hbk4 : 0 < k4 ∧ k4 ≤ k3 + 10000000 := by
    rw [hk4]
    have := hf.f6
    omega
  have Hk4 := Lib.hid hk4
  clear hk4
  obtain ⟨hbk4a, hbk4b⟩ := hbk4
  go_enter Tryz.func12, Tryz.ntmps12
  go_wp2_with fail
  refine (heldStringS_any _ _ _ _ _ (by omega) (by omega) hf.f0 (r0.below hb0)).mono ?_
  rintro e w1 ⟨rfl, b1⟩
  rw [← Hk1.out]
  have hA1 := blk_below hA0 b1 (Nat.le_refl _)
  have hb1 := hb0.trans (b1.mono hb0.size)
  clear b1 hA0
  have pa1 : w1.cell? ⟨w.heap.size, 1, none⟩ = some (.slice a1 x.fSpace.fRefs.length c1) := blk_cell hA1 1
  have pa2 : w1.cell? ⟨w.heap.size, 2, none⟩ = some (.slice a2 x.fSpace.fLast.length c2) := blk_cell hA1 2
  go_wp2_with fail
  refine (heldSpace_x _ _ _ _ x.fSpace _ _ (by omega) (by omega) ⟨hf.f1, hf.f2⟩ (r1.below hb1) (r2.below hb1)).mono ?_
  rintro e w2 ⟨rfl, b2⟩
  rw [← Hk2.out]
  have hA2 := blk_below hA1 b2 (Nat.le_refl _)
  have hb2 := hb1.trans (b2.mono hb1.size)
  clear b2 hA1
  clear pa1 pa2
  have pa4 : w2.cell? ⟨w.heap.size, 4, none⟩ = some (.slice a4 x.fGone.length c4) := blk_cell hA2 4
  go_wp2_with fail
  refine (heldPtrS_any _ _ _ _ _ (by omega) (by omega) hf.f4 (r4.below hb2)).mono ?_
  rintro e w3 ⟨rfl, b3⟩
  rw [← Hk3.out]
  have hA3 := blk_below hA2 b3 (Nat.le_refl _)
  have hb3 := hb2.trans (b3.mono hb2.size)
  clear b3 hA2
  clear pa4
  have pa6 : w3.cell? ⟨w.heap.size, 6, none⟩ = some (.slice a6 x.fDead.length c6) := blk_cell hA3 6
  go_wp2_with fail
  refine (heldPtrS_any _ _ _ _ _ (by omega) (by omega) hf.f6 (r6.below hb3)).mono ?_
  rintro e w4 ⟨rfl, b4⟩
  rw [← Hk4.out]
  have hA4 := blk_below hA3 b4 (Nat.le_refl _)
  have hb4 := hb3.trans (b4.mono hb3.size)
  clear b4 hA3
  clear pa6
  go_wp2
  go_ret
  obtain rfl := Hk1.out
  obtain rfl := Hk2.out
  obtain rfl := Hk3.out
  obtain rfl := Hk4.out
  exact ⟨rfl, hb4⟩
theorem heldStore_any (v : Value) (x : StoreD) (k : Int) (w : World) (hk0 : 0 < k) (hk1 : k ≤ 1000000000) (hf : x.Fit) (hr : StoreD.Reads w v (x.marked k)) :
    Calls Tryz.prog 12 #[v, .int .i64 k] w fun e w' => e = .returned (.int .i64 (x.past k)) ∧ Below w.heap.size w w' := by
  obtain ⟨a0, c0, a1, c1, a2, c2, a4, c4, a6, c6, rfl, r0, r1, r2, r4, r6⟩ := hr
  simp only [StoreD.marked, marks_len] at r0 r1 r2 r4 r6 ⊢
  exact heldStore_x a0 c0 a1 c1 a2 c2 a4 c4 a6 c6 x k w hk0 hk1 hf r0 r1 r2 r4 r6
open Go.RowKit
theorem specStoreOk_any (v : Value) (st : StoreD) (w : World) (hr : StoreD.Reads w v st) (hf : st.Fit) (hi : -9223372036854775808 ≤ st.fTxg) :
    Calls Tryz.prog 20 #[v] w fun e w' => e = .returned (.bool st.ok) ∧ Below w.heap.size w w' := by
  cases h : (st.fRows.length == 64 && (st.fSpace.ok && (inB st.fTxg 1 900 && inB st.fKeep 0 (st.fTxg - 1))))
  · have : st.ok = false := by
      unfold StoreD.ok
      simp only [Bool.and_eq_false_iff] at h ⊢
      rcases h with h | h | h | h <;> simp [h]
    rw [this]
    exact specStoreOk_no v st w hr hf hi h
  · simp only [Bool.and_eq_true, beq_iff_eq] at h
    exact specStoreOk_yes v st w hr hf h.1 h.2.1 h.2.2.1 h.2.2.2
theorem cells_store (a0 : Option Addr) (n0 c0 : Nat) (a1 : Option Addr) (n1 c1 : Nat) (a2 : Option Addr) (n2 c2 : Nat) (t : Int) (a4 : Option Addr) (n4 c4 : Nat) (k : Int) (a6 : Option Addr) (n6 c6 : Nat) (s : Bool) : Cells 8 (.agg #[.slice a0 n0 c0, .slice a1 n1 c1, .slice a2 n2 c2, .int .i64 t, .slice a4 n4 c4, .int .i64 k, .slice a6 n6 c6, .bool s]) :=
  ⟨[.slice a0 n0 c0, .slice a1 n1 c1, .slice a2 n2 c2, .int .i64 t, .slice a4 n4 c4, .int .i64 k, .slice a6 n6 c6, .bool s], rfl, rfl, fun u hu => List.all_eq_true.1 (show List.all _ (fun u => u.oneCell') = true from rfl) u hu⟩
theorem StoreD.Own.cells {w : World} {B B1 : Nat} {v : Value} {x : StoreD} (h : StoreD.Own w B B1 v x) : Cells 8 v := by
  obtain ⟨a0, c0, a1, c1, a2, c2, a4, c4, a6, c6, rfl, _⟩ := h
  exact cells_store _ _ _ _ _ _ _ _ _ _ _ _ _ _ _ _ _ _
open Go.RowKit
theorem Apart.grown {a v v' : Value} {m : Nat} (h : Apart a v) (hn : ∀ g, Value.rowBlock v' = some g → Value.rowBlock v = some g ∨ m ≤ g) (ha : ∀ g, Value.rowBlock a = some g → g < m) : Apart a v' := by
  unfold Apart at h ⊢
  cases hr : Value.rowBlock a with
  | none => exact .inl rfl
  | some g =>
    right
    intro e
    rw [hr] at h
    rcases hn g e.symm with h1 | h1
    · rcases h with h | h
      · cases h
      · exact h h1.symm
    · have := ha g hr
      omega
theorem Box.grown {w w' : World} {b n : Nat} {t : TypeId} {v : Value} {row : Option Nat} (h : Box w b n t v) (hg : w.grownBy w' row) (hr : some b ≠ row) : Box w' b n t v := by
  obtain ⟨cs, e, hl, h1, hh⟩ := h
  exact ⟨cs, e, hl, h1, blk_grown hh hg hr⟩
theorem Outside.box {B B1 b : Nat} {w w2 w3 : World} (h : Outside B B1 w w2) (hO : Outside b (b + 1) w2 w3) (hb : w.heap.size ≤ b) : Outside B B1 w w3 :=
  ⟨hO.os.trans h.os, hO.tape.trans h.tape, hO.output.trans h.output, Nat.le_trans h.size hO.size, fun k hk hne => (hO.block k (Nat.lt_of_lt_of_le hk h.size) (by omega)).trans (h.block k hk hne)⟩
theorem cells_ptr (p : PtrD) : ∀ u ∈ p.cells, u.oneCell' = true := fun u hu => by
  simp only [PtrD.cells, List.mem_cons, List.not_mem_nil, or_false] at hu
  rcases hu with rfl | rfl | rfl | rfl | rfl <;> rfl
end Go.Proofs.YtdlmlagcniifjaaGreatDoor
