/- A part of the proof in YtigjfacaofgjjaaGreatDoorFtZ32. -/
import Derived.Deep.DeepCutAuto
import Derived.Test.YtigjfacaofgjjaaGreatDoorFtZ22
namespace Go.Proofs.YtigjfacaofgjjaaGreatDoor
set_option linter.unusedVariables false
set_option linter.unusedSimpArgs false
set_option maxHeartbeats 1000000
set_option maxRecDepth 100000
open Go.RowKit
theorem ZfA (s : ByteArray) (c : Bool) (h : (s.size == 0) = c) : s.toList.isEmpty = c := by
  rw [← h, ByteArray.toList_eq, Bool.eq_iff_iff, List.isEmpty_iff, beq_iff_eq];show _ ↔ s.data.size = 0;rw [← Array.length_toList, List.length_eq_zero_iff]
set_option maxHeartbeats 2000000 in
theorem Zeb (v : Value) (st : Za) (w : World) (hr : Za.Reads w v st) (hf : st.Fit)
    (_hi : -9223372036854775808 ≤ st.fTxg) (hbad : (st.fRows.length == 64 && (st.fSpace.ok && (inB st.fTxg 1 900 && inB st.fKeep 0 (st.fTxg - 1)))) = false) :
    Calls Tryz.prog 47 #[v] w fun e w' => e = .returned (.bool false) ∧ Below w.heap.size w w' := by
  obtain ⟨a0, c0, a1, c1, a2, c2, a4, c4, a6, c6, rfl, r0, r1, r2, r4, r6⟩ := hr;have hl0 := hf.f0;have hb0 : Below w.heap.size w (w.alloc (.cells #[.slice a0 st.fRows.length c0, .slice a1 st.fSpace.fRefs.length c1, .slice a2 st.fSpace.fLast.length c2, .int .i64 st.fTxg, .slice a4 st.fGone.length c4, .int .i64 st.fKeep, .slice a6 st.fDead.length c6, .bool st.fSame] 40)) := (Below.refl _ _).alloc (Nat.le_refl _) _;have hA0 := ZS w (.cells #[.slice a0 st.fRows.length c0, .slice a1 st.fSpace.fRefs.length c1, .slice a2 st.fSpace.fLast.length c2, .int .i64 st.fTxg, .slice a4 st.fGone.length c4, .int .i64 st.fKeep, .slice a6 st.fDead.length c6, .bool st.fSame] 40) _ rfl
  by_cases h0 : st.fRows.length = 64
  rotate_left
  · go_enter Tryz.func47, Tryz.ntmps47
    go_wp2
    go_ret
    exact ⟨rfl, hb0⟩
  have hl : ((st.fRows.length : Int) != 64) = false := by simp [h0]
  have HS := Lib.hid (Uu (.agg #[.slice a1 st.fSpace.fRefs.length c1, .slice a2 st.fSpace.fLast.length c2]) st.fSpace _ ⟨_, _, _, _, rfl, r1.below hb0, r2.below hb0⟩ ⟨hf.f1, hf.f2⟩);have H0 := Lib.hid h0;have HB := Lib.hid hbad;clear h0 hbad
  cases h1 : st.fSpace.ok
  · go_enter Tryz.func47, Tryz.ntmps47
    go_wp2_with fail
    refine HS.out.mono ?_;rintro e w1 ⟨rfl, b1⟩;rw [h1]
    go_wp2
    go_ret
    exact ⟨rfl, hb0.trans (b1.mono hb0.size)⟩
  · cases h2 : inB st.fTxg 1 900
    · go_enter Tryz.func47, Tryz.ntmps47
      go_wp2_with fail
      refine HS.out.mono ?_;rintro e w1 ⟨rfl, b1⟩;have hA1 := Zk hA0 b1 (Nat.le_refl _);have p3 : w1.cell? ⟨w.heap.size, 3, none⟩ = some (.int .i64 st.fTxg) := Zd hA1 3;rw [h1]
      go_wp2_with (go_at_call 82; refine (Ye _ _ _ _).mono ?_; rintro e w' ⟨rfl, rfl⟩)
      go_ret
      exact ⟨rfl, hb0.trans (b1.mono hb0.size)⟩
    · cases h3 : inB st.fKeep 0 (st.fTxg - 1)
      · have hbt := Zu h2
        go_enter Tryz.func47, Tryz.ntmps47
        go_wp2_with fail
        refine HS.out.mono ?_;rintro e w1 ⟨rfl, b1⟩;have hA1 := Zk hA0 b1 (Nat.le_refl _);have p3 : w1.cell? ⟨w.heap.size, 3, none⟩ = some (.int .i64 st.fTxg) := Zd hA1 3;have p5 : w1.cell? ⟨w.heap.size, 5, none⟩ = some (.int .i64 st.fKeep) := Zd hA1 5;rw [h1]
        go_wp2_with (go_at_call 82; refine (Ye _ _ _ _).mono ?_; rintro e w' ⟨rfl, rfl⟩)
        go_ret
        exact ⟨rfl, hb0.trans (b1.mono hb0.size)⟩
      · exact absurd HB.out (by rw [H0.out, h1, h2, h3]; simp)
set_option maxHeartbeats 2000000 in
theorem ZcF (v : Value) (st : Za) (w : World) (hr : Za.Reads w v st) (hf : st.Fit)
    (h64 : st.fRows.length = 64) (hsp : st.fSpace.ok = true) (htx : inB st.fTxg 1 900 = true) (hkp : inB st.fKeep 0 (st.fTxg - 1) = true) :
    Calls Tryz.prog 47 #[v] w fun e w' => e = .returned (.bool st.ok) ∧ Below w.heap.size w w' := by
  obtain ⟨a0, c0, a1, c1, a2, c2, a4, c4, a6, c6, rfl, r0, r1, r2, r4, r6⟩ := hr;have hl0 := hf.f0;have hb0 : Below w.heap.size w (w.alloc (.cells #[.slice a0 st.fRows.length c0, .slice a1 st.fSpace.fRefs.length c1, .slice a2 st.fSpace.fLast.length c2, .int .i64 st.fTxg, .slice a4 st.fGone.length c4, .int .i64 st.fKeep, .slice a6 st.fDead.length c6, .bool st.fSame] 40)) := (Below.refl _ _).alloc (Nat.le_refl _) _;have hA0 := ZS w (.cells #[.slice a0 st.fRows.length c0, .slice a1 st.fSpace.fRefs.length c1, .slice a2 st.fSpace.fLast.length c2, .int .i64 st.fTxg, .slice a4 st.fGone.length c4, .int .i64 st.fKeep, .slice a6 st.fDead.length c6, .bool st.fSame] 40) _ rfl;have hl : ((st.fRows.length : Int) != 64) = false := by simp [h64]
  have HS := Lib.hid (Uu (.agg #[.slice a1 st.fSpace.fRefs.length c1, .slice a2 st.fSpace.fLast.length c2]) st.fSpace _ ⟨_, _, _, _, rfl, r1.below hb0, r2.below hb0⟩ ⟨hf.f1, hf.f2⟩);have hst : Hid (st.ok = (Xq st 64 && (st.fGone.all (fun p => Yx p (st.fTxg - 1)) && (st.fDead.all (fun p => Yx p st.fKeep) && XO st.fSpace.fRefs (st.fGone ++ st.fDead))))) := by show _ = _; simp [Za.ok, h64, hsp, htx, hkp]
  have hbt := Zu htx;have hbk := Zu hkp;have hg4 := hf.f4;have hg6 := hf.f6;have HSP := Lib.hid (Zv.ok_spec hsp);have H64 := Lib.hid h64;have hf2 := hf;clear h64 hf
  go_enter Tryz.func47, Tryz.ntmps47
  go_wp2_with fail
  refine HS.out.mono ?_;rintro e w1 ⟨rfl, b1⟩;have hA1 := Zk hA0 b1 (Nat.le_refl _);have hb1 := hb0.trans (b1.mono hb0.size);have p3 : w1.cell? ⟨w.heap.size, 3, none⟩ = some (.int .i64 st.fTxg) := Zd hA1 3;have p5 : w1.cell? ⟨w.heap.size, 5, none⟩ = some (.int .i64 st.fKeep) := Zd hA1 5;rw [hsp]
  go_wp2_with (go_at_call 82; refine (Ye _ _ _ _).mono ?_; rintro e w' ⟨rfl, rfl⟩)
  have HSPB := Lib.hid hsp;clear hsp htx hkp hb0 hA0 b1 p3 p5
  go_loopw [3] (fun i wr => ∃ k : Nat, k ≤ 64 ∧ i = .int .i64 k ∧ Xq st k = true ∧ Below w.heap.size w wr ∧ wr.heap[w.heap.size]? = some (.cells #[.slice a0 st.fRows.length c0, .slice a1 st.fSpace.fRefs.length c1, .slice a2 st.fSpace.fLast.length c2, .int .i64 st.fTxg, .slice a4 st.fGone.length c4, .int .i64 st.fKeep, .slice a6 st.fDead.length c6, .bool st.fSame] 40 (0, 0))) (fun i _ => 64 - (intOf i).toNat)
  case atStart => exact ⟨0, by omega, rfl, rfl, hb1, hA1⟩
  case round =>
    obtain ⟨k, hk, rfl, hok, hb, hA⟩ := hrel;have HOK := Lib.hid hok;clear hok hb1 hA1
    by_cases hlt : k < 64
    · obtain ⟨b, off, s, hx0, rfl, hbl, hrg⟩ := r0.at_ k (by rw [H64.out]; exact hlt)
      have d0 := (Zq hrg hb hbl) 0 _ rfl;obtain ⟨b1, off1, r, hx1, rfl, hbl1, hrg1⟩ := r1.at_ k (by rw [HSP.out.refs]; exact hlt);have d1 := (Zq hrg1 hb hbl1) 0 _ rfl;obtain ⟨b2, off2, l, hx2, rfl, hbl2, hrg2⟩ := r2.at_ k (by rw [HSP.out.last]; exact hlt);have d2 := (Zq hrg2 hb hbl2) 0 _ rfl;simp only [Nat.mul_one, Nat.add_zero] at d0 d1 d2;have e0 := XC (d := ByteArray.empty) hx0;have e1 := XC (d := (0 : Int)) hx1;have e2 := XC (d := (0 : Int)) hx2;have hrow : Hid (Y5 st k = (decide (s.size ≤ 128) && ((s.size == 0) == (r == 0) && decide (l ≤ st.fTxg)))) := by show _ = _; unfold Y5; rw [e0, e1, e2]
      have hlast : Hid (Y5 st k = false → st.ok = false) := fun h => by rw [hst.out, Zde hlt h]; rfl
      have hnext : Hid (Y5 st k = true → Xq st (k + 1) = true) := fun h => by rw [Zb9, HOK.out, h]; rfl
      have hlen0 : k < st.fRows.length := by rw [H64.out]; exact hlt
      have hlen1 : k < st.fSpace.fRefs.length := by rw [HSP.out.refs]; exact hlt
      have hlen2 : k < st.fSpace.fLast.length := by rw [HSP.out.last]; exact hlt
      have p0 : wr.cell? ⟨w.heap.size, 0, none⟩ = some (.slice (some ⟨b, off, none⟩) st.fRows.length c0) := Zd hA 0;have p1 : wr.cell? ⟨w.heap.size, 1, none⟩ = some (.slice (some ⟨b1, off1, none⟩) st.fSpace.fRefs.length c1) := Zd hA 1;have p2 : wr.cell? ⟨w.heap.size, 2, none⟩ = some (.slice (some ⟨b2, off2, none⟩) st.fSpace.fLast.length c2) := Zd hA 2;have p3 : wr.cell? ⟨w.heap.size, 3, none⟩ = some (.int .i64 st.fTxg) := Zd hA 3;have HA := Lib.hid hA;clear hx0 hx1 hx2 hrg hrg1 hrg2 hA e0 e1 e2
      by_cases g1 : s.size ≤ 128
      rotate_left
      · have HR : Hid (Y5 st k = false) := by show _ = _; rw [hrow.out]; simp [g1]
        have g1' : decide ((128 : Int) < (s.size : Int)) = true := by simp; omega
        go_wp2_with fail
        go_quiet (fail)
        go_wp2
        go_ret
        exact ⟨Zo (hlast.out HR.out).symm, hb.trans (ZE _ _ _)⟩
      · have g1' : decide ((128 : Int) < (s.size : Int)) = false := by simp; omega
        have e1 : ∀ (cb : Bool), (s.size == 0) = cb → s.toList.isEmpty = cb := fun cb h => ZfA s cb h
        cases gs : (s.size == 0)
        all_goals
          have gs2 := e1 _ gs;clear e1
          cases gr : (r == 0)
        · by_cases g3 : l ≤ st.fTxg
          · have g3' : decide (st.fTxg < l) = false := by simp; omega
            have HR : Hid (Y5 st k = true) := by show _ = _; rw [hrow.out]; simp [g1, g3, gs, gr]
            go_wp2_with fail
            go_quiet (fail)
            go_wp2
            go_roundw
            case rel => exact ⟨k + 1, by omega, by go_num, hnext.out HR.out, hb.trans (ZE _ _ _), HA.out⟩
            case measure => simp [intOf]; omega
          · have g3' : decide (st.fTxg < l) = true := by simp; omega
            have HR : Hid (Y5 st k = false) := by show _ = _; rw [hrow.out]; simp [g3]
            go_wp2_with fail
            go_quiet (fail)
            go_wp2
            go_ret
            exact ⟨Zo (hlast.out HR.out).symm, hb.trans (ZE _ _ _)⟩
        · have HR : Hid (Y5 st k = false) := by show _ = _; rw [hrow.out]; simp [gs, gr]
          go_wp2_with fail
          go_quiet (fail)
          go_wp2
          go_ret
          exact ⟨Zo (hlast.out HR.out).symm, hb.trans (ZE _ _ _)⟩
        · have HR : Hid (Y5 st k = false) := by show _ = _; rw [hrow.out]; simp [gs, gr]
          go_wp2_with fail
          go_quiet (fail)
          go_wp2
          go_ret
          exact ⟨Zo (hlast.out HR.out).symm, hb.trans (ZE _ _ _)⟩
        · by_cases g3 : l ≤ st.fTxg
          · have g3' : decide (st.fTxg < l) = false := by simp; omega
            have HR : Hid (Y5 st k = true) := by show _ = _; rw [hrow.out]; simp [g1, g3, gs, gr]
            go_wp2_with fail
            go_quiet (fail)
            go_wp2
            go_roundw
            case rel => exact ⟨k + 1, by omega, by go_num, hnext.out HR.out, hb.trans (ZE _ _ _), HA.out⟩
            case measure => simp [intOf]; omega
          · have g3' : decide (st.fTxg < l) = true := by simp; omega
            have HR : Hid (Y5 st k = false) := by show _ = _; rw [hrow.out]; simp [g3]
            go_wp2_with fail
            go_quiet (fail)
            go_wp2
            go_ret
            exact ⟨Zo (hlast.out HR.out).symm, hb.trans (ZE _ _ _)⟩
    · have hk' : k = 64 := by omega
      subst hk';obtain ⟨i0, hi, hz0, hz1, hz2⟩ := info_parts Tryz.infoIntS
      go_wp2_with (refine wpList_make_full _ rfl (.const (.int .i64 64)) (.const (.int .i64 64)) 23 rfl wr.heap.size 3 i0 _ 1 Tryz.underlying23 hi hz0 hz1 .i64 .i64 _ _ 64 rfl rfl rfl rfl ?b2 ?b3 ?b4 ?_)
      case b2 => rw [hz2]; omega
      case b3 => unfold maxLen; omega
      case b4 => exact Nat.le_refl _
      intro wm hown hg;have hbm : Below w.heap.size w wm := hb.grown hg hb.size (by simp);have hAm := Zby hA hg (by simp);have hgm : w.heap.size < wr.heap.size := YL hA;have hown : wm.ownsRow wr.heap.size 3 1 (.slice (some ⟨wr.heap.size, 0, none⟩) 64 64) 64 (YN ((st.fGone ++ st.fDead).take 0)) := by rw [← Ze6]; exact hown
      generalize wr.heap.size = g at hown hgm ⊢;clear hb hA hg hi hz0 hz1 hz2 hlt hk r0 r2 HS
      go_wp2
      go_loopw [5] (fun i wr => ∃ j : Nat, j ≤ st.fGone.length + st.fDead.length ∧ i = .int .i64 j ∧ Uw st j ∧ wr.ownsRow g 3 1 (.slice (some ⟨g, 0, none⟩) 64 64) 64 (YN ((st.fGone ++ st.fDead).take j)) ∧ Below w.heap.size w wr ∧ wr.heap[w.heap.size]? = some (.cells #[.slice a0 st.fRows.length c0, .slice a1 st.fSpace.fRefs.length c1, .slice a2 st.fSpace.fLast.length c2, .int .i64 st.fTxg, .slice a4 st.fGone.length c4, .int .i64 st.fKeep, .slice a6 st.fDead.length c6, .bool st.fSame] 40 (0, 0))) (fun i _ => st.fGone.length + st.fDead.length - (intOf i).toNat)
      case atStart => exact ⟨0, Nat.zero_le _, rfl, Uw.zero st, hown, hbm, hAm⟩
      case round =>
        obtain ⟨j, hj, rfl, hgiv, ho, hb, hA⟩ := hrel;clear hown hbm hAm
        by_cases hlt : j < st.fGone.length + st.fDead.length
        · by_cases hgo : j < st.fGone.length
          · obtain ⟨b, off, p, hp, rfl, hbl, hrg⟩ := r4.at_ (j) (by omega)
            obtain ⟨d0, d1, d2, d3, d4⟩ := PtrD.at_ (Zq hrg hb hbl);have hout : Uv st j = some p := by unfold Uv; rw [List.getElem?_append_left hgo]; exact hp
            have hmost : Q7 st j = st.fTxg - 1 := by unfold Q7; rw [if_pos hgo]
            have hbad : Hid (Yx p (st.fTxg - 1) = false → st.ok = false) := fun h => Ze5 hout (by rw [hmost]; exact h)
            have hmany : Hid (∀ a : Nat, p.fAt = (a : Int) → a < 64 → st.fSpace.fRefs.getD a 0 < ((cnt ((st.fGone ++ st.fDead).take j) a + 1 : Nat) : Int) → st.ok = false) := fun a h1 h2 h3 => Zdf hout a h1 h2 h3
            have hstep : Hid (∀ a : Nat, Yx p (st.fTxg - 1) = true → p.fAt = (a : Int) → ((cnt ((st.fGone ++ st.fDead).take j) a + 1 : Nat) : Int) ≤ st.fSpace.fRefs.getD a 0 → Uw st (j + 1)) := fun a h1 h2 h3 => hgiv.succ hout (by rw [hmost]; exact h1) a h2 h3
            have hsn : Hid ((st.fGone ++ st.fDead).take (j + 1) = (st.fGone ++ st.fDead).take j ++ [p]) := by show _ = _; obtain ⟨hj2, hpe⟩ := List.getElem?_eq_some_iff.1 hout; rw [List.take_succ_eq_append_getElem hj2]; unfold Uv at hout; rw [hpe]
            have hcj : ((st.fGone ++ st.fDead).take j).length ≤ 2097152 := by rw [List.length_take, List.length_append]; omega
            have hgiv2 := Lib.hid hgiv;have p1 : wr.cell? ⟨w.heap.size, 1, none⟩ = some (.slice a1 st.fSpace.fRefs.length c1) := Zd hA 1;have p3 : wr.cell? ⟨w.heap.size, 3, none⟩ = some (.int .i64 st.fTxg) := Zd hA 3;have p4 : wr.cell? ⟨w.heap.size, 4, none⟩ = some (.slice (some ⟨b, off, none⟩) st.fGone.length c4) := Zd hA 4;have p5 : wr.cell? ⟨w.heap.size, 5, none⟩ = some (.int .i64 st.fKeep) := Zd hA 5;have p6 : wr.cell? ⟨w.heap.size, 6, none⟩ = some (.slice a6 st.fDead.length c6) := Zd hA 6;have HA := Lib.hid hA;have hw0 := YL hA;have hbw : b < wr.heap.size := Nat.lt_of_lt_of_le hbl hb.size;clear hp hout hmost hrg hgiv hA;have hin : Hid (Yx p (st.fTxg - 1) = (p.ok && (!p.hole && decide (p.fBirth ≤ st.fTxg - 1)))) := rfl
            cases h1 : p.ok
            · have HR : Hid (Yx p (st.fTxg - 1) = false) := by show _ = _; rw [hin.out, h1]; rfl
              go_wp2_with fail
              refine (ZP p _).mono ?_;rintro e w2 ⟨rfl, b2⟩;have hb2 := (hb.alloc hb.size _).trans (b2.mono (hb.alloc hb.size _).size);have q2 := Zk (ZS wr (.cells #[.int .i64 p.fAt, .int .i64 p.fBirth, .int .i64 p.fSize, .int .i64 p.fSum, .int .i64 p.fLevel] 42) _ rfl) b2 (Nat.le_refl _);rw [h1]
              go_wp2
              go_ret
              exact ⟨Zo (hbad.out HR.out).symm, hb2⟩
            · cases h2 : p.hole
              rotate_left
              · have HR : Hid (Yx p (st.fTxg - 1) = false) := by show _ = _; rw [hin.out, h1, h2]; rfl
                go_wp2_with fail
                refine (ZP p _).mono ?_;rintro e w2 ⟨rfl, b2⟩;have hb2 := (hb.alloc hb.size _).trans (b2.mono (hb.alloc hb.size _).size);have q2 := Zk (ZS wr (.cells #[.int .i64 p.fAt, .int .i64 p.fBirth, .int .i64 p.fSize, .int .i64 p.fSum, .int .i64 p.fLevel] 42) _ rfl) b2 (Nat.le_refl _);rw [h1];have f0 : w2.cell? ⟨wr.heap.size, 0, none⟩ = some (.int .i64 p.fAt) := Zd q2 0;have f1 : w2.cell? ⟨wr.heap.size, 1, none⟩ = some (.int .i64 p.fBirth) := Zd q2 1;have f2 : w2.cell? ⟨wr.heap.size, 2, none⟩ = some (.int .i64 p.fSize) := Zd q2 2;have f3 : w2.cell? ⟨wr.heap.size, 3, none⟩ = some (.int .i64 p.fSum) := Zd q2 3;have f4 : w2.cell? ⟨wr.heap.size, 4, none⟩ = some (.int .i64 p.fLevel) := Zd q2 4
                go_wp2_with fail
                refine (ZN p _).mono ?_;rintro e w3 ⟨rfl, b3⟩;have hb3 := hb2.trans (b3.mono hb2.size);have q3 := Zk q2 b3 (Nat.le_refl _);clear f0 f1 f2 f3 f4;rw [h2]
                go_wp2
                go_ret
                exact ⟨Zo (hbad.out HR.out).symm, hb3⟩
              · by_cases h3 : p.fBirth ≤ st.fTxg - 1
                rotate_left
                · have HR : Hid (Yx p (st.fTxg - 1) = false) := by show _ = _; rw [hin.out, h1, h2]; simp [h3]
                  go_wp2_with fail
                  refine (ZP p _).mono ?_;rintro e w2 ⟨rfl, b2⟩;have hb2 := (hb.alloc hb.size _).trans (b2.mono (hb.alloc hb.size _).size);have q2 := Zk (ZS wr (.cells #[.int .i64 p.fAt, .int .i64 p.fBirth, .int .i64 p.fSize, .int .i64 p.fSum, .int .i64 p.fLevel] 42) _ rfl) b2 (Nat.le_refl _);rw [h1];have f0 : w2.cell? ⟨wr.heap.size, 0, none⟩ = some (.int .i64 p.fAt) := Zd q2 0;have f1 : w2.cell? ⟨wr.heap.size, 1, none⟩ = some (.int .i64 p.fBirth) := Zd q2 1;have f2 : w2.cell? ⟨wr.heap.size, 2, none⟩ = some (.int .i64 p.fSize) := Zd q2 2;have f3 : w2.cell? ⟨wr.heap.size, 3, none⟩ = some (.int .i64 p.fSum) := Zd q2 3;have f4 : w2.cell? ⟨wr.heap.size, 4, none⟩ = some (.int .i64 p.fLevel) := Zd q2 4
                  go_wp2_with fail
                  refine (ZN p _).mono ?_;rintro e w3 ⟨rfl, b3⟩;have hb3 := hb2.trans (b3.mono hb2.size);have q3 := Zk q2 b3 (Nat.le_refl _);clear f0 f1 f2 f3 f4;rw [h2];have f1 : w3.cell? ⟨wr.heap.size, 1, none⟩ = some (.int .i64 p.fBirth) := Zd q3 1
                  go_wp2
                  go_ret
                  exact ⟨Zo (hbad.out HR.out).symm, hb3⟩
                · have HR : Hid (Yx p (st.fTxg - 1) = true) := by show _ = _; rw [hin.out, h1, h2]; simp [h3]
                  have hat := Zao HR.out;obtain ⟨a, ha⟩ : ∃ a : Nat, p.fAt = (a : Int) := ⟨p.fAt.toNat, by omega⟩;have ha1 : a < 64 := by omega
                  have ha0 : 8 ≤ a := by omega
                  have Ha := Lib.hid ha;clear ha
                  go_wp2_with fail
                  refine (ZP p _).mono ?_;rintro e w2 ⟨rfl, b2⟩;have hb2 := (hb.alloc hb.size _).trans (b2.mono (hb.alloc hb.size _).size);have q2 := Zk (ZS wr (.cells #[.int .i64 p.fAt, .int .i64 p.fBirth, .int .i64 p.fSize, .int .i64 p.fSum, .int .i64 p.fLevel] 42) _ rfl) b2 (Nat.le_refl _);rw [h1];have f0 : w2.cell? ⟨wr.heap.size, 0, none⟩ = some (.int .i64 p.fAt) := Zd q2 0;have f1 : w2.cell? ⟨wr.heap.size, 1, none⟩ = some (.int .i64 p.fBirth) := Zd q2 1;have f2 : w2.cell? ⟨wr.heap.size, 2, none⟩ = some (.int .i64 p.fSize) := Zd q2 2;have f3 : w2.cell? ⟨wr.heap.size, 3, none⟩ = some (.int .i64 p.fSum) := Zd q2 3;have f4 : w2.cell? ⟨wr.heap.size, 4, none⟩ = some (.int .i64 p.fLevel) := Zd q2 4
                  go_wp2_with fail
                  refine (ZN p _).mono ?_;rintro e w3 ⟨rfl, b3⟩;have hb3 := hb2.trans (b3.mono hb2.size);have q3 := Zk q2 b3 (Nat.le_refl _);clear f0 f1 f2 f3 f4;rw [h2];have f0 : w3.cell? ⟨wr.heap.size, 0, none⟩ = some (.int .i64 (a : Int)) := by rw [← Ha.out]; exact Zd q3 0
                  have f1 : w3.cell? ⟨wr.heap.size, 1, none⟩ = some (.int .i64 p.fBirth) := Zd q3 1;have hw3 : wr.heap.size < w3.heap.size := YL q3;have hA3 := Zk (Zk (YJ HA.out (.cells #[.int .i64 p.fAt, .int .i64 p.fBirth, .int .i64 p.fSize, .int .i64 p.fSum, .int .i64 p.fLevel] 42)) b2 (Nat.le_refl _)) b3 (Nat.le_refl _);have ho3 := Y7 (Y7 (ho.alloc (.cells #[.int .i64 p.fAt, .int .i64 p.fBirth, .int .i64 p.fSize, .int .i64 p.fSum, .int .i64 p.fLevel] 42)) b2 (Nat.le_refl _)) b3 (Nat.le_refl _);have hca : w3.cell? ⟨g, a, none⟩ = some (.int .i64 (cnt ((st.fGone ++ st.fDead).take j) a : Nat)) := by rw [ho3.cellAt a (by omega)]; exact Y8 _ _ ha1
                  have hfa := ho3.frozenAt a;have hcl := ZfX ((st.fGone ++ st.fDead).take j) a;obtain ⟨b1, off1, r, hx1, rfl, hbl1, hrg1⟩ := r1.at_ a (by rw [HSP.out.refs]; exact ha1);have g1 := (Zq hrg1 hb3 hbl1) 0 _ rfl;simp only [Nat.mul_one, Nat.add_zero] at g1;have e1 := Lib.hid (XC (d := (0 : Int)) hx1);have hl1 : a < st.fSpace.fRefs.length := by rw [HSP.out.refs]; exact ha1
                  have hgw : g < wr.heap.size := (ho.lt g (by simp [Value.ownBlock])).2;have p1 : w3.cell? ⟨w.heap.size, 1, none⟩ = some (.slice (some ⟨b1, off1, none⟩) st.fSpace.fRefs.length c1) := Zd hA3 1;have HA3 := Lib.hid hA3;have HO3 := Lib.hid ho3;have hb3l : b1 < g := Nat.lt_trans hbl1 hgm;have Q3 := Lib.hid q3;clear hx1 hrg1 hA3 ho3 q2 q3 b2 b3 ho HA hb hb2;generalize hcd : cnt ((st.fGone ++ st.fDead).take j) a = cn at hca hcl;have HCD := Lib.hid hcd;clear hcd
                  go_wp2_with fail
                  go_region
                  all_goals
                    obtain ⟨ho4, _⟩ := HO3.out.stored a (.int .i64 ((cn : Int) + 1));have ho5 : World.ownsRow (w3.setCell ⟨g, a, none⟩ (.int .i64 ((cn : Int) + 1))).drew g 3 1 (.slice (some ⟨g, 0, none⟩) 64 64) 64 (YN ((st.fGone ++ st.fDead).take (j + 1))) := by rw [hsn.out, ← JE _ p a Ha.out ha1, HCD.out]; exact ho4
                    have hb4 : Below w.heap.size w (w3.setCell ⟨g, a, none⟩ (.int .i64 ((cn : Int) + 1))).drew := (hb3.setCell (p := ⟨g, a, none⟩) (Nat.le_of_lt hgm) _).drew;have hA4 : ((w3.setCell ⟨g, a, none⟩ (.int .i64 ((cn : Int) + 1))).drew).heap[w.heap.size]? = some (.cells #[.slice a0 st.fRows.length c0, .slice (some ⟨b1, off1, none⟩) st.fSpace.fRefs.length c1, .slice a2 st.fSpace.fLast.length c2, .int .i64 st.fTxg, .slice (some ⟨b, off, none⟩) st.fGone.length c4, .int .i64 st.fKeep, .slice a6 st.fDead.length c6, .bool st.fSame] 40 (0, 0)) := ZC HA3.out (p := ⟨g, a, none⟩) (Nat.ne_of_lt hgm) _;have q4 : ((w3.setCell ⟨g, a, none⟩ (.int .i64 ((cn : Int) + 1))).drew).heap[wr.heap.size]? = some (.cells #[.int .i64 p.fAt, .int .i64 p.fBirth, .int .i64 p.fSize, .int .i64 p.fSum, .int .i64 p.fLevel] 42 (0, 0)) := ZC Q3.out (p := ⟨g, a, none⟩) (Nat.ne_of_gt hgw) _;have g4 : World.cell? (w3.setCell ⟨g, a, none⟩ (.int .i64 ((cn : Int) + 1))).drew ⟨b1, off1 + a, none⟩ = some (.int .i64 r) := (World.cell?_setCell_other _ _ _ _ (fun e => by injection e with e _ _; omega)).trans g1;have hca4 : World.cell? (w3.setCell ⟨g, a, none⟩ (.int .i64 ((cn : Int) + 1))).drew ⟨g, a, none⟩ = some (.int .i64 ((cn : Int) + 1)) := World.cell?_setCell_same _ _ _ hca;clear f0 f1 g1 p1 hca hfa ho4;generalize (w3.setCell ⟨g, a, none⟩ (.int .i64 ((cn : Int) + 1))).drew = w4 at ho5 hb4 hA4 q4 g4 hca4 ⊢;have f0 : w4.cell? ⟨wr.heap.size, 0, none⟩ = some (.int .i64 (a : Int)) := by rw [← Ha.out]; exact Zd q4 0
                    have p1 : w4.cell? ⟨w.heap.size, 1, none⟩ = some (.slice (some ⟨b1, off1, none⟩) st.fSpace.fRefs.length c1) := Zd hA4 1;have HA4 := Lib.hid hA4;have HO5 := Lib.hid ho5;clear hA4 ho5 q4
                    by_cases hmn : (cn : Int) + 1 ≤ r
                    · have hcmp : decide ((r : Int) < (cn : Int) + 1) = false := by simp; omega
                      go_wp2_with fail
                      go_quiet (fail)
                      go_wp2
                      go_roundw
                      case rel => exact ⟨j + 1, by omega, by go_num, hstep.out a HR.out Ha.out (by rw [e1.out, HCD.out]; omega), HO5.out, hb4.trans (ZE _ _ _), HA4.out⟩
                      case measure => simp [intOf]; omega
                    · have hcmp : decide ((r : Int) < (cn : Int) + 1) = true := by simp; omega
                      go_wp2_with fail
                      go_quiet (fail)
                      go_wp2
                      go_ret
                      exact ⟨Zo (hmany.out a Ha.out ha1 (by rw [e1.out, HCD.out]; omega)).symm, hb4.trans (ZE _ _ _)⟩
          · obtain ⟨b, off, p, hp, rfl, hbl, hrg⟩ := r6.at_ (j - st.fGone.length) (by omega)
            obtain ⟨d0, d1, d2, d3, d4⟩ := PtrD.at_ (Zq hrg hb hbl);have hout : Uv st j = some p := by unfold Uv; rw [List.getElem?_append_right (by omega)]; exact hp
            have hmost : Q7 st j = st.fKeep := by unfold Q7; rw [if_neg hgo]
            have hbad : Hid (Yx p (st.fKeep) = false → st.ok = false) := fun h => Ze5 hout (by rw [hmost]; exact h)
            have hmany : Hid (∀ a : Nat, p.fAt = (a : Int) → a < 64 → st.fSpace.fRefs.getD a 0 < ((cnt ((st.fGone ++ st.fDead).take j) a + 1 : Nat) : Int) → st.ok = false) := fun a h1 h2 h3 => Zdf hout a h1 h2 h3
            have hstep : Hid (∀ a : Nat, Yx p (st.fKeep) = true → p.fAt = (a : Int) → ((cnt ((st.fGone ++ st.fDead).take j) a + 1 : Nat) : Int) ≤ st.fSpace.fRefs.getD a 0 → Uw st (j + 1)) := fun a h1 h2 h3 => hgiv.succ hout (by rw [hmost]; exact h1) a h2 h3
            have hsn : Hid ((st.fGone ++ st.fDead).take (j + 1) = (st.fGone ++ st.fDead).take j ++ [p]) := by show _ = _; obtain ⟨hj2, hpe⟩ := List.getElem?_eq_some_iff.1 hout; rw [List.take_succ_eq_append_getElem hj2]; unfold Uv at hout; rw [hpe]
            have hcj : ((st.fGone ++ st.fDead).take j).length ≤ 2097152 := by rw [List.length_take, List.length_append]; omega
            have hgiv2 := Lib.hid hgiv;have p1 : wr.cell? ⟨w.heap.size, 1, none⟩ = some (.slice a1 st.fSpace.fRefs.length c1) := Zd hA 1;have p3 : wr.cell? ⟨w.heap.size, 3, none⟩ = some (.int .i64 st.fTxg) := Zd hA 3;have p4 : wr.cell? ⟨w.heap.size, 4, none⟩ = some (.slice a4 st.fGone.length c4) := Zd hA 4;have p5 : wr.cell? ⟨w.heap.size, 5, none⟩ = some (.int .i64 st.fKeep) := Zd hA 5;have p6 : wr.cell? ⟨w.heap.size, 6, none⟩ = some (.slice (some ⟨b, off, none⟩) st.fDead.length c6) := Zd hA 6;have HA := Lib.hid hA;have hw0 := YL hA;have hbw : b < wr.heap.size := Nat.lt_of_lt_of_le hbl hb.size;clear hp hout hmost hrg hgiv hA;have hin : Hid (Yx p (st.fKeep) = (p.ok && (!p.hole && decide (p.fBirth ≤ st.fKeep)))) := rfl
            cases h1 : p.ok
            · have HR : Hid (Yx p (st.fKeep) = false) := by show _ = _; rw [hin.out, h1]; rfl
              go_wp2_with fail
              refine (ZP p _).mono ?_;rintro e w2 ⟨rfl, b2⟩;have hb2 := (hb.alloc hb.size _).trans (b2.mono (hb.alloc hb.size _).size);have q2 := Zk (ZS wr (.cells #[.int .i64 p.fAt, .int .i64 p.fBirth, .int .i64 p.fSize, .int .i64 p.fSum, .int .i64 p.fLevel] 42) _ rfl) b2 (Nat.le_refl _);rw [h1]
              go_wp2
              go_ret
              exact ⟨Zo (hbad.out HR.out).symm, hb2⟩
            · cases h2 : p.hole
              rotate_left
              · have HR : Hid (Yx p (st.fKeep) = false) := by show _ = _; rw [hin.out, h1, h2]; rfl
                go_wp2_with fail
                refine (ZP p _).mono ?_;rintro e w2 ⟨rfl, b2⟩;have hb2 := (hb.alloc hb.size _).trans (b2.mono (hb.alloc hb.size _).size);have q2 := Zk (ZS wr (.cells #[.int .i64 p.fAt, .int .i64 p.fBirth, .int .i64 p.fSize, .int .i64 p.fSum, .int .i64 p.fLevel] 42) _ rfl) b2 (Nat.le_refl _);rw [h1];have f0 : w2.cell? ⟨wr.heap.size, 0, none⟩ = some (.int .i64 p.fAt) := Zd q2 0;have f1 : w2.cell? ⟨wr.heap.size, 1, none⟩ = some (.int .i64 p.fBirth) := Zd q2 1;have f2 : w2.cell? ⟨wr.heap.size, 2, none⟩ = some (.int .i64 p.fSize) := Zd q2 2;have f3 : w2.cell? ⟨wr.heap.size, 3, none⟩ = some (.int .i64 p.fSum) := Zd q2 3;have f4 : w2.cell? ⟨wr.heap.size, 4, none⟩ = some (.int .i64 p.fLevel) := Zd q2 4
                go_wp2_with fail
                refine (ZN p _).mono ?_;rintro e w3 ⟨rfl, b3⟩;have hb3 := hb2.trans (b3.mono hb2.size);have q3 := Zk q2 b3 (Nat.le_refl _);clear f0 f1 f2 f3 f4;rw [h2]
                go_wp2
                go_ret
                exact ⟨Zo (hbad.out HR.out).symm, hb3⟩
              · by_cases h3 : p.fBirth ≤ st.fKeep
                rotate_left
                · have HR : Hid (Yx p (st.fKeep) = false) := by show _ = _; rw [hin.out, h1, h2]; simp [h3]
                  go_wp2_with fail
                  refine (ZP p _).mono ?_;rintro e w2 ⟨rfl, b2⟩;have hb2 := (hb.alloc hb.size _).trans (b2.mono (hb.alloc hb.size _).size);have q2 := Zk (ZS wr (.cells #[.int .i64 p.fAt, .int .i64 p.fBirth, .int .i64 p.fSize, .int .i64 p.fSum, .int .i64 p.fLevel] 42) _ rfl) b2 (Nat.le_refl _);rw [h1];have f0 : w2.cell? ⟨wr.heap.size, 0, none⟩ = some (.int .i64 p.fAt) := Zd q2 0;have f1 : w2.cell? ⟨wr.heap.size, 1, none⟩ = some (.int .i64 p.fBirth) := Zd q2 1;have f2 : w2.cell? ⟨wr.heap.size, 2, none⟩ = some (.int .i64 p.fSize) := Zd q2 2;have f3 : w2.cell? ⟨wr.heap.size, 3, none⟩ = some (.int .i64 p.fSum) := Zd q2 3;have f4 : w2.cell? ⟨wr.heap.size, 4, none⟩ = some (.int .i64 p.fLevel) := Zd q2 4
                  go_wp2_with fail
                  refine (ZN p _).mono ?_;rintro e w3 ⟨rfl, b3⟩;have hb3 := hb2.trans (b3.mono hb2.size);have q3 := Zk q2 b3 (Nat.le_refl _);clear f0 f1 f2 f3 f4;rw [h2];have f1 : w3.cell? ⟨wr.heap.size, 1, none⟩ = some (.int .i64 p.fBirth) := Zd q3 1
                  go_wp2
                  go_ret
                  exact ⟨Zo (hbad.out HR.out).symm, hb3⟩
                · have HR : Hid (Yx p (st.fKeep) = true) := by show _ = _; rw [hin.out, h1, h2]; simp [h3]
                  have hat := Zao HR.out;obtain ⟨a, ha⟩ : ∃ a : Nat, p.fAt = (a : Int) := ⟨p.fAt.toNat, by omega⟩;have ha1 : a < 64 := by omega
                  have ha0 : 8 ≤ a := by omega
                  have Ha := Lib.hid ha;clear ha
                  go_wp2_with fail
                  refine (ZP p _).mono ?_;rintro e w2 ⟨rfl, b2⟩;have hb2 := (hb.alloc hb.size _).trans (b2.mono (hb.alloc hb.size _).size);have q2 := Zk (ZS wr (.cells #[.int .i64 p.fAt, .int .i64 p.fBirth, .int .i64 p.fSize, .int .i64 p.fSum, .int .i64 p.fLevel] 42) _ rfl) b2 (Nat.le_refl _);rw [h1];have f0 : w2.cell? ⟨wr.heap.size, 0, none⟩ = some (.int .i64 p.fAt) := Zd q2 0;have f1 : w2.cell? ⟨wr.heap.size, 1, none⟩ = some (.int .i64 p.fBirth) := Zd q2 1;have f2 : w2.cell? ⟨wr.heap.size, 2, none⟩ = some (.int .i64 p.fSize) := Zd q2 2;have f3 : w2.cell? ⟨wr.heap.size, 3, none⟩ = some (.int .i64 p.fSum) := Zd q2 3;have f4 : w2.cell? ⟨wr.heap.size, 4, none⟩ = some (.int .i64 p.fLevel) := Zd q2 4
                  go_wp2_with fail
                  refine (ZN p _).mono ?_;rintro e w3 ⟨rfl, b3⟩;have hb3 := hb2.trans (b3.mono hb2.size);have q3 := Zk q2 b3 (Nat.le_refl _);clear f0 f1 f2 f3 f4;rw [h2];have f0 : w3.cell? ⟨wr.heap.size, 0, none⟩ = some (.int .i64 (a : Int)) := by rw [← Ha.out]; exact Zd q3 0
                  have f1 : w3.cell? ⟨wr.heap.size, 1, none⟩ = some (.int .i64 p.fBirth) := Zd q3 1;have hw3 : wr.heap.size < w3.heap.size := YL q3;have hA3 := Zk (Zk (YJ HA.out (.cells #[.int .i64 p.fAt, .int .i64 p.fBirth, .int .i64 p.fSize, .int .i64 p.fSum, .int .i64 p.fLevel] 42)) b2 (Nat.le_refl _)) b3 (Nat.le_refl _);have ho3 := Y7 (Y7 (ho.alloc (.cells #[.int .i64 p.fAt, .int .i64 p.fBirth, .int .i64 p.fSize, .int .i64 p.fSum, .int .i64 p.fLevel] 42)) b2 (Nat.le_refl _)) b3 (Nat.le_refl _);have hca : w3.cell? ⟨g, a, none⟩ = some (.int .i64 (cnt ((st.fGone ++ st.fDead).take j) a : Nat)) := by rw [ho3.cellAt a (by omega)]; exact Y8 _ _ ha1
                  have hfa := ho3.frozenAt a;have hcl := ZfX ((st.fGone ++ st.fDead).take j) a;obtain ⟨b1, off1, r, hx1, rfl, hbl1, hrg1⟩ := r1.at_ a (by rw [HSP.out.refs]; exact ha1);have g1 := (Zq hrg1 hb3 hbl1) 0 _ rfl;simp only [Nat.mul_one, Nat.add_zero] at g1;have e1 := Lib.hid (XC (d := (0 : Int)) hx1);have hl1 : a < st.fSpace.fRefs.length := by rw [HSP.out.refs]; exact ha1
                  have hgw : g < wr.heap.size := (ho.lt g (by simp [Value.ownBlock])).2;have p1 : w3.cell? ⟨w.heap.size, 1, none⟩ = some (.slice (some ⟨b1, off1, none⟩) st.fSpace.fRefs.length c1) := Zd hA3 1;have HA3 := Lib.hid hA3;have HO3 := Lib.hid ho3;have hb3l : b1 < g := Nat.lt_trans hbl1 hgm;have Q3 := Lib.hid q3;clear hx1 hrg1 hA3 ho3 q2 q3 b2 b3 ho HA hb hb2;generalize hcd : cnt ((st.fGone ++ st.fDead).take j) a = cn at hca hcl;have HCD := Lib.hid hcd;clear hcd
                  go_wp2_with fail
                  go_region
                  all_goals
                    obtain ⟨ho4, _⟩ := HO3.out.stored a (.int .i64 ((cn : Int) + 1));have ho5 : World.ownsRow (w3.setCell ⟨g, a, none⟩ (.int .i64 ((cn : Int) + 1))).drew g 3 1 (.slice (some ⟨g, 0, none⟩) 64 64) 64 (YN ((st.fGone ++ st.fDead).take (j + 1))) := by rw [hsn.out, ← JE _ p a Ha.out ha1, HCD.out]; exact ho4
                    have hb4 : Below w.heap.size w (w3.setCell ⟨g, a, none⟩ (.int .i64 ((cn : Int) + 1))).drew := (hb3.setCell (p := ⟨g, a, none⟩) (Nat.le_of_lt hgm) _).drew;have hA4 : ((w3.setCell ⟨g, a, none⟩ (.int .i64 ((cn : Int) + 1))).drew).heap[w.heap.size]? = some (.cells #[.slice a0 st.fRows.length c0, .slice (some ⟨b1, off1, none⟩) st.fSpace.fRefs.length c1, .slice a2 st.fSpace.fLast.length c2, .int .i64 st.fTxg, .slice a4 st.fGone.length c4, .int .i64 st.fKeep, .slice (some ⟨b, off, none⟩) st.fDead.length c6, .bool st.fSame] 40 (0, 0)) := ZC HA3.out (p := ⟨g, a, none⟩) (Nat.ne_of_lt hgm) _;have q4 : ((w3.setCell ⟨g, a, none⟩ (.int .i64 ((cn : Int) + 1))).drew).heap[wr.heap.size]? = some (.cells #[.int .i64 p.fAt, .int .i64 p.fBirth, .int .i64 p.fSize, .int .i64 p.fSum, .int .i64 p.fLevel] 42 (0, 0)) := ZC Q3.out (p := ⟨g, a, none⟩) (Nat.ne_of_gt hgw) _;have g4 : World.cell? (w3.setCell ⟨g, a, none⟩ (.int .i64 ((cn : Int) + 1))).drew ⟨b1, off1 + a, none⟩ = some (.int .i64 r) := (World.cell?_setCell_other _ _ _ _ (fun e => by injection e with e _ _; omega)).trans g1;have hca4 : World.cell? (w3.setCell ⟨g, a, none⟩ (.int .i64 ((cn : Int) + 1))).drew ⟨g, a, none⟩ = some (.int .i64 ((cn : Int) + 1)) := World.cell?_setCell_same _ _ _ hca;clear f0 f1 g1 p1 hca hfa ho4;generalize (w3.setCell ⟨g, a, none⟩ (.int .i64 ((cn : Int) + 1))).drew = w4 at ho5 hb4 hA4 q4 g4 hca4 ⊢;have f0 : w4.cell? ⟨wr.heap.size, 0, none⟩ = some (.int .i64 (a : Int)) := by rw [← Ha.out]; exact Zd q4 0
                    have p1 : w4.cell? ⟨w.heap.size, 1, none⟩ = some (.slice (some ⟨b1, off1, none⟩) st.fSpace.fRefs.length c1) := Zd hA4 1;have HA4 := Lib.hid hA4;have HO5 := Lib.hid ho5;clear hA4 ho5 q4
                    by_cases hmn : (cn : Int) + 1 ≤ r
                    · have hcmp : decide ((r : Int) < (cn : Int) + 1) = false := by simp; omega
                      go_wp2_with fail
                      go_quiet (fail)
                      go_wp2
                      go_roundw
                      case rel => exact ⟨j + 1, by omega, by go_num, hstep.out a HR.out Ha.out (by rw [e1.out, HCD.out]; omega), HO5.out, hb4.trans (ZE _ _ _), HA4.out⟩
                      case measure => simp [intOf]; omega
                    · have hcmp : decide ((r : Int) < (cn : Int) + 1) = true := by simp; omega
                      go_wp2_with fail
                      go_quiet (fail)
                      go_wp2
                      go_ret
                      exact ⟨Zo (hmany.out a Ha.out ha1 (by rw [e1.out, HCD.out]; omega)).symm, hb4.trans (ZE _ _ _)⟩
        · have hk' : j = st.fGone.length + st.fDead.length := by omega
          have HJ := Lib.hid hk';clear hk';have hfin : Hid (st.ok = true) := by
            show _ = _;rw [hst.out, HOK.out, Bool.true_and];refine Uw.all (by rw [List.length_append, ← HJ.out]; exact hgiv) (fun i hi => (HSP.out.each i hi).1)
          have p4 : wr.cell? ⟨w.heap.size, 4, none⟩ = some (.slice a4 st.fGone.length c4) := Zd hA 4;have p6 : wr.cell? ⟨w.heap.size, 6, none⟩ = some (.slice a6 st.fDead.length c6) := Zd hA 6
          go_wp2
          go_ret
          exact ⟨Zo hfin.out.symm, hb⟩
open Go.RowKit
theorem ZcG (v : Value) (st : Za) (w : World) (hr : Za.Reads w v st) (hf : st.Fit) (hi : -9223372036854775808 ≤ st.fTxg) :
    Calls Tryz.prog 47 #[v] w fun e w' => e = .returned (.bool st.ok) ∧ Below w.heap.size w w' := by
  cases h : (st.fRows.length == 64 && (st.fSpace.ok && (inB st.fTxg 1 900 && inB st.fKeep 0 (st.fTxg - 1))))
  · have : st.ok = false := by
      unfold Za.ok;simp only [Bool.and_eq_false_iff] at h ⊢;rcases h with h | h | h | h <;> simp [h]
    rw [this];exact Zeb v st w hr hf hi h
  · simp only [Bool.and_eq_true, beq_iff_eq] at h
    exact ZcF v st w hr hf h.1 h.2.1 h.2.2.1 h.2.2.2
theorem Zhz (a0 : Option Addr) (n0 c0 : Nat) (a1 : Option Addr) (n1 c1 : Nat) (a2 : Option Addr) (n2 c2 : Nat) (t : Int) (a4 : Option Addr) (n4 c4 : Nat) (k : Int) (a6 : Option Addr) (n6 c6 : Nat) (s : Bool) : Cells 8 (.agg #[.slice a0 n0 c0, .slice a1 n1 c1, .slice a2 n2 c2, .int .i64 t, .slice a4 n4 c4, .int .i64 k, .slice a6 n6 c6, .bool s]) :=
  ⟨[.slice a0 n0 c0, .slice a1 n1 c1, .slice a2 n2 c2, .int .i64 t, .slice a4 n4 c4, .int .i64 k, .slice a6 n6 c6, .bool s], rfl, rfl, fun u hu => List.all_eq_true.1 (show List.all _ (fun u => u.oneCell') = true from rfl) u hu⟩
theorem Za.Own.cells {w : World} {B B1 : Nat} {v : Value} {x : Za} (h : Za.Own w B B1 v x) : Cells 8 v := by
  obtain ⟨a0, c0, a1, c1, a2, c2, a4, c4, a6, c6, rfl, _⟩ := h;exact Zhz _ _ _ _ _ _ _ _ _ _ _ _ _ _ _ _ _ _
open Go.RowKit
theorem Yg.grown {a v v' : Value} {m : Nat} (h : Yg a v) (hn : ∀ g, Value.rowBlock v' = some g → Value.rowBlock v = some g ∨ m ≤ g) (ha : ∀ g, Value.rowBlock a = some g → g < m) : Yg a v' := by
  unfold Yg at h ⊢
  cases hr : Value.rowBlock a with
  | none => exact .inl rfl
  | some g =>
    right
    intro e;rw [hr] at h;rcases hn g e.symm with h1 | h1
    · rcases h with h | h
      · cases h
      · exact h h1.symm
    · have := ha g hr
      omega
theorem Box.grown {w w' : World} {b n : Nat} {t : TypeId} {v : Value} {row : Option Nat} (h : Box w b n t v) (hg : w.grownBy w' row) (hr : some b ≠ row) : Box w' b n t v := by
  obtain ⟨cs, e, hl, h1, hh⟩ := h;exact ⟨cs, e, hl, h1, Zby hh hg hr⟩
theorem ZJ.box {B B1 b : Nat} {w w2 w3 : World} (h : ZJ B B1 w w2) (hO : ZJ b (b + 1) w2 w3) (hb : w.heap.size ≤ b) : ZJ B B1 w w3 :=
  ⟨hO.os.trans h.os, hO.tape.trans h.tape, hO.output.trans h.output, Nat.le_trans h.size hO.size, fun k hk hne => (hO.block k (Nat.lt_of_lt_of_le hk h.size) (by omega)).trans (h.block k hk hne)⟩
theorem Zj5 (p : PtrD) : ∀ u ∈ p.cells, u.oneCell' = true := fun u hu => by
  simp only [PtrD.cells, List.mem_cons, List.not_mem_nil, or_false] at hu;rcases hu with rfl | rfl | rfl | rfl | rfl <;> rfl
end Go.Proofs.YtigjfacaofgjjaaGreatDoor
