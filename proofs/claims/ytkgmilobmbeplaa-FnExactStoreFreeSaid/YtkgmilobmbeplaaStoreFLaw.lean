/- FnExactStoreFree: the law's walk. -/
import Derived.Test.YtkgmilobmbeplaaStoreFI
import Derived.Test.YtkgmilobmbeplaaStoreFS
import Derived.Test.YtkgmilobmbeplaaStoreM
import Derived.Test.YtkgmilobmbeplaaShapeE
import Derived.Deep.Cut
namespace Go.Proofs.Ytkgmilobmbeplaa
open Go.RowKit

def dW : Nat → Nat
  | 0 => 22
  | 1 => 23
  | 2 => 24
  | 3 => 25
  | 4 => 26
  | 5 => 21
  | 6 => 27
  | 7 => 28
  | 8 => 6
  | 9 => 7
  | _ => 0
theorem dW_inj : ∀ i, i < 10 → ∀ j, j < 10 → dW i = dW j → i = j := by decide
theorem dW_lt : ∀ i, i < 10 → dW i < 104 := by decide
theorem dW_s2 : ∀ i, i < 10 → 2 ≠ dW i := by decide
theorem dW_s3 : ∀ i, i < 10 → 3 ≠ dW i := by decide
def dG : Nat → Nat
  | 0 => 32
  | 1 => 33
  | 2 => 34
  | 3 => 35
  | 4 => 31
  | 5 => 36
  | 6 => 37
  | 7 => 9
  | 8 => 10
  | _ => 0
theorem dG_inj : ∀ i, i < 9 → ∀ j, j < 9 → dG i = dG j → i = j := by decide
theorem dG_lt : ∀ i, i < 9 → dG i < 104 := by decide
theorem dG_s8 : ∀ i, i < 9 → 8 ≠ dG i := by decide
theorem dG_s3 : ∀ i, i < 9 → 3 ≠ dG i := by decide
def dE : Nat → Nat
  | 0 => 47
  | 1 => 48
  | 2 => 49
  | 3 => 50
  | 4 => 51
  | _ => 0
theorem dE_inj : ∀ i, i < 5 → ∀ j, j < 5 → dE i = dE j → i = j := by decide
theorem dE_lt : ∀ i, i < 5 → dE i < 104 := by decide
theorem dE_s8 : ∀ i, i < 5 → 8 ≠ dE i := by decide
theorem dE_s2 : ∀ i, i < 5 → 2 ≠ dE i := by decide
def dH : Nat → Nat
  | 0 => 80
  | 1 => 81
  | 2 => 82
  | 3 => 83
  | 4 => 84
  | 5 => 79
  | 6 => 85
  | 7 => 86
  | 8 => 14
  | 9 => 15
  | _ => 0
theorem dH_inj : ∀ i, i < 10 → ∀ j, j < 10 → dH i = dH j → i = j := by decide
theorem dH_lt : ∀ i, i < 10 → dH i < 104 := by decide
theorem dH_s2 : ∀ i, i < 10 → 2 ≠ dH i := by decide
theorem dH_s3 : ∀ i, i < 10 → 3 ≠ dH i := by decide

set_option maxHeartbeats 4000000 in
set_option maxRecDepth 100000 in
theorem lawStoreFree_any (va : Value) (st : StoreD) (p : PtrD) (w : World) (hr : StoreD.Reads w va st) (hs : st.Small) (hi : -9223372036854775808 ≤ st.fTxg) :
    Calls Try.prog 8 #[va, .agg #[.int .i64 p.fAt, .int .i64 p.fBirth, .int .i64 p.fSize, .int .i64 p.fSum, .int .i64 p.fLevel]] w fun e w' => e = .returned (.bool true) ∧ Below w.heap.size w w' := by
  have HRd := Bx.mk hr
  obtain ⟨a0, c0, a1, c1, a2, c2, a4, c4, a6, c6, rfl, _⟩ := hr
  have HA := Bx.mk ((Box.new w [.slice a0 st.fRows.length c0, .slice a1 st.fSpace.fRefs.length c1, .slice a2 st.fSpace.fLast.length c2, .int .i64 st.fTxg, .slice a4 st.fGone.length c4, .int .i64 st.fKeep, .slice a6 st.fDead.length c6, .bool st.fSame] 63 rfl rfl).alloc (.cells #[.int .i64 p.fAt, .int .i64 p.fBirth, .int .i64 p.fSize, .int .i64 p.fSum, .int .i64 p.fLevel] 76))
  have HP := Bx.mk (Box.new (w.alloc (.cells #[.slice a0 st.fRows.length c0, .slice a1 st.fSpace.fRefs.length c1, .slice a2 st.fSpace.fLast.length c2, .int .i64 st.fTxg, .slice a4 st.fGone.length c4, .int .i64 st.fKeep, .slice a6 st.fDead.length c6, .bool st.fSame] 63)) [.int .i64 p.fAt, .int .i64 p.fBirth, .int .i64 p.fSize, .int .i64 p.fSum, .int .i64 p.fLevel] 76 rfl (b := w.heap.size + 1) (sz_alloc _ _).symm)
  have HB : Bx (Below w.heap.size w ((w.alloc (.cells #[.slice a0 st.fRows.length c0, .slice a1 st.fSpace.fRefs.length c1, .slice a2 st.fSpace.fLast.length c2, .int .i64 st.fTxg, .slice a4 st.fGone.length c4, .int .i64 st.fKeep, .slice a6 st.fDead.length c6, .bool st.fSame] 63)).alloc (.cells #[.int .i64 p.fAt, .int .i64 p.fBirth, .int .i64 p.fSize, .int .i64 p.fSum, .int .i64 p.fLevel] 76))) := ⟨((Below.refl _ _).alloc (Nat.le_refl _) _).alloc (by simp) _⟩
  have HSZ := szStore_any _ st 1048576 _ (by omega) (by omega) (HRd.out.below HB.out) hs
  by_cases h : (1048576 : Int) < (st.bulk : Nat)
  · rw [leftOf_no h] at HSZ
    have HC := Bx.mk HSZ
    clear HSZ
    go_enter Try.func8, Try.ntmps8
    go_wp2_with fail
    refine HC.out.mono ?_
    rintro e w1 ⟨rfl, b1⟩
    go_wp2
    go_ret
    exact ⟨rfl, HB.out.trans (b1.mono HB.out.size)⟩
  · rw [leftOf_yes (by omega)] at HSZ
    have HC := Bx.mk HSZ
    clear HSZ
    have hbk : (st.bulk : Int) ≤ 1048576 := by omega
    have hf : st.Fit := StoreD.fit (by omega)
    have hfs : (st.freed p).Fit := freed_fit (by omega)
    have hpk := past_pos st
    have hpg := past_pos (st.freed p)
    go_enter Try.func8, Try.ntmps8
    go_wp2_with fail
    refine HC.out.mono ?_
    rintro e w1 ⟨rfl, b⟩
    have hsz_w1 : w.heap.size + 1 < w1.heap.size := (HP.out.below b (Nat.le_refl _)).lt
    replace HA := Bx.mk (HA.out.below b (Nat.le_refl _))
    replace HP := Bx.mk (HP.out.below b (Nat.le_refl _))
    replace HB := Bx.mk (HB.out.trans (b.mono HB.out.size))
    clear b HC
    go_upto_region 5 with (fail)
    refine region_S1 (hm := by kernel_rfl) (hB := by kernel_rfl) (d := dW) (hd := dW_inj) (hN := dW_lt) (RM := (fun w B C v m => StoreD.Own w B C v (st.freed p) ∧ m = .bool (st.mayFree p))) (hRM := (fun _ _ _ _ _ _ h hb => ⟨h.1.below hb (Nat.le_refl _), h.2⟩)) (hRMo := (fun _ _ _ _ _ _ _ h hO hr => ⟨h.1.outside hO (by omega), h.2⟩)) (va0 := _) (s0 := 2) (hs0 := dW_s2) (ty0 := 63) (hl0 := (fun w1 hb => run_loadAt_box (HA.out.below hb (Nat.le_refl _)) 63 _ Try.underlying63 rfl (by kernel_rfl))) (va2 := _) (s2 := 3) (hs2 := dW_s3) (ty2 := 76) (hl2 := (fun w1 hb => run_loadAt_box (HP.out.below hb (Nat.le_refl _)) 76 _ Try.underlying76 rfl (by kernel_rfl))) (R1 := (fun w v => ∃ B C, StoreD.Own w B C v st)) (hR1 := (fun _ _ _ h hb => by obtain ⟨B, C, h⟩ := h; exact ⟨B, C, h.below hb (Nat.le_refl _)⟩)) (g1 := 33) (ts1 := _) (hg1 := (enter_of Try.func33 (by kernel_rfl) rfl)) (c1 := (fun w1 hb => (toStore_any _ st w1 hf (HRd.out.below (HB.out.trans (hb.mono HB.out.size)))).mono fun e w2 ⟨v, he, ho, hb2⟩ => ⟨v, he, ⟨_, _, ho⟩, hb2⟩)) (R3 := (fun _ v => v = .agg #[.int .i64 p.fAt, .int .i64 p.fBirth, .int .i64 p.fSize, .int .i64 p.fSum, .int .i64 p.fLevel])) (hR3 := (fun _ _ _ h _ => h)) (g3 := 39) (ts3 := _) (hg3 := (enter_of Try.func39 (by kernel_rfl) rfl)) (c3 := (fun w1 _ => (toPtr_any p w1).mono fun e w2 ⟨he, hb2⟩ => ⟨_, he, rfl, hb2⟩)) (gm := 38) (tsm := _) (hgm := (enter_of Try.func38 (by kernel_rfl) rfl)) (n0 := 8) (T0 := 68) (Z0 := [.slice none 0 0, .slice none 0 0, .slice none 0 0, .int .i64 0, .slice none 0 0, .int .i64 0, .slice none 0 0, .bool false]) (hZ0 := rfl) (hZn0 := rfl) (hal0 := fun w => by kernel_rfl) (hi0 := by kernel_rfl) (cm := (fun w1 y1 y3 _ h1 h3 => by obtain ⟨B, C, h1⟩ := h1; subst h3; exact (specStoreFree_any y1 st p B C w1 hf hi h1).mono fun e w2 ⟨v, he, ho, hb2⟩ => ⟨v, _, he, ho.cells, ⟨ho, rfl⟩, hb2⟩)) (h0 := rfl) (t0 := rfl) (w0 := rfl) (h1 := rfl) (t1 := rfl) (w1 := rfl) (h2 := rfl) (t2 := rfl) (w2 := rfl) (h3 := rfl) (t3 := rfl) (w3 := rfl) (h4 := rfl) (t4 := rfl) (w4 := rfl) (h5 := rfl) (t5 := rfl) (w5 := rfl) (h6 := rfl) (t6 := rfl) (w6 := rfl) (h7 := rfl) (t7 := rfl) (w7 := rfl) (h8 := rfl) (t8 := rfl) (w8 := rfl) (h9 := rfl) (t9 := rfl) (w9 := rfl) (h10 := rfl) (t10 := rfl) (w10 := rfl) (e1 := fun L h => by simp [Region.binds] at h; simp [h]) (e3 := fun L h => by simp [Region.binds] at h; simp [h]) (e4 := fun L h => by simp [Region.binds] at h; simp [h]) (e5 := fun L h => by simp [Region.binds] at h; simp [h]) (e6 := fun L h => by simp [Region.binds] at h; simp [h]) (e7 := fun L h => by simp [Region.binds] at h; simp [h]) (e9 := fun L h => by simp [Region.binds] at h; simp [h]) (e10 := fun L h => by simp [Region.binds] at h; simp [h]) (fin := ?_)
    intro w3 vw m Bw3 Cw3 bW _ _ _ _ _ _ _ _ b hR hlo hlohi hhi hbox hbb hbr
    obtain ⟨ow, rfl⟩ := hR
    have hsz_w3 : w1.heap.size ≤ w3.heap.size := b.size
    have hlt_w3 : bW < w3.heap.size := hbox.lt
    replace HA := Bx.mk (HA.out.below b (Nat.le_refl _))
    replace HP := Bx.mk (HP.out.below b (Nat.le_refl _))
    replace HB := Bx.mk (HB.out.trans (b.mono HB.out.size))
    have OW := Bx.mk ow
    have HW := Bx.mk hbox
    clear ow hbox b
    simp only [frameWith, List.foldl_cons, List.foldl_nil, dW, Exit.then, Act.put, List.setIfInBounds_toArray, List.set_cons_succ, List.set_cons_zero]
    go_wp2_with (((with_reducible refine wpList_load_box (op := ⟨some 29, .load 63 (.tmp 2), _, _, _, none⟩) ?ha0 63 (.tmp 2) ?hb0 (w.heap.size) 8 _ _ ?hc0 HA.out _ Try.underlying63 ?hd0 ?he0 ?_); (case ha0 => rfl); (case hb0 => rfl); (case hc0 => rfl); (case hd0 => rfl); (case he0 => kernel_rfl)))
    refine (toStore_any _ st w3 hf (HRd.out.below HB.out)).mono ?_
    rintro e w5 ⟨vx, rfl, ox, b⟩
    have hsz_w5 : w3.heap.size ≤ w5.heap.size := b.size
    replace HA := Bx.mk (HA.out.below b (Nat.le_refl _))
    replace HP := Bx.mk (HP.out.below b (Nat.le_refl _))
    replace OW := Bx.mk (OW.out.below b (Nat.le_refl _))
    replace HW := Bx.mk (HW.out.below b (Nat.le_refl _))
    replace HB := Bx.mk (HB.out.trans (b.mono HB.out.size))
    clear b
    have OX := Bx.mk ox
    clear ox
    have HN := Bx.mk (Box.new w5 [.slice none 0 0, .slice none 0 0, .slice none 0 0, .int .i64 0, .slice none 0 0, .int .i64 0, .slice none 0 0, .bool false] 68 rfl rfl)
    go_wp2_with (((with_reducible refine wpList_store_box (op := ⟨none, .store 68 (.tmp 8) (.tmp 30), _, _, _, none⟩) ?ga 68 (.tmp 8) (.tmp 30) ?gb w5.heap.size 8 _ _ _ ?gc ?gd HN.out OX.out.cells ?ge ?_); (case ga => rfl); (case gb => rfl); (case gc => rfl); (case gd => rfl); (case ge => kernel_rfl)))
    intro w6 hN hO _
    have b := below_put hO
    have hsz_w6 : w5.heap.size < w6.heap.size := hN.lt
    replace HA := Bx.mk (HA.out.below b (Nat.le_refl _))
    replace HP := Bx.mk (HP.out.below b (Nat.le_refl _))
    replace OW := Bx.mk (OW.out.below b (Nat.le_refl _))
    replace HW := Bx.mk (HW.out.below b (Nat.le_refl _))
    replace OX := Bx.mk (OX.out.below b (Nat.le_refl _))
    replace HB := Bx.mk (HB.out.trans (b.mono HB.out.size))
    have HX := Bx.mk hN
    clear hN hO b HN
    go_upto_region 7 with (fail)
    refine region_S2 (hm := by kernel_rfl) (hB := by kernel_rfl) (d := dG) (hd := dG_inj) (hN := dG_lt) (RM := (fun w B C v m => StoreD.Own w B C v (st.freed p) ∧ m = .bool (st.mayFree p))) (hRM := (fun _ _ _ _ _ _ h hb => ⟨h.1.below hb (Nat.le_refl _), h.2⟩)) (hRMo := (fun _ _ _ _ _ _ _ h hO hr => ⟨h.1.outside hO (by omega), h.2⟩)) (va0 := _) (s0 := 8) (hs0 := dG_s8) (ty0 := 68) (hl0 := (fun w1 hb => run_loadAt_box (HX.out.below hb (Nat.le_refl _)) 68 _ Try.underlying68 rfl (by kernel_rfl))) (va1 := _) (s1 := 3) (hs1 := dG_s3) (ty1 := 76) (hl1 := (fun w1 hb => run_loadAt_box (HP.out.below hb (Nat.le_refl _)) 76 _ Try.underlying76 rfl (by kernel_rfl))) (R2 := (fun _ v => v = .agg #[.int .i64 p.fAt, .int .i64 p.fBirth, .int .i64 p.fSize, .int .i64 p.fSum, .int .i64 p.fLevel])) (hR2 := (fun _ _ _ h _ => h)) (g2 := 39) (ts2 := _) (hg2 := (enter_of Try.func39 (by kernel_rfl) rfl)) (c2 := (fun w1 _ => (toPtr_any p w1).mono fun e w2 ⟨he, hb2⟩ => ⟨_, he, rfl, hb2⟩)) (gm := 40) (tsm := _) (hgm := (enter_of Try.func40 (by kernel_rfl) rfl)) (n0 := 8) (T0 := 68) (Z0 := [.slice none 0 0, .slice none 0 0, .slice none 0 0, .int .i64 0, .slice none 0 0, .int .i64 0, .slice none 0 0, .bool false]) (hZ0 := rfl) (hZn0 := rfl) (hal0 := fun w => by kernel_rfl) (hi0 := by kernel_rfl) (cm := (fun w1 y hb h3 => by subst h3; exact (implStoreFree_any _ st p _ _ w1 hf hi (OX.out.below hb (Nat.le_refl _))).mono fun e w2 ⟨v, he, ho, hb2⟩ => ⟨v, _, he, ho.cells, ⟨ho, rfl⟩, hb2⟩)) (h0 := rfl) (t0 := rfl) (w0 := rfl) (h1 := rfl) (t1 := rfl) (w1 := rfl) (h2 := rfl) (t2 := rfl) (w2 := rfl) (h3 := rfl) (t3 := rfl) (w3 := rfl) (h4 := rfl) (t4 := rfl) (w4 := rfl) (h5 := rfl) (t5 := rfl) (w5 := rfl) (h6 := rfl) (t6 := rfl) (w6 := rfl) (h7 := rfl) (t7 := rfl) (w7 := rfl) (h8 := rfl) (t8 := rfl) (w8 := rfl) (h9 := rfl) (t9 := rfl) (w9 := rfl) (e2 := fun L h => by simp [Region.binds] at h; simp [h]) (e3 := fun L h => by simp [Region.binds] at h; simp [h]) (e4 := fun L h => by simp [Region.binds] at h; simp [h]) (e5 := fun L h => by simp [Region.binds] at h; simp [h]) (e6 := fun L h => by simp [Region.binds] at h; simp [h]) (e8 := fun L h => by simp [Region.binds] at h; simp [h]) (e9 := fun L h => by simp [Region.binds] at h; simp [h]) (fin := ?_)
    intro w7 vg m Bw7 Cw7 bG _ _ _ _ _ _ _ b hR hlo hlohi hhi hbox hbb hbr
    obtain ⟨ow, rfl⟩ := hR
    have hsz_w7 : w6.heap.size ≤ w7.heap.size := b.size
    have hlt_w7 : bG < w7.heap.size := hbox.lt
    replace HA := Bx.mk (HA.out.below b (Nat.le_refl _))
    replace HP := Bx.mk (HP.out.below b (Nat.le_refl _))
    replace OW := Bx.mk (OW.out.below b (Nat.le_refl _))
    replace HW := Bx.mk (HW.out.below b (Nat.le_refl _))
    replace OX := Bx.mk (OX.out.below b (Nat.le_refl _))
    replace HX := Bx.mk (HX.out.below b (Nat.le_refl _))
    replace HB := Bx.mk (HB.out.trans (b.mono HB.out.size))
    have OG := Bx.mk ow
    have HG := Bx.mk hbox
    clear ow hbox b
    simp only [frameWith, List.foldl_cons, List.foldl_nil, dG, Exit.then, Act.put, List.setIfInBounds_toArray, List.set_cons_succ, List.set_cons_zero]
    go_wp2_with (first | ((with_reducible refine wpList_load_box (op := ⟨some 38, .load 68 (.tmp 9), _, _, _, none⟩) ?ha0 68 (.tmp 9) ?hb0 (bG) 8 _ _ ?hc0 HG.out _ Try.underlying68 ?hd0 ?he0 ?_); (case ha0 => rfl); (case hb0 => rfl); (case hc0 => rfl); (case hd0 => rfl); (case he0 => kernel_rfl)) | ((with_reducible refine wpList_load_box (op := ⟨some 39, .load 68 (.tmp 6), _, _, _, none⟩) ?ha1 68 (.tmp 6) ?hb1 (bW) 8 _ _ ?hc1 HW.out _ Try.underlying68 ?hd1 ?he1 ?_); (case ha1 => rfl); (case hb1 => rfl); (case hc1 => rfl); (case hd1 => rfl); (case he1 => kernel_rfl)))
    refine (eqStore_yes vg vw (st.freed p) w7 hfs OG.out.rd OW.out.rd).mono ?_
    rintro e w9 ⟨rfl, b⟩
    have hsz_w9 : w7.heap.size ≤ w9.heap.size := b.size
    replace HA := Bx.mk (HA.out.below b (Nat.le_refl _))
    replace HP := Bx.mk (HP.out.below b (Nat.le_refl _))
    replace OW := Bx.mk (OW.out.below b (Nat.le_refl _))
    replace HW := Bx.mk (HW.out.below b (Nat.le_refl _))
    replace OX := Bx.mk (OX.out.below b (Nat.le_refl _))
    replace HX := Bx.mk (HX.out.below b (Nat.le_refl _))
    replace OG := Bx.mk (OG.out.below b (Nat.le_refl _))
    replace HG := Bx.mk (HG.out.below b (Nat.le_refl _))
    replace HB := Bx.mk (HB.out.trans (b.mono HB.out.size))
    clear b
    go_upto_region 10 with (fail)
    refine region_EQ (hm := by kernel_rfl) (hB := by kernel_rfl) (d := dE) (hd := dE_inj) (hN := dE_lt) (vx := _) (sx := 8) (hsx := dE_s8) (tx := 68) (hlx := (fun w1 hb => run_loadAt_box (HX.out.below hb (Nat.le_refl _)) 68 _ Try.underlying68 rfl (by kernel_rfl))) (va := _) (sa := 2) (hsa := dE_s2) (ta := 63) (hla := (fun w1 hb => run_loadAt_box (HA.out.below hb (Nat.le_refl _)) 63 _ Try.underlying63 rfl (by kernel_rfl))) (R := fun w v => StoreD.Reads w v st) (hR := fun _ _ _ h hb => h.below hb) (f := 33) (ts := _) (hf := (enter_of Try.func33 (by kernel_rfl) rfl)) (cf := (fun w1 hb => (toStore_any _ st w1 hf (HRd.out.below (HB.out.trans (hb.mono HB.out.size)))).mono fun e w2 ⟨v, he, ho, hb2⟩ => ⟨v, he, ho.rd, hb2⟩)) (g := 35) (us := _) (hg := (enter_of Try.func35 (by kernel_rfl) rfl)) (cg := (fun w1 v hb h => eqStore_yes _ v st w1 hf (OX.out.rd.below hb) h)) (h0 := rfl) (t0 := rfl) (w0 := rfl) (h1 := rfl) (t1 := rfl) (w1 := rfl) (h2 := rfl) (t2 := rfl) (w2 := rfl) (h3 := rfl) (t3 := rfl) (w3 := rfl) (h4 := rfl) (t4 := rfl) (w4 := rfl) (e2 := fun L h => by simp [Region.binds] at h; simp [h]) (e3 := fun L h => by simp [Region.binds] at h; simp [h]) (e4 := fun L h => by simp [Region.binds] at h; simp [h]) (tb := _) (fin := ?_)
    intro w11 _ _ _ _ b
    have hsz_w11 : w9.heap.size ≤ w11.heap.size := b.size
    replace HA := Bx.mk (HA.out.below b (Nat.le_refl _))
    replace HP := Bx.mk (HP.out.below b (Nat.le_refl _))
    replace OW := Bx.mk (OW.out.below b (Nat.le_refl _))
    replace HW := Bx.mk (HW.out.below b (Nat.le_refl _))
    replace OX := Bx.mk (OX.out.below b (Nat.le_refl _))
    replace HX := Bx.mk (HX.out.below b (Nat.le_refl _))
    replace OG := Bx.mk (OG.out.below b (Nat.le_refl _))
    replace HG := Bx.mk (HG.out.below b (Nat.le_refl _))
    replace HB := Bx.mk (HB.out.trans (b.mono HB.out.size))
    clear b
    simp only [frameWith, List.foldl_cons, List.foldl_nil, dE, Exit.then, Act.put, List.setIfInBounds_toArray, List.set_cons_succ, List.set_cons_zero]
    go_wp2_with (((with_reducible refine wpList_load_box (op := ⟨some 52, .load 68 (.tmp 8), _, _, _, none⟩) ?ha0 68 (.tmp 8) ?hb0 (w5.heap.size) 8 _ _ ?hc0 HX.out _ Try.underlying68 ?hd0 ?he0 ?_); (case ha0 => rfl); (case hb0 => rfl); (case hc0 => rfl); (case hd0 => rfl); (case he0 => kernel_rfl)))
    refine (markStore_any vx st w3.heap.size w5.heap.size 1 w11 (by omega) (by omega) hf OX.out (by omega)).mono ?_
    rintro e w12 ⟨rfl, _, hO⟩
    clear OX HX
    have hsz_w12 : w11.heap.size ≤ w12.heap.size := hO.size
    replace HA := Bx.mk (HA.out.outside hO (.inl (by omega)))
    replace HP := Bx.mk (HP.out.outside hO (.inl (by omega)))
    replace OW := Bx.mk (OW.out.outside hO (.inl (by omega)))
    replace HW := Bx.mk (HW.out.outside hO (.inl (by omega)))
    replace OG := Bx.mk (OG.out.outside hO (.inr (by omega)))
    replace HG := Bx.mk (HG.out.outside hO (.inr (by omega)))
    replace HB := Bx.mk (HB.out.trans ((hO.below (by omega)).mono (by omega)))
    clear hO
    go_wp2_with (first | ((with_reducible refine wpList_load_boxg (op := ⟨some 58, .load 68 (.tmp 9), _, _, _, some _⟩) 68 (.tmp 9) ?ja0 ?jb0 (bG) 8 _ _ ?jc0 HG.out _ Try.underlying68 ?jd0 ?je0 ?_); (case ja0 => rfl); (case jb0 => rfl); (case jc0 => rfl); (case jd0 => rfl); (case je0 => kernel_rfl)) | ((with_reducible refine wpList_load_boxg (op := ⟨some 59, .load 68 (.tmp 6), _, _, _, some _⟩) 68 (.tmp 6) ?ja1 ?jb1 (bW) 8 _ _ ?jc1 HW.out _ Try.underlying68 ?jd1 ?je1 ?_); (case ja1 => rfl); (case jb1 => rfl); (case jc1 => rfl); (case jd1 => rfl); (case je1 => kernel_rfl)))
    refine (eqStore_yes vg vw (st.freed p) w12 hfs OG.out.rd OW.out.rd).mono ?_
    rintro e w13 ⟨rfl, b⟩
    have hsz_w13 : w12.heap.size ≤ w13.heap.size := b.size
    replace HA := Bx.mk (HA.out.below b (Nat.le_refl _))
    replace HP := Bx.mk (HP.out.below b (Nat.le_refl _))
    replace OW := Bx.mk (OW.out.below b (Nat.le_refl _))
    replace HW := Bx.mk (HW.out.below b (Nat.le_refl _))
    replace OG := Bx.mk (OG.out.below b (Nat.le_refl _))
    replace HG := Bx.mk (HG.out.below b (Nat.le_refl _))
    replace HB := Bx.mk (HB.out.trans (b.mono HB.out.size))
    clear b
    go_wp2_with (((with_reducible refine wpList_load_box (op := ⟨some 68, .load 68 (.tmp 9), _, _, _, none⟩) ?ha0 68 (.tmp 9) ?hb0 (bG) 8 _ _ ?hc0 HG.out _ Try.underlying68 ?hd0 ?he0 ?_); (case ha0 => rfl); (case hb0 => rfl); (case hc0 => rfl); (case hd0 => rfl); (case he0 => kernel_rfl)))
    refine (markStore_any vg (st.freed p) Bw7 Cw7 1 w13 (by omega) (by omega) hfs OG.out (by omega)).mono ?_
    rintro e w14 ⟨rfl, og, hO⟩
    clear OG
    have hsz_w14 : w13.heap.size ≤ w14.heap.size := hO.size
    replace HA := Bx.mk (HA.out.outside hO (.inl (by omega)))
    replace HP := Bx.mk (HP.out.outside hO (.inl (by omega)))
    replace HW := Bx.mk (HW.out.outside hO (.inl (by omega)))
    replace OW := Bx.mk (OW.out.outside hO (.inl (by omega)))
    replace HG := Bx.mk (HG.out.outside hO (by omega))
    replace HB := Bx.mk (HB.out.trans ((hO.below (by omega)).mono (by omega)))
    clear hO
    have OG := Bx.mk og
    clear og
    go_wp2_with (((with_reducible refine wpList_load_box (op := ⟨some 71, .load 68 (.tmp 9), _, _, _, none⟩) ?ha0 68 (.tmp 9) ?hb0 (bG) 8 _ _ ?hc0 HG.out _ Try.underlying68 ?hd0 ?he0 ?_); (case ha0 => rfl); (case hb0 => rfl); (case hc0 => rfl); (case hd0 => rfl); (case he0 => kernel_rfl)))
    refine (heldStore_any vg (st.freed p) 1 w14 (by omega) (by omega) hfs OG.out.rd).mono ?_
    rintro e w15 ⟨rfl, b⟩
    have hsz_w15 : w14.heap.size ≤ w15.heap.size := b.size
    replace HA := Bx.mk (HA.out.below b (Nat.le_refl _))
    replace HP := Bx.mk (HP.out.below b (Nat.le_refl _))
    replace OW := Bx.mk (OW.out.below b (Nat.le_refl _))
    replace HW := Bx.mk (HW.out.below b (Nat.le_refl _))
    replace HG := Bx.mk (HG.out.below b (Nat.le_refl _))
    replace OG := Bx.mk (OG.out.below b (Nat.le_refl _))
    replace HB := Bx.mk (HB.out.trans (b.mono HB.out.size))
    clear b
    go_upto_region 24 with (fail)
    refine region_S1 (hm := by kernel_rfl) (hB := by kernel_rfl) (d := dH) (hd := dH_inj) (hN := dH_lt) (RM := (fun w B C v m => StoreD.Own w B C v (st.freed p) ∧ m = .bool (st.mayFree p))) (hRM := (fun _ _ _ _ _ _ h hb => ⟨h.1.below hb (Nat.le_refl _), h.2⟩)) (hRMo := (fun _ _ _ _ _ _ _ h hO hr => ⟨h.1.outside hO (by omega), h.2⟩)) (va0 := _) (s0 := 2) (hs0 := dH_s2) (ty0 := 63) (hl0 := (fun w1 hb => run_loadAt_box (HA.out.below hb (Nat.le_refl _)) 63 _ Try.underlying63 rfl (by kernel_rfl))) (va2 := _) (s2 := 3) (hs2 := dH_s3) (ty2 := 76) (hl2 := (fun w1 hb => run_loadAt_box (HP.out.below hb (Nat.le_refl _)) 76 _ Try.underlying76 rfl (by kernel_rfl))) (R1 := (fun w v => ∃ B C, StoreD.Own w B C v st)) (hR1 := (fun _ _ _ h hb => by obtain ⟨B, C, h⟩ := h; exact ⟨B, C, h.below hb (Nat.le_refl _)⟩)) (g1 := 33) (ts1 := _) (hg1 := (enter_of Try.func33 (by kernel_rfl) rfl)) (c1 := (fun w1 hb => (toStore_any _ st w1 hf (HRd.out.below (HB.out.trans (hb.mono HB.out.size)))).mono fun e w2 ⟨v, he, ho, hb2⟩ => ⟨v, he, ⟨_, _, ho⟩, hb2⟩)) (R3 := (fun _ v => v = .agg #[.int .i64 p.fAt, .int .i64 p.fBirth, .int .i64 p.fSize, .int .i64 p.fSum, .int .i64 p.fLevel])) (hR3 := (fun _ _ _ h _ => h)) (g3 := 39) (ts3 := _) (hg3 := (enter_of Try.func39 (by kernel_rfl) rfl)) (c3 := (fun w1 _ => (toPtr_any p w1).mono fun e w2 ⟨he, hb2⟩ => ⟨_, he, rfl, hb2⟩)) (gm := 40) (tsm := _) (hgm := (enter_of Try.func40 (by kernel_rfl) rfl)) (n0 := 8) (T0 := 68) (Z0 := [.slice none 0 0, .slice none 0 0, .slice none 0 0, .int .i64 0, .slice none 0 0, .int .i64 0, .slice none 0 0, .bool false]) (hZ0 := rfl) (hZn0 := rfl) (hal0 := fun w => by kernel_rfl) (hi0 := by kernel_rfl) (cm := (fun w1 y1 y3 _ h1 h3 => by obtain ⟨B, C, h1⟩ := h1; subst h3; exact (implStoreFree_any y1 st p B C w1 hf hi h1).mono fun e w2 ⟨v, he, ho, hb2⟩ => ⟨v, _, he, ho.cells, ⟨ho, rfl⟩, hb2⟩)) (h0 := rfl) (t0 := rfl) (w0 := rfl) (h1 := rfl) (t1 := rfl) (w1 := rfl) (h2 := rfl) (t2 := rfl) (w2 := rfl) (h3 := rfl) (t3 := rfl) (w3 := rfl) (h4 := rfl) (t4 := rfl) (w4 := rfl) (h5 := rfl) (t5 := rfl) (w5 := rfl) (h6 := rfl) (t6 := rfl) (w6 := rfl) (h7 := rfl) (t7 := rfl) (w7 := rfl) (h8 := rfl) (t8 := rfl) (w8 := rfl) (h9 := rfl) (t9 := rfl) (w9 := rfl) (h10 := rfl) (t10 := rfl) (w10 := rfl) (e1 := fun L h => by simp [Region.binds] at h; simp [h]) (e3 := fun L h => by simp [Region.binds] at h; simp [h]) (e4 := fun L h => by simp [Region.binds] at h; simp [h]) (e5 := fun L h => by simp [Region.binds] at h; simp [h]) (e6 := fun L h => by simp [Region.binds] at h; simp [h]) (e7 := fun L h => by simp [Region.binds] at h; simp [h]) (e9 := fun L h => by simp [Region.binds] at h; simp [h]) (e10 := fun L h => by simp [Region.binds] at h; simp [h]) (fin := ?_)
    intro w18 vh m Bw18 Cw18 bH _ _ _ _ _ _ _ _ b hR hlo hlohi hhi hbox hbb hbr
    obtain ⟨ow, rfl⟩ := hR
    have hsz_w18 : w15.heap.size ≤ w18.heap.size := b.size
    have hlt_w18 : bH < w18.heap.size := hbox.lt
    replace HA := Bx.mk (HA.out.below b (Nat.le_refl _))
    replace HP := Bx.mk (HP.out.below b (Nat.le_refl _))
    replace OW := Bx.mk (OW.out.below b (Nat.le_refl _))
    replace HW := Bx.mk (HW.out.below b (Nat.le_refl _))
    replace HG := Bx.mk (HG.out.below b (Nat.le_refl _))
    replace OG := Bx.mk (OG.out.below b (Nat.le_refl _))
    replace HB := Bx.mk (HB.out.trans (b.mono HB.out.size))
    have OH := Bx.mk ow
    have HH := Bx.mk hbox
    clear ow hbox b
    simp only [frameWith, List.foldl_cons, List.foldl_nil, dH, Exit.then, Act.put, List.setIfInBounds_toArray, List.set_cons_succ, List.set_cons_zero]
    go_wp2_with (first | ((with_reducible refine wpList_load_box (op := ⟨some 87, .load 68 (.tmp 14), _, _, _, none⟩) ?ha0 68 (.tmp 14) ?hb0 (bH) 8 _ _ ?hc0 HH.out _ Try.underlying68 ?hd0 ?he0 ?_); (case ha0 => rfl); (case hb0 => rfl); (case hc0 => rfl); (case hd0 => rfl); (case he0 => kernel_rfl)) | ((with_reducible refine wpList_load_box (op := ⟨some 88, .load 68 (.tmp 6), _, _, _, none⟩) ?ha1 68 (.tmp 6) ?hb1 (bW) 8 _ _ ?hc1 HW.out _ Try.underlying68 ?hd1 ?he1 ?_); (case ha1 => rfl); (case hb1 => rfl); (case hc1 => rfl); (case hd1 => rfl); (case he1 => kernel_rfl)))
    refine (eqStore_yes vh vw (st.freed p) w18 hfs OH.out.rd OW.out.rd).mono ?_
    rintro e w19 ⟨rfl, b⟩
    have hsz_w19 : w18.heap.size ≤ w19.heap.size := b.size
    replace HA := Bx.mk (HA.out.below b (Nat.le_refl _))
    replace HP := Bx.mk (HP.out.below b (Nat.le_refl _))
    replace OW := Bx.mk (OW.out.below b (Nat.le_refl _))
    replace HW := Bx.mk (HW.out.below b (Nat.le_refl _))
    replace HG := Bx.mk (HG.out.below b (Nat.le_refl _))
    replace OG := Bx.mk (OG.out.below b (Nat.le_refl _))
    replace OH := Bx.mk (OH.out.below b (Nat.le_refl _))
    replace HH := Bx.mk (HH.out.below b (Nat.le_refl _))
    replace HB := Bx.mk (HB.out.trans (b.mono HB.out.size))
    clear b
    go_wp2_with (((with_reducible refine wpList_load_box (op := ⟨some 96, .load 68 (.tmp 9), _, _, _, none⟩) ?ha0 68 (.tmp 9) ?hb0 (bG) 8 _ _ ?hc0 HG.out _ Try.underlying68 ?hd0 ?he0 ?_); (case ha0 => rfl); (case hb0 => rfl); (case hc0 => rfl); (case hd0 => rfl); (case he0 => kernel_rfl)))
    refine (heldStore_any vg (st.freed p) 1 w19 (by omega) (by omega) hfs OG.out.rd).mono ?_
    rintro e w20 ⟨rfl, b⟩
    replace HB := Bx.mk (HB.out.trans (b.mono HB.out.size))
    clear b
    go_wp2
    go_ret
    exact ⟨rfl, HB.out⟩
end Go.Proofs.Ytkgmilobmbeplaa
