/- FnExactTaleSame: the law's walk. -/
import Derived.Test.YtkgmilobmbeplaaSameL
import Derived.Test.YtkgmilobmbeplaaShapeS
import Derived.Test.YtkgmilobmbeplaaShapeE
import Derived.Deep.Cut
namespace Go.Proofs.Ytkgmilobmbeplaa
open Go.RowKit

theorem TaleD.Reads.cells {w : World} {v : Value} {x : TaleD} (h : TaleD.Reads w v x) : Cells 2 v := by
  obtain ⟨a0, c0, a1, c1, rfl, _⟩ := h
  exact ⟨_, rfl, rfl, by intro u hu; simp at hu; rcases hu with rfl | rfl <;> rfl⟩

def dS : Nat → Nat
  | 0 => 20
  | 1 => 21
  | 2 => 22
  | 3 => 23
  | 4 => 24
  | 5 => 6
  | _ => 0
theorem dS_inj : ∀ i, i < 6 → ∀ j, j < 6 → dS i = dS j → i = j := by decide
theorem dS_lt : ∀ i, i < 6 → dS i < 45 := by decide
theorem dS_s2 : ∀ i, i < 6 → 2 ≠ dS i := by decide
theorem dS_s3 : ∀ i, i < 6 → 3 ≠ dS i := by decide
def dU : Nat → Nat
  | 0 => 35
  | 1 => 36
  | 2 => 37
  | 3 => 38
  | 4 => 39
  | _ => 0
theorem dU_inj : ∀ i, i < 5 → ∀ j, j < 5 → dU i = dU j → i = j := by decide
theorem dU_lt : ∀ i, i < 5 → dU i < 45 := by decide
theorem dU_s7 : ∀ i, i < 5 → 7 ≠ dU i := by decide
theorem dU_s2 : ∀ i, i < 5 → 2 ≠ dU i := by decide
def dV : Nat → Nat
  | 0 => 40
  | 1 => 41
  | 2 => 42
  | 3 => 43
  | 4 => 44
  | _ => 0
theorem dV_inj : ∀ i, i < 5 → ∀ j, j < 5 → dV i = dV j → i = j := by decide
theorem dV_lt : ∀ i, i < 5 → dV i < 45 := by decide
theorem dV_s8 : ∀ i, i < 5 → 8 ≠ dV i := by decide
theorem dV_s3 : ∀ i, i < 5 → 3 ≠ dV i := by decide

set_option maxHeartbeats 4000000 in
set_option maxRecDepth 100000 in
theorem lawTaleSame_any (va vb : Value) (x y : TaleD) (w : World) (hr : TaleD.Reads w va x) (hs : x.Small) (hr2 : TaleD.Reads w vb y) (hs2 : y.Small) :
    Calls Try.prog 5 #[va, vb] w fun e w' => e = .returned (.bool true) ∧ Below w.heap.size w w' := by
  have RX := Bx.mk hr
  have RY := Bx.mk hr2
  obtain ⟨a0, c0, a1, c1, rfl, _⟩ := hr
  obtain ⟨b0, d0, b1, d1, rfl, _⟩ := hr2
  have HA := Bx.mk ((Box.new w [.slice a0 x.fHeads.length c0, .slice a1 x.fSnaps.length c1] 36 rfl rfl).alloc (.cells #[.slice b0 y.fHeads.length d0, .slice b1 y.fSnaps.length d1] 36))
  have HB2 := Bx.mk (Box.new (w.alloc (.cells #[.slice a0 x.fHeads.length c0, .slice a1 x.fSnaps.length c1] 36)) [.slice b0 y.fHeads.length d0, .slice b1 y.fSnaps.length d1] 36 rfl (b := w.heap.size + 1) (sz_alloc _ _).symm)
  have HB : Bx (Below w.heap.size w ((w.alloc (.cells #[.slice a0 x.fHeads.length c0, .slice a1 x.fSnaps.length c1] 36)).alloc (.cells #[.slice b0 y.fHeads.length d0, .slice b1 y.fSnaps.length d1] 36))) := ⟨((Below.refl _ _).alloc (Nat.le_refl _) _).alloc (by simp) _⟩
  replace RX := Bx.mk (RX.out.below HB.out)
  replace RY := Bx.mk (RY.out.below HB.out)
  have HSZ := szTale_any _ x 1048576 _ (by omega) (by omega) RX.out hs
  by_cases h : (1048576 : Int) < (x.bulk : Nat)
  · rw [leftOf_no h] at HSZ
    have HC := Bx.mk HSZ
    clear HSZ
    go_enter Try.func5, Try.ntmps5
    go_wp2_with fail
    refine HC.out.mono ?_
    rintro e w1 ⟨rfl, b1⟩
    go_wp2
    go_ret
    exact ⟨rfl, HB.out.trans (b1.mono HB.out.size)⟩
  rw [leftOf_yes (by omega)] at HSZ
  have fx : x.Fit := TaleD.fit (by omega)
  generalize hm : (1048576 : Int) - (x.bulk : Nat) = m at HSZ
  have hm0 : 0 ≤ m := by omega
  have hm1 : m ≤ 1048576 := by omega
  have HC := Bx.mk HSZ
  clear HSZ hm h
  go_enter Try.func5, Try.ntmps5
  go_wp2_with fail
  refine HC.out.mono ?_
  rintro e w1 ⟨rfl, b⟩
  have hsz_w1 : w.heap.size + 1 < w1.heap.size := (HB2.out.below b (Nat.le_refl _)).lt
  replace HA := Bx.mk (HA.out.below b (Nat.le_refl _))
  replace HB2 := Bx.mk (HB2.out.below b (Nat.le_refl _))
  replace RX := Bx.mk (RX.out.below b)
  replace RY := Bx.mk (RY.out.below b)
  replace HB := Bx.mk (HB.out.trans (b.mono HB.out.size))
  clear b HC
  have HSZ := szTale_any _ y m w1 hm0 hm1 RY.out hs2
  by_cases h : m < (y.bulk : Nat)
  · rw [leftOf_no h] at HSZ
    have HC := Bx.mk HSZ
    clear HSZ
    go_wp2_with (((with_reducible refine wpList_load_box (op := ⟨some 15, .load 36 (.tmp 3), _, _, _, none⟩) ?ha0 36 (.tmp 3) ?hb0 (w.heap.size + 1) 2 _ _ ?hc0 HB2.out _ Try.underlying36 ?hd0 ?he0 ?_); (case ha0 => rfl); (case hb0 => rfl); (case hc0 => rfl); (case hd0 => rfl); (case he0 => kernel_rfl)))
    refine HC.out.mono ?_
    rintro e w2 ⟨rfl, b1⟩
    go_wp2
    go_ret
    exact ⟨rfl, HB.out.trans (b1.mono HB.out.size)⟩
  rw [leftOf_yes (by omega)] at HSZ
  have fy : y.Fit := TaleD.fit (by omega)
  generalize hm2 : m - ((y.bulk : Nat) : Int) = m2 at HSZ
  have hm20 : 0 ≤ m2 := by omega
  have HC := Bx.mk HSZ
  clear HSZ hm2 h
  go_wp2_with (((with_reducible refine wpList_load_box (op := ⟨some 15, .load 36 (.tmp 3), _, _, _, none⟩) ?ha0 36 (.tmp 3) ?hb0 (w.heap.size + 1) 2 _ _ ?hc0 HB2.out _ Try.underlying36 ?hd0 ?he0 ?_); (case ha0 => rfl); (case hb0 => rfl); (case hc0 => rfl); (case hd0 => rfl); (case he0 => kernel_rfl)))
  refine HC.out.mono ?_
  rintro e w2 ⟨rfl, b⟩
  have hsz_w2 := b.size
  replace HA := Bx.mk (HA.out.below b (Nat.le_refl _))
  replace HB2 := Bx.mk (HB2.out.below b (Nat.le_refl _))
  replace RX := Bx.mk (RX.out.below b)
  replace RY := Bx.mk (RY.out.below b)
  replace HB := Bx.mk (HB.out.trans (b.mono HB.out.size))
  clear b HC
  go_upto_region 8 with (fail)
  refine region_S3 (hm := by kernel_rfl) (hB := by kernel_rfl) (d := dS) (hd := dS_inj) (hN := dS_lt) (RM := fun _ _ _ v => v = .bool (TaleD.same x y)) (hRM := fun _ _ _ _ _ h _ => h) (hRMo := fun _ _ _ _ _ _ h _ _ => h) (va0 := _) (s0 := 2) (hs0 := dS_s2) (ty0 := 36) (hl0 := (fun w1 hb => run_loadAt_box (HA.out.below hb (Nat.le_refl _)) 36 _ Try.underlying36 rfl (by kernel_rfl))) (va2 := _) (s2 := 3) (hs2 := dS_s3) (ty2 := 36) (hl2 := (fun w1 hb => run_loadAt_box (HB2.out.below hb (Nat.le_refl _)) 36 _ Try.underlying36 rfl (by kernel_rfl))) (R1 := (fun w v => TaleD.Reads w v x)) (hR1 := (fun _ _ _ h hb => h.below hb)) (g1 := 18) (ts1 := _) (hg1 := (enter_of Try.func18 (by kernel_rfl) rfl)) (c1 := (fun w1 hb => (toTale_any _ x w1 fx (RX.out.below hb)).mono fun e w2 ⟨v, he, ho, hb2⟩ => ⟨v, he, ho, hb2⟩)) (R3 := (fun w v => TaleD.Reads w v y)) (hR3 := (fun _ _ _ h hb => h.below hb)) (g3 := 18) (ts3 := _) (hg3 := (enter_of Try.func18 (by kernel_rfl) rfl)) (c3 := (fun w1 hb => (toTale_any _ y w1 fy (RY.out.below hb)).mono fun e w2 ⟨v, he, ho, hb2⟩ => ⟨v, he, ho, hb2⟩)) (gm := 17) (tsm := _) (hgm := (enter_of Try.func17 (by kernel_rfl) rfl)) (cm := (fun w1 y1 y3 _ h1 h3 => (taleSameS_any y1 y3 x y w1 fx h1 h3).mono fun e w2 ⟨he, hb2⟩ => ⟨_, he, rfl, hb2⟩)) (h0 := rfl) (t0 := rfl) (w0 := rfl) (h1 := rfl) (t1 := rfl) (w1 := rfl) (h2 := rfl) (t2 := rfl) (w2 := rfl) (h3 := rfl) (t3 := rfl) (w3 := rfl) (h4 := rfl) (t4 := rfl) (w4 := rfl) (h5 := rfl) (t5 := rfl) (w5 := rfl) (e1 := fun L h => by simp [Region.binds] at h; simp [h]) (e3 := fun L h => by simp [Region.binds] at h; simp [h]) (e4 := fun L h => by simp [Region.binds] at h; simp [h]) (e5 := fun L h => by simp [Region.binds] at h; simp [h]) (fin := ?_)
  intro w3 v lo hi _ _ _ _ _ b hR _ _ _
  subst hR
  have hsz_w3 := b.size
  replace HA := Bx.mk (HA.out.below b (Nat.le_refl _))
  replace HB2 := Bx.mk (HB2.out.below b (Nat.le_refl _))
  replace RX := Bx.mk (RX.out.below b)
  replace RY := Bx.mk (RY.out.below b)
  replace HB := Bx.mk (HB.out.trans (b.mono HB.out.size))
  clear b
  simp only [frameWith, List.foldl_cons, List.foldl_nil, dS, Exit.then, Act.put, List.setIfInBounds_toArray, List.set_cons_succ, List.set_cons_zero]
  go_wp2_with (((with_reducible refine wpList_load_box (op := ⟨some 25, .load 36 (.tmp 2), _, _, _, none⟩) ?ha0 36 (.tmp 2) ?hb0 (w.heap.size) 2 _ _ ?hc0 HA.out _ Try.underlying36 ?hd0 ?he0 ?_); (case ha0 => rfl); (case hb0 => rfl); (case hc0 => rfl); (case hd0 => rfl); (case he0 => kernel_rfl)))
  refine (toTale_any _ x w3 fx RX.out).mono ?_
  rintro e w4 ⟨vx, rfl, rd, b⟩
  have hsz_w4 : w3.heap.size ≤ w4.heap.size := b.size
  replace HA := Bx.mk (HA.out.below b (Nat.le_refl _))
  replace HB2 := Bx.mk (HB2.out.below b (Nat.le_refl _))
  replace RX := Bx.mk (RX.out.below b)
  replace RY := Bx.mk (RY.out.below b)
  replace HB := Bx.mk (HB.out.trans (b.mono HB.out.size))
  clear b
  have SX := Bx.mk rd
  clear rd
  have HN := Bx.mk (Box.new w4 [.slice none 0 0, .slice none 0 0] 41 rfl rfl)
  go_wp2_with (((with_reducible refine wpList_store_box (op := ⟨none, .store 41 (.tmp 7) (.tmp 26), _, _, _, none⟩) ?ga 41 (.tmp 7) (.tmp 26) ?gb w4.heap.size 2 _ _ _ ?gc ?gd HN.out SX.out.cells ?ge ?_); (case ga => rfl); (case gb => rfl); (case gc => rfl); (case gd => rfl); (case ge => kernel_rfl)))
  intro w5 hN hO _
  have b := below_put hO
  have hsz_w5 : w4.heap.size < w5.heap.size := hN.lt
  replace HA := Bx.mk (HA.out.below b (Nat.le_refl _))
  replace HB2 := Bx.mk (HB2.out.below b (Nat.le_refl _))
  replace RX := Bx.mk (RX.out.below b)
  replace RY := Bx.mk (RY.out.below b)
  replace SX := Bx.mk (SX.out.below b)
  replace HB := Bx.mk (HB.out.trans (b.mono HB.out.size))
  have HX := Bx.mk hN
  clear hN hO b HN
  go_wp2_with (((with_reducible refine wpList_load_box (op := ⟨some 27, .load 36 (.tmp 3), _, _, _, none⟩) ?ha0 36 (.tmp 3) ?hb0 (w.heap.size + 1) 2 _ _ ?hc0 HB2.out _ Try.underlying36 ?hd0 ?he0 ?_); (case ha0 => rfl); (case hb0 => rfl); (case hc0 => rfl); (case hd0 => rfl); (case he0 => kernel_rfl)))
  refine (toTale_any _ y w5 fy RY.out).mono ?_
  rintro e w6 ⟨vy, rfl, rd, b⟩
  have hsz_w6 : w5.heap.size ≤ w6.heap.size := b.size
  replace HA := Bx.mk (HA.out.below b (Nat.le_refl _))
  replace HB2 := Bx.mk (HB2.out.below b (Nat.le_refl _))
  replace HX := Bx.mk (HX.out.below b (Nat.le_refl _))
  replace RX := Bx.mk (RX.out.below b)
  replace RY := Bx.mk (RY.out.below b)
  replace SX := Bx.mk (SX.out.below b)
  replace HB := Bx.mk (HB.out.trans (b.mono HB.out.size))
  clear b
  have SY := Bx.mk rd
  clear rd
  have HN := Bx.mk (Box.new w6 [.slice none 0 0, .slice none 0 0] 41 rfl rfl)
  go_wp2_with (((with_reducible refine wpList_store_box (op := ⟨none, .store 41 (.tmp 8) (.tmp 28), _, _, _, none⟩) ?ga 41 (.tmp 8) (.tmp 28) ?gb w6.heap.size 2 _ _ _ ?gc ?gd HN.out SY.out.cells ?ge ?_); (case ga => rfl); (case gb => rfl); (case gc => rfl); (case gd => rfl); (case ge => kernel_rfl)))
  intro w7 hN hO _
  have b := below_put hO
  have hsz_w7 : w6.heap.size < w7.heap.size := hN.lt
  replace HA := Bx.mk (HA.out.below b (Nat.le_refl _))
  replace HB2 := Bx.mk (HB2.out.below b (Nat.le_refl _))
  replace HX := Bx.mk (HX.out.below b (Nat.le_refl _))
  replace RX := Bx.mk (RX.out.below b)
  replace RY := Bx.mk (RY.out.below b)
  replace SX := Bx.mk (SX.out.below b)
  replace SY := Bx.mk (SY.out.below b)
  replace HB := Bx.mk (HB.out.trans (b.mono HB.out.size))
  have HY := Bx.mk hN
  clear hN hO b HN
  go_wp2_with (first | ((with_reducible refine wpList_load_box (op := ⟨some 29, .load 41 (.tmp 7), _, _, _, none⟩) ?ha0 41 (.tmp 7) ?hb0 w4.heap.size 2 _ _ ?hc0 HX.out _ Try.underlying41 ?hd0 ?he0 ?_); (case ha0 => rfl); (case hb0 => rfl); (case hc0 => rfl); (case hd0 => rfl); (case he0 => kernel_rfl)) | ((with_reducible refine wpList_load_box (op := ⟨some 30, .load 41 (.tmp 8), _, _, _, none⟩) ?ha1 41 (.tmp 8) ?hb1 w6.heap.size 2 _ _ ?hc1 HY.out _ Try.underlying41 ?hd1 ?he1 ?_); (case ha1 => rfl); (case hb1 => rfl); (case hc1 => rfl); (case hd1 => rfl); (case he1 => kernel_rfl)))
  refine (taleSameI_any vx vy x y w7 fx SX.out SY.out).mono ?_
  rintro e w8 ⟨rfl, b⟩
  have hsz_w8 := b.size
  replace HA := Bx.mk (HA.out.below b (Nat.le_refl _))
  replace HB2 := Bx.mk (HB2.out.below b (Nat.le_refl _))
  replace HX := Bx.mk (HX.out.below b (Nat.le_refl _))
  replace HY := Bx.mk (HY.out.below b (Nat.le_refl _))
  replace RX := Bx.mk (RX.out.below b)
  replace RY := Bx.mk (RY.out.below b)
  replace SX := Bx.mk (SX.out.below b)
  replace SY := Bx.mk (SY.out.below b)
  replace HB := Bx.mk (HB.out.trans (b.mono HB.out.size))
  clear b
  generalize TaleD.same x y = rr
  go_upto_region 14 with (fail)
  refine region_EQ (hm := by kernel_rfl) (hB := by kernel_rfl) (d := dU) (hd := dU_inj) (hN := dU_lt) (vx := _) (sx := 7) (hsx := dU_s7) (tx := 41) (hlx := (fun w1 hb => run_loadAt_box (HX.out.below hb (Nat.le_refl _)) 41 _ Try.underlying41 rfl (by kernel_rfl))) (va := _) (sa := 2) (hsa := dU_s2) (ta := 36) (hla := (fun w1 hb => run_loadAt_box (HA.out.below hb (Nat.le_refl _)) 36 _ Try.underlying36 rfl (by kernel_rfl))) (R := (fun w v => TaleD.Reads w v x)) (hR := (fun _ _ _ h hb => h.below hb)) (f := 18) (ts := _) (hf := (enter_of Try.func18 (by kernel_rfl) rfl)) (cf := (fun w1 hb => (toTale_any _ x w1 fx (RX.out.below hb)).mono fun e w2 ⟨v, he, ho, hb2⟩ => ⟨v, he, ho, hb2⟩)) (g := 20) (us := _) (hg := (enter_of Try.func20 (by kernel_rfl) rfl)) (cg := (fun w1 v hb h => eqTale_yes _ v x w1 fx (SX.out.below hb) h)) (h0 := rfl) (t0 := rfl) (w0 := rfl) (h1 := rfl) (t1 := rfl) (w1 := rfl) (h2 := rfl) (t2 := rfl) (w2 := rfl) (h3 := rfl) (t3 := rfl) (w3 := rfl) (h4 := rfl) (t4 := rfl) (w4 := rfl) (e2 := fun L h => by simp [Region.binds] at h; simp [h]) (e3 := fun L h => by simp [Region.binds] at h; simp [h]) (e4 := fun L h => by simp [Region.binds] at h; simp [h]) (tb := _) (fin := ?_)
  intro w9 _ _ _ _ b
  replace HA := Bx.mk (HA.out.below b (Nat.le_refl _))
  replace HB2 := Bx.mk (HB2.out.below b (Nat.le_refl _))
  replace HX := Bx.mk (HX.out.below b (Nat.le_refl _))
  replace HY := Bx.mk (HY.out.below b (Nat.le_refl _))
  replace RX := Bx.mk (RX.out.below b)
  replace RY := Bx.mk (RY.out.below b)
  replace SX := Bx.mk (SX.out.below b)
  replace SY := Bx.mk (SY.out.below b)
  replace HB := Bx.mk (HB.out.trans (b.mono HB.out.size))
  clear b
  simp only [frameWith, List.foldl_cons, List.foldl_nil, dU, Exit.then, Act.put, List.setIfInBounds_toArray, List.set_cons_succ, List.set_cons_zero]
  go_upto_region 16 with (fail)
  refine region_EQ (hm := by kernel_rfl) (hB := by kernel_rfl) (d := dV) (hd := dV_inj) (hN := dV_lt) (vx := _) (sx := 8) (hsx := dV_s8) (tx := 41) (hlx := (fun w1 hb => run_loadAt_box (HY.out.below hb (Nat.le_refl _)) 41 _ Try.underlying41 rfl (by kernel_rfl))) (va := _) (sa := 3) (hsa := dV_s3) (ta := 36) (hla := (fun w1 hb => run_loadAt_box (HB2.out.below hb (Nat.le_refl _)) 36 _ Try.underlying36 rfl (by kernel_rfl))) (R := (fun w v => TaleD.Reads w v y)) (hR := (fun _ _ _ h hb => h.below hb)) (f := 18) (ts := _) (hf := (enter_of Try.func18 (by kernel_rfl) rfl)) (cf := (fun w1 hb => (toTale_any _ y w1 fy (RY.out.below hb)).mono fun e w2 ⟨v, he, ho, hb2⟩ => ⟨v, he, ho, hb2⟩)) (g := 20) (us := _) (hg := (enter_of Try.func20 (by kernel_rfl) rfl)) (cg := (fun w1 v hb h => eqTale_yes _ v y w1 fy (SY.out.below hb) h)) (h0 := rfl) (t0 := rfl) (w0 := rfl) (h1 := rfl) (t1 := rfl) (w1 := rfl) (h2 := rfl) (t2 := rfl) (w2 := rfl) (h3 := rfl) (t3 := rfl) (w3 := rfl) (h4 := rfl) (t4 := rfl) (w4 := rfl) (e2 := fun L h => by simp [Region.binds] at h; simp [h]) (e3 := fun L h => by simp [Region.binds] at h; simp [h]) (e4 := fun L h => by simp [Region.binds] at h; simp [h]) (tb := _) (fin := ?_)
  intro w10 _ _ _ _ b
  replace HA := Bx.mk (HA.out.below b (Nat.le_refl _))
  replace HB2 := Bx.mk (HB2.out.below b (Nat.le_refl _))
  replace HX := Bx.mk (HX.out.below b (Nat.le_refl _))
  replace HY := Bx.mk (HY.out.below b (Nat.le_refl _))
  replace RX := Bx.mk (RX.out.below b)
  replace RY := Bx.mk (RY.out.below b)
  replace SX := Bx.mk (SX.out.below b)
  replace SY := Bx.mk (SY.out.below b)
  replace HB := Bx.mk (HB.out.trans (b.mono HB.out.size))
  clear b
  simp only [frameWith, List.foldl_cons, List.foldl_nil, dV, Exit.then, Act.put, List.setIfInBounds_toArray, List.set_cons_succ, List.set_cons_zero]
  go_wp2
  go_ret
  exact ⟨rfl, HB.out⟩
end Go.Proofs.Ytkgmilobmbeplaa
