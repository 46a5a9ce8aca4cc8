/- The reference's sameness of rows of what is told, and of tales. -/
import Derived.Test.YtkgmilobmbeplaaSameS
namespace Go.Proofs.Ytkgmilobmbeplaa
open Go.RowKit

set_option maxHeartbeats 2000000 in
set_option maxRecDepth 100000 in
theorem l29List_any (ao bo : Option Addr) (n m cap cap2 : Nat) (xs ys : List ToldD) (w : World) (hlen : n ≤ 1048576) (hr : ToldRd w ao n xs) (hr2 : ToldRd w bo m ys) (hf : ∀ x ∈ xs, x.Fit) :
    Calls Try.prog 51 #[.slice ao n cap, .slice bo m cap2] w fun e w' => e = .returned (.bool (sameL ToldD.same xs ys)) ∧ Below w.heap.size w w' := by
  by_cases hnm : n = m
  rotate_left
  · have HL := Lib.hid (sameL_len (eq := ToldD.same) (xs := xs) (ys := ys) (by rw [hr.len, hr2.len]; exact hnm))
    have hnm' : ¬ ((n : Int) = (m : Int)) := by omega
    clear hr hr2 hf
    go_enter Try.func51, Try.ntmps51
    go_wp2
    go_ret
    exact ⟨ret_bool HL.out.symm, Below.refl _ _⟩
  subst hnm
  have HA := Bx.mk hr
  have HB := Bx.mk hr2
  have HF := Bx.mk hf
  clear hr hr2 hf
  go_enter Try.func51, Try.ntmps51
  go_wp2
  go_loopw [5] (fun i wr => ∃ k : Nat, k ≤ n ∧ i = .int .i64 k ∧ (∀ (j : Nat) (x y : ToldD), j < k → xs[j]? = some x → ys[j]? = some y → ToldD.same x y = true) ∧ Below w.heap.size w wr) (fun i _ => n - (intOf i).toNat)
  case atStart => exact ⟨0, Nat.zero_le _, rfl, fun j x y h => by omega, Below.refl _ _⟩
  case round =>
    obtain ⟨k, hk, rfl, hin, hb⟩ := hrel
    have HI := Bx.mk hin
    clear hin
    by_cases hlt : k < n
    · have hkx : k < xs.length := by rw [HA.out.len]; exact hlt
      have hky : k < ys.length := by rw [HB.out.len]; exact hlt
      obtain ⟨b, off, x, a3, c3, a4, c4, hx0, rfl, hbl, k0, k1, k2, k3, k4, r3, r4⟩ := (HA.out.below hb).cells k hkx
      obtain ⟨b2, off2, y, p3, q3, p4, q4, hy0, rfl, hbl2, j0, j1, j2, j3, j4, s3, s4⟩ := (HB.out.below hb).cells k hky
      have HX := Bx.mk (And.intro hx0 hy0)
      have HC : Bx (∀ n : Later wr, Calls Try.prog 99 #[.agg #[.slice a3 x.fFlat.fNames.length c3, .slice a4 x.fFlat.fThings.length c4], .agg #[.slice p3 y.fFlat.fNames.length q3, .slice p4 y.fFlat.fThings.length q4]] n.val fun e w'' => e = .returned (.bool (FlatD.same x.fFlat y.fFlat)) ∧ ∃ m : Later wr, w'' = m.val) :=
        Bx.mk fun n => later_of (flatSameS_any _ _ x.fFlat y.fFlat n.val (HF.out x (List.mem_of_getElem? hx0)).f3 (HF.out x (List.mem_of_getElem? hx0)).f4 ⟨a3, c3, a4, c4, rfl, r3.below n.below, r4.below n.below⟩ ⟨p3, q3, p4, q4, rfl, s3.below n.below, s4.below n.below⟩)
      have qk0 : ∀ n : Later wr, n.val.cell? ⟨b, off + k * 5, none⟩ = some (.string x.fName) := later_cell k0
      have qk1 : ∀ n : Later wr, n.val.cell? ⟨b, off + k * 5 + 1, none⟩ = some (.string x.fPrev) := later_cell k1
      have qk2 : ∀ n : Later wr, n.val.cell? ⟨b, off + k * 5 + 2, none⟩ = some (.int .i64 x.fQuota) := later_cell k2
      have qk3 : ∀ n : Later wr, n.val.cell? ⟨b, off + k * 5 + 3, none⟩ = some (.slice a3 x.fFlat.fNames.length c3) := later_cell k3
      have qk4 : ∀ n : Later wr, n.val.cell? ⟨b, off + k * 5 + 4, none⟩ = some (.slice a4 x.fFlat.fThings.length c4) := later_cell k4
      have qj0 : ∀ n : Later wr, n.val.cell? ⟨b2, off2 + k * 5, none⟩ = some (.string y.fName) := later_cell j0
      have qj1 : ∀ n : Later wr, n.val.cell? ⟨b2, off2 + k * 5 + 1, none⟩ = some (.string y.fPrev) := later_cell j1
      have qj2 : ∀ n : Later wr, n.val.cell? ⟨b2, off2 + k * 5 + 2, none⟩ = some (.int .i64 y.fQuota) := later_cell j2
      have qj3 : ∀ n : Later wr, n.val.cell? ⟨b2, off2 + k * 5 + 3, none⟩ = some (.slice p3 y.fFlat.fNames.length q3) := later_cell j3
      have qj4 : ∀ n : Later wr, n.val.cell? ⟨b2, off2 + k * 5 + 4, none⟩ = some (.slice p4 y.fFlat.fThings.length q4) := later_cell j4
      clear hx0 hy0 r3 r4 s3 s4 k0 k1 k2 k3 k4 j0 j1 j2 j3 j4
      cases h0 : (x.fName.toList == y.fName.toList)
      · have HS := Bx.mk (show ToldD.same x y = false by unfold ToldD.same; rw [h0]; simp)
        have h0' : (x.fName.toList != y.fName.toList) = true := by rw [bne, h0]; rfl
        go_wp2_with fail
        refine wp_region_later_lit (by kernel_rfl) (by kernel_rfl) ?_
        repeat (go_big_quiet_step (first | (go_at_call 99; with_reducible exact HC.out _)))
        refine wpQuiet_nil ?_
        intro _ hw'
        obtain ⟨nq, hw''⟩ := hw'
        subst hw''
        go_wp2
        go_ret
        exact ⟨ret_bool (sameL_no k HX.out.1 HX.out.2 HS.out).symm, hb.trans (nq.below.mono hb.size)⟩
      have h0' : (x.fName.toList != y.fName.toList) = false := by rw [bne, h0]; rfl
      have Bh0 := Bx.mk h0
      cases h1 : (x.fPrev.toList == y.fPrev.toList)
      · have HS := Bx.mk (show ToldD.same x y = false by unfold ToldD.same; rw [h1]; simp)
        have h1' : (x.fPrev.toList != y.fPrev.toList) = true := by rw [bne, h1]; rfl
        go_wp2_with fail
        refine wp_region_later_lit (by kernel_rfl) (by kernel_rfl) ?_
        repeat (go_big_quiet_step (first | (go_at_call 99; with_reducible exact HC.out _)))
        refine wpQuiet_nil ?_
        intro _ hw'
        obtain ⟨nq, hw''⟩ := hw'
        subst hw''
        go_wp2
        go_ret
        exact ⟨ret_bool (sameL_no k HX.out.1 HX.out.2 HS.out).symm, hb.trans (nq.below.mono hb.size)⟩
      have h1' : (x.fPrev.toList != y.fPrev.toList) = false := by rw [bne, h1]; rfl
      have Bh1 := Bx.mk h1
      cases h2 : (x.fQuota == y.fQuota)
      · have HS := Bx.mk (show ToldD.same x y = false by unfold ToldD.same; rw [h2]; simp)
        have h2' : (x.fQuota != y.fQuota) = true := by rw [bne, h2]; rfl
        go_wp2_with fail
        refine wp_region_later_lit (by kernel_rfl) (by kernel_rfl) ?_
        repeat (go_big_quiet_step (first | (go_at_call 99; with_reducible exact HC.out _)))
        refine wpQuiet_nil ?_
        intro _ hw'
        obtain ⟨nq, hw''⟩ := hw'
        subst hw''
        go_wp2
        go_ret
        exact ⟨ret_bool (sameL_no k HX.out.1 HX.out.2 HS.out).symm, hb.trans (nq.below.mono hb.size)⟩
      have h2' : (x.fQuota != y.fQuota) = false := by rw [bne, h2]; rfl
      have Bh2 := Bx.mk h2
      generalize hz : FlatD.same x.fFlat y.fFlat = r at HC
      have HS := Bx.mk (show ToldD.same x y = r by unfold ToldD.same; rw [Bh0.out, Bh1.out, Bh2.out, hz]; rfl)
      clear hz
      cases r
      · go_wp2_with fail
        refine wp_region_later_lit (by kernel_rfl) (by kernel_rfl) ?_
        repeat (go_big_quiet_step (first | (go_at_call 99; with_reducible exact HC.out _)))
        refine wpQuiet_nil ?_
        intro _ hw'
        obtain ⟨nq, hw''⟩ := hw'
        subst hw''
        go_wp2
        go_ret
        exact ⟨ret_bool (sameL_no k HX.out.1 HX.out.2 HS.out).symm, hb.trans (nq.below.mono hb.size)⟩
      · go_wp2_with fail
        refine wp_region_later_lit (by kernel_rfl) (by kernel_rfl) ?_
        repeat (go_big_quiet_step (first | (go_at_call 99; with_reducible exact HC.out _)))
        refine wpQuiet_nil ?_
        intro _ hw'
        obtain ⟨nq, hw''⟩ := hw'
        subst hw''
        go_wp2
        go_roundw
        case rel =>
          refine ⟨k + 1, by omega, by go_num, fun j x' y' hj hx' hy' => ?_, hb.trans (nq.below.mono hb.size)⟩
          by_cases hjk : j < k
          · exact HI.out j x' y' hjk hx' hy'
          · obtain rfl : j = k := by omega
            obtain rfl := Option.some.inj (HX.out.1.symm.trans hx')
            obtain rfl := Option.some.inj (HX.out.2.symm.trans hy')
            exact HS.out
        case measure => simp [intOf]; omega
    · go_wp2
      go_ret
      exact ⟨ret_bool (sameL_yes (by rw [HA.out.len, HB.out.len]) fun i x y hi hx hy => HI.out i x y (by rw [HA.out.len] at hi; omega) hx hy).symm, hb⟩

set_option maxHeartbeats 400000 in
set_option maxRecDepth 100000 in
theorem taleSameS_any (u v : Value) (x y : TaleD) (w : World) (hf : x.Fit) (hr : TaleD.Reads w u x) (hs : TaleD.Reads w v y) :
    Calls Try.prog 17 #[u, v] w fun e w' => e = .returned (.bool (TaleD.same x y)) ∧ Below w.heap.size w w' := by
  obtain ⟨a0, c0, a1, c1, rfl, r0, r1⟩ := hr
  obtain ⟨b0, d0, b1, d1, rfl, s0, s1⟩ := hs
  have hb0 : Below w.heap.size w ((w.alloc (.cells #[.slice a0 x.fHeads.length c0, .slice a1 x.fSnaps.length c1] 41)).alloc (.cells #[.slice b0 y.fHeads.length d0, .slice b1 y.fSnaps.length d1] 41)) := ((Below.refl _ _).alloc (Nat.le_refl _) _).alloc (by simp) _
  have hA0 : ((w.alloc (.cells #[.slice a0 x.fHeads.length c0, .slice a1 x.fSnaps.length c1] 41)).alloc (.cells #[.slice b0 y.fHeads.length d0, .slice b1 y.fSnaps.length d1] 41)).heap[w.heap.size]? = some (.cells #[.slice a0 x.fHeads.length c0, .slice a1 x.fSnaps.length c1] 41 (0, 0)) := blk_alloc (blk_new w _ _ rfl) _
  have hB0 : ((w.alloc (.cells #[.slice a0 x.fHeads.length c0, .slice a1 x.fSnaps.length c1] 41)).alloc (.cells #[.slice b0 y.fHeads.length d0, .slice b1 y.fSnaps.length d1] 41)).heap[w.heap.size + 1]? = some (.cells #[.slice b0 y.fHeads.length d0, .slice b1 y.fSnaps.length d1] 41 (0, 0)) := blk_new _ _ (w.heap.size + 1) (by simp)
  have HC := l29List_any a0 b0 x.fHeads.length y.fHeads.length c0 d0 x.fHeads y.fHeads _ hf.f0 (r0.below hb0) (s0.below hb0) hf.g0
  have R1 := Bx.mk r1
  have S1 := Bx.mk s1
  clear r0 r1 s0 s1
  cases hn : sameL ToldD.same x.fHeads y.fHeads
  · rw [hn] at HC
    have HC := Bx.mk HC
    have HR : Hid (TaleD.same x y = false) := by show _ = _; unfold TaleD.same; rw [hn]; rfl
    clear hn
    go_enter Try.func17, Try.ntmps17
    go_wp2_with fail
    refine HC.out.mono ?_
    rintro e w1 ⟨rfl, q1⟩
    go_wp2
    go_ret
    exact ⟨ret_bool HR.out.symm, hb0.trans (q1.mono hb0.size)⟩
  · rw [hn] at HC
    have HC := Bx.mk HC
    have HR : Hid (TaleD.same x y = sameL ToldD.same x.fSnaps y.fSnaps) := by show _ = _; unfold TaleD.same; rw [hn]; rfl
    clear hn
    go_enter Try.func17, Try.ntmps17
    go_wp2_with fail
    refine HC.out.mono ?_
    rintro e w1 ⟨rfl, q1⟩
    have hb1 := hb0.trans (q1.mono hb0.size)
    have hA1 := blk_below hA0 q1 (Nat.le_refl _)
    have hB1 := blk_below hB0 q1 (Nat.le_refl _)
    have k1 : w1.cell? ⟨w.heap.size, 1, none⟩ = some (.slice a1 x.fSnaps.length c1) := blk_cell hA1 1
    have j1 : w1.cell? ⟨w.heap.size + 1, 1, none⟩ = some (.slice b1 y.fSnaps.length d1) := blk_cell hB1 1
    have HD := Bx.mk (l29List_any a1 b1 x.fSnaps.length y.fSnaps.length c1 d1 x.fSnaps y.fSnaps w1 hf.f1 (R1.out.below hb1) (S1.out.below hb1) hf.g1)
    clear q1 hA0 hB0 hA1 hB1
    go_wp2_with fail
    refine HD.out.mono ?_
    rintro e w2 ⟨rfl, b2⟩
    go_wp2
    go_ret
    exact ⟨ret_bool HR.out.symm, hb1.trans (b2.mono hb1.size)⟩

end Go.Proofs.Ytkgmilobmbeplaa
