/- The program's sameness of tales. -/
import Derived.Test.YtkgmilobmbeplaaSame
import Derived.Test.YtkgmilobmbeplaaTaleT
namespace Go.Proofs.Ytkgmilobmbeplaa
open Go.RowKit

def ToldD.same (x y : ToldD) : Bool := x.fName.toList == y.fName.toList && (x.fPrev.toList == y.fPrev.toList && (x.fQuota == y.fQuota && FlatD.same x.fFlat y.fFlat))
def TaleD.same (x y : TaleD) : Bool := sameL ToldD.same x.fHeads y.fHeads && sameL ToldD.same x.fSnaps y.fSnaps

set_option maxHeartbeats 400000 in
set_option maxRecDepth 100000 in
theorem flatSameI_any (u v : Value) (x y : FlatD) (w : World) (hf : x.fNames.length ≤ 1048576) (hg : x.fThings.length ≤ 1048576) (hr : FlatD.Reads w u x) (hs : FlatD.Reads w v y) :
    Calls Try.prog 101 #[u, v] w fun e w' => e = .returned (.bool (FlatD.same x y)) ∧ Below w.heap.size w w' := by
  obtain ⟨a0, c0, a1, c1, rfl, r0, r1⟩ := hr
  obtain ⟨b0, d0, b1, d1, rfl, s0, s1⟩ := hs
  have hb0 : Below w.heap.size w ((w.alloc (.cells #[.slice a0 x.fNames.length c0, .slice a1 x.fThings.length c1] 97)).alloc (.cells #[.slice b0 y.fNames.length d0, .slice b1 y.fThings.length d1] 97)) := ((Below.refl _ _).alloc (Nat.le_refl _) _).alloc (by simp) _
  have hA0 : ((w.alloc (.cells #[.slice a0 x.fNames.length c0, .slice a1 x.fThings.length c1] 97)).alloc (.cells #[.slice b0 y.fNames.length d0, .slice b1 y.fThings.length d1] 97)).heap[w.heap.size]? = some (.cells #[.slice a0 x.fNames.length c0, .slice a1 x.fThings.length c1] 97 (0, 0)) := blk_alloc (blk_new w _ _ rfl) _
  have hB0 : ((w.alloc (.cells #[.slice a0 x.fNames.length c0, .slice a1 x.fThings.length c1] 97)).alloc (.cells #[.slice b0 y.fNames.length d0, .slice b1 y.fThings.length d1] 97)).heap[w.heap.size + 1]? = some (.cells #[.slice b0 y.fNames.length d0, .slice b1 y.fThings.length d1] 97 (0, 0)) := blk_new _ _ (w.heap.size + 1) (by simp)
  have HC := equalFound_any a0 b0 x.fNames.length y.fNames.length c0 d0 x.fNames y.fNames _ hf (r0.below hb0) (s0.below hb0)
  have R1 := Bx.mk r1
  have S1 := Bx.mk s1
  clear r0 r1 s0 s1
  cases hn : sameL FoundD.same x.fNames y.fNames
  · rw [hn] at HC
    have HC := Bx.mk HC
    have HR : Hid (FlatD.same x y = false) := by show _ = _; unfold FlatD.same; rw [hn]; rfl
    clear hn
    go_enter Try.func101, Try.ntmps101
    go_wp2_with fail
    refine HC.out.mono ?_
    rintro e w1 ⟨rfl, q1⟩
    go_wp2
    go_ret
    exact ⟨ret_bool HR.out.symm, hb0.trans (q1.mono hb0.size)⟩
  · rw [hn] at HC
    have HC := Bx.mk HC
    have HR : Hid (FlatD.same x y = sameL ThingD.same x.fThings y.fThings) := by show _ = _; unfold FlatD.same; rw [hn]; rfl
    clear hn
    go_enter Try.func101, Try.ntmps101
    go_wp2_with fail
    refine HC.out.mono ?_
    rintro e w1 ⟨rfl, q1⟩
    have hb1 := hb0.trans (q1.mono hb0.size)
    have hA1 := blk_below hA0 q1 (Nat.le_refl _)
    have hB1 := blk_below hB0 q1 (Nat.le_refl _)
    have k1 : w1.cell? ⟨w.heap.size, 1, none⟩ = some (.slice a1 x.fThings.length c1) := blk_cell hA1 1
    have j1 : w1.cell? ⟨w.heap.size + 1, 1, none⟩ = some (.slice b1 y.fThings.length d1) := blk_cell hB1 1
    have HD := Bx.mk (equalThing_any a1 b1 x.fThings.length y.fThings.length c1 d1 x.fThings y.fThings w1 hg (R1.out.below hb1) (S1.out.below hb1))
    clear q1 hA0 hB0 hA1 hB1
    go_wp2_with fail
    refine HD.out.mono ?_
    rintro e w2 ⟨rfl, b2⟩
    go_wp2
    go_ret
    exact ⟨ret_bool HR.out.symm, hb1.trans (b2.mono hb1.size)⟩

set_option maxHeartbeats 400000 in
set_option maxRecDepth 100000 in
theorem sameTold_any (u v : Value) (x y : ToldD) (w : World) (hf : x.Fit) (hr : ToldD.Reads w u x) (hs : ToldD.Reads w v y) :
    Calls Try.prog 54 #[u, v] w fun e w' => e = .returned (.bool (ToldD.same x y)) ∧ Below w.heap.size w w' := by
  obtain ⟨a3, c3, a4, c4, rfl, r3, r4⟩ := hr
  obtain ⟨b3, d3, b4, d4, rfl, s3, s4⟩ := hs
  have hb0 : Below w.heap.size w ((w.alloc (.cells #[.string x.fName, .string x.fPrev, .int .i64 x.fQuota, .slice a3 x.fFlat.fNames.length c3, .slice a4 x.fFlat.fThings.length c4] 99)).alloc (.cells #[.string y.fName, .string y.fPrev, .int .i64 y.fQuota, .slice b3 y.fFlat.fNames.length d3, .slice b4 y.fFlat.fThings.length d4] 99)) := ((Below.refl _ _).alloc (Nat.le_refl _) _).alloc (by simp) _
  have HC := Bx.mk (flatSameI_any _ _ x.fFlat y.fFlat ((w.alloc (.cells #[.string x.fName, .string x.fPrev, .int .i64 x.fQuota, .slice a3 x.fFlat.fNames.length c3, .slice a4 x.fFlat.fThings.length c4] 99)).alloc (.cells #[.string y.fName, .string y.fPrev, .int .i64 y.fQuota, .slice b3 y.fFlat.fNames.length d3, .slice b4 y.fFlat.fThings.length d4] 99)) hf.f3 hf.f4 ⟨a3, c3, a4, c4, rfl, r3.below hb0, r4.below hb0⟩ ⟨b3, d3, b4, d4, rfl, s3.below hb0, s4.below hb0⟩)
  clear r3 r4 s3 s4
  cases h0 : (x.fName.toList == y.fName.toList)
  · have HR : Hid (ToldD.same x y = false) := by show _ = _; unfold ToldD.same; rw [h0]; rfl
    go_enter Try.func54, Try.ntmps54
    go_wp2
    go_ret
    exact ⟨ret_bool HR.out.symm, hb0⟩
  cases h1 : (x.fPrev.toList == y.fPrev.toList)
  · have HR : Hid (ToldD.same x y = false) := by show _ = _; unfold ToldD.same; rw [h1]; simp
    go_enter Try.func54, Try.ntmps54
    go_wp2
    go_ret
    exact ⟨ret_bool HR.out.symm, hb0⟩
  cases h2 : (x.fQuota == y.fQuota)
  · have HR : Hid (ToldD.same x y = false) := by show _ = _; unfold ToldD.same; rw [h2]; simp
    go_enter Try.func54, Try.ntmps54
    go_wp2
    go_ret
    exact ⟨ret_bool HR.out.symm, hb0⟩
  have HR : Hid (ToldD.same x y = FlatD.same x.fFlat y.fFlat) := by show _ = _; unfold ToldD.same; rw [h0, h1, h2]; rfl
  go_enter Try.func54, Try.ntmps54
  go_wp2_with fail
  refine HC.out.mono ?_
  rintro e w1 ⟨rfl, b1⟩
  go_wp2
  go_ret
  exact ⟨ret_bool HR.out.symm, hb0.trans (b1.mono hb0.size)⟩

set_option maxHeartbeats 400000 in
set_option maxRecDepth 100000 in
theorem equalFunc_any (ao bo : Option Addr) (n m cap cap2 : Nat) (xs ys : List ToldD) (w : World) (hlen : n ≤ 1048576) (hr : ToldRd w ao n xs) (hr2 : ToldRd w bo m ys) (hf : ∀ x ∈ xs, x.Fit) :
    Calls Try.prog 53 #[.slice ao n cap, .slice bo m cap2, .func (.func 54) #[] #[]] w fun e w' => e = .returned (.bool (sameL ToldD.same xs ys)) ∧ Below w.heap.size w w' := by
  by_cases hnm : n = m
  rotate_left
  · have HL := Lib.hid (sameL_len (eq := ToldD.same) (xs := xs) (ys := ys) (by rw [hr.len, hr2.len]; exact hnm))
    have hnm' : ¬ ((n : Int) = (m : Int)) := by omega
    clear hr hr2 hf
    go_enter Try.func53, Try.ntmps53
    go_wp2
    go_ret
    exact ⟨ret_bool HL.out.symm, Below.refl _ _⟩
  subst hnm
  have HA := Bx.mk hr
  have HB := Bx.mk hr2
  have HF := Bx.mk hf
  clear hr hr2 hf
  go_enter Try.func53, Try.ntmps53
  go_wp2
  go_loopw [17] (fun i wr => ∃ k : Nat, k ≤ n ∧ i = .int .i64 k ∧ (∀ (j : Nat) (x y : ToldD), j < k → xs[j]? = some x → ys[j]? = some y → ToldD.same x y = true) ∧ Below w.heap.size w wr) (fun i _ => n - (intOf i).toNat)
  case atStart => exact ⟨0, Nat.zero_le _, rfl, fun j x y h => by omega, Below.refl _ _⟩
  case round =>
    obtain ⟨k, hk, rfl, hin, hb⟩ := hrel
    have HI := Bx.mk hin
    clear hin
    by_cases hlt : k < n
    · have hkx : k < xs.length := by rw [HA.out.len]; exact hlt
      have hky : k < ys.length := by rw [HB.out.len]; exact hlt
      obtain ⟨b, off, x, a3, c3, a4, c4, hx0, rfl, hbl, k0, k1, k2, k3, k4, r3, r4⟩ := (HA.out.below hb).cells k hkx
      obtain ⟨b2, off2, y, p3, q3, p4, q4, hy0, rfl, hbl2, j0, j1, j2, j3, j4, s3, s4⟩ := (HB.out.below hb).cells k hky
      have HX := Bx.mk (And.intro hx0 hy0)
      have HC : Bx (∀ w9 : World, Below wr.heap.size wr w9 → Calls Try.prog 54 #[.agg #[.string x.fName, .string x.fPrev, .int .i64 x.fQuota, .slice a3 x.fFlat.fNames.length c3, .slice a4 x.fFlat.fThings.length c4], .agg #[.string y.fName, .string y.fPrev, .int .i64 y.fQuota, .slice p3 y.fFlat.fNames.length q3, .slice p4 y.fFlat.fThings.length q4]] w9 fun e w' => e = .returned (.bool (ToldD.same x y)) ∧ Below w.heap.size w w') :=
        Bx.mk fun w9 h9 => (sameTold_any _ _ x y w9 (HF.out x (List.mem_of_getElem? hx0)) ⟨a3, c3, a4, c4, rfl, r3.below h9, r4.below h9⟩ ⟨p3, q3, p4, q4, rfl, s3.below h9, s4.below h9⟩).mono fun e w' h => ⟨h.1, hb.trans ((h9.trans (h.2.mono h9.size)).mono hb.size)⟩
      clear hx0 hy0 r3 r4 s3 s4
      generalize hs : ToldD.same x y = r at HC
      have HS := Bx.mk hs
      clear hs
      go_wp2_with fail
      refine (HC.out _ ?hbb).mono ?_
      case hbb => repeat (first | exact Below.refl _ _ | refine Below.setCell ?_ (by simp; try omega) _ | refine Below.alloc ?_ (by simp; try omega) _)
      rintro e w2 ⟨rfl, hb2⟩
      cases r
      · go_wp2
        go_ret
        exact ⟨ret_bool (sameL_no k HX.out.1 HX.out.2 HS.out).symm, hb2⟩
      · go_wp2
        go_roundw
        case rel =>
          refine ⟨k + 1, by omega, by go_num, fun j x' y' hj hx' hy' => ?_, hb2⟩
          by_cases hjk : j < k
          · exact HI.out j x' y' hjk hx' hy'
          · obtain rfl : j = k := by omega
            obtain rfl := Option.some.inj (HX.out.1.symm.trans hx')
            obtain rfl := Option.some.inj (HX.out.2.symm.trans hy')
            exact HS.out
        case measure => simp [intOf]; omega
    · go_wp2
      go_ret
      exact ⟨ret_bool (sameL_yes (by rw [HA.out.len, HB.out.len]) fun i x y hi hx hy => HI.out i x y (by rw [HA.out.len] at hi; omega) hx hy).symm, hb⟩

set_option maxHeartbeats 400000 in
set_option maxRecDepth 100000 in
theorem taleSameI_any (u v : Value) (x y : TaleD) (w : World) (hf : x.Fit) (hr : TaleD.Reads w u x) (hs : TaleD.Reads w v y) :
    Calls Try.prog 19 #[u, v] w fun e w' => e = .returned (.bool (TaleD.same x y)) ∧ Below w.heap.size w w' := by
  obtain ⟨a0, c0, a1, c1, rfl, r0, r1⟩ := hr
  obtain ⟨b0, d0, b1, d1, rfl, s0, s1⟩ := hs
  have hb0 : Below w.heap.size w ((w.alloc (.cells #[.slice a0 x.fHeads.length c0, .slice a1 x.fSnaps.length c1] 41)).alloc (.cells #[.slice b0 y.fHeads.length d0, .slice b1 y.fSnaps.length d1] 41)) := ((Below.refl _ _).alloc (Nat.le_refl _) _).alloc (by simp) _
  have hA0 : ((w.alloc (.cells #[.slice a0 x.fHeads.length c0, .slice a1 x.fSnaps.length c1] 41)).alloc (.cells #[.slice b0 y.fHeads.length d0, .slice b1 y.fSnaps.length d1] 41)).heap[w.heap.size]? = some (.cells #[.slice a0 x.fHeads.length c0, .slice a1 x.fSnaps.length c1] 41 (0, 0)) := blk_alloc (blk_new w _ _ rfl) _
  have hB0 : ((w.alloc (.cells #[.slice a0 x.fHeads.length c0, .slice a1 x.fSnaps.length c1] 41)).alloc (.cells #[.slice b0 y.fHeads.length d0, .slice b1 y.fSnaps.length d1] 41)).heap[w.heap.size + 1]? = some (.cells #[.slice b0 y.fHeads.length d0, .slice b1 y.fSnaps.length d1] 41 (0, 0)) := blk_new _ _ (w.heap.size + 1) (by simp)
  have HC := equalFunc_any a0 b0 x.fHeads.length y.fHeads.length c0 d0 x.fHeads y.fHeads _ hf.f0 (r0.below hb0) (s0.below hb0) hf.g0
  have R1 := Bx.mk r1
  have S1 := Bx.mk s1
  clear r0 r1 s0 s1
  cases hn : sameL ToldD.same x.fHeads y.fHeads
  · rw [hn] at HC
    have HC := Bx.mk HC
    have HR : Hid (TaleD.same x y = false) := by show _ = _; unfold TaleD.same; rw [hn]; rfl
    clear hn
    go_enter Try.func19, Try.ntmps19
    go_wp2_with fail
    refine HC.out.mono ?_
    rintro e w1 ⟨rfl, q1⟩
    go_wp2
    go_ret
    exact ⟨ret_bool HR.out.symm, hb0.trans (q1.mono hb0.size)⟩
  · rw [hn] at HC
    have HC := Bx.mk HC
    have HR : Hid (TaleD.same x y = sameL ToldD.same x.fSnaps y.fSnaps) := by show _ = _; unfold TaleD.same; rw [hn]; rfl
    clear hn
    go_enter Try.func19, Try.ntmps19
    go_wp2_with fail
    refine HC.out.mono ?_
    rintro e w1 ⟨rfl, q1⟩
    have hb1 := hb0.trans (q1.mono hb0.size)
    have hA1 := blk_below hA0 q1 (Nat.le_refl _)
    have hB1 := blk_below hB0 q1 (Nat.le_refl _)
    have k1 : w1.cell? ⟨w.heap.size, 1, none⟩ = some (.slice a1 x.fSnaps.length c1) := blk_cell hA1 1
    have j1 : w1.cell? ⟨w.heap.size + 1, 1, none⟩ = some (.slice b1 y.fSnaps.length d1) := blk_cell hB1 1
    have HD := Bx.mk (equalFunc_any a1 b1 x.fSnaps.length y.fSnaps.length c1 d1 x.fSnaps y.fSnaps w1 hf.f1 (R1.out.below hb1) (S1.out.below hb1) hf.g1)
    clear q1 hA0 hB0 hA1 hB1
    go_wp2_with fail
    refine HD.out.mono ?_
    rintro e w2 ⟨rfl, b2⟩
    go_wp2
    go_ret
    exact ⟨ret_bool HR.out.symm, hb1.trans (b2.mono hb1.size)⟩

end Go.Proofs.Ytkgmilobmbeplaa
