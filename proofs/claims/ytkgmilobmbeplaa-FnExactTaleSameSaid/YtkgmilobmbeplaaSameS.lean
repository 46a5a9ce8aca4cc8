/- The reference's sameness of tales. -/
import Derived.Test.YtkgmilobmbeplaaSameI
import Derived.Test.YtkgmilobmbeplaaLater
namespace Go.Proofs.Ytkgmilobmbeplaa
open Go.RowKit

set_option maxHeartbeats 1000000 in
set_option maxRecDepth 100000 in
theorem flatSameS_any (u v : Value) (x y : FlatD) (w : World) (hf : x.fNames.length ≤ 1048576) (hg : x.fThings.length ≤ 1048576) (hr : FlatD.Reads w u x) (hs : FlatD.Reads w v y) :
    Calls Try.prog 99 #[u, v] w fun e w' => e = .returned (.bool (FlatD.same x y)) ∧ Below w.heap.size w w' := by
  obtain ⟨a0, c0, a1, c1, rfl, r0, r1⟩ := hr
  obtain ⟨b0, d0, b1, d1, rfl, s0, s1⟩ := hs
  have hb0 : Below w.heap.size w ((w.alloc (.cells #[.slice a0 x.fNames.length c0, .slice a1 x.fThings.length c1] 97)).alloc (.cells #[.slice b0 y.fNames.length d0, .slice b1 y.fThings.length d1] 97)) := ((Below.refl _ _).alloc (Nat.le_refl _) _).alloc (by simp) _
  have hA0 : ((w.alloc (.cells #[.slice a0 x.fNames.length c0, .slice a1 x.fThings.length c1] 97)).alloc (.cells #[.slice b0 y.fNames.length d0, .slice b1 y.fThings.length d1] 97)).heap[w.heap.size]? = some (.cells #[.slice a0 x.fNames.length c0, .slice a1 x.fThings.length c1] 97 (0, 0)) := blk_alloc (blk_new w _ _ rfl) _
  have hB0 : ((w.alloc (.cells #[.slice a0 x.fNames.length c0, .slice a1 x.fThings.length c1] 97)).alloc (.cells #[.slice b0 y.fNames.length d0, .slice b1 y.fThings.length d1] 97)).heap[w.heap.size + 1]? = some (.cells #[.slice b0 y.fNames.length d0, .slice b1 y.fThings.length d1] 97 (0, 0)) := blk_new _ _ (w.heap.size + 1) (by simp)
  by_cases hl0 : x.fNames.length = y.fNames.length
  rotate_left
  · have HR : Hid (FlatD.same x y = false) := by show _ = _; unfold FlatD.same; rw [sameL_len hl0]; rfl
    have hl0' : ((x.fNames.length : Int) != (y.fNames.length : Int)) = true := by simp [bne]; omega
    clear r0 r1 s0 s1
    go_enter Try.func99, Try.ntmps99
    go_wp2
    go_ret
    exact ⟨ret_bool HR.out.symm, hb0⟩
  have hl0' : ((x.fNames.length : Int) != (y.fNames.length : Int)) = false := by simp [bne]; omega
  have HL0 := Bx.mk hl0
  clear hl0
  by_cases hl1 : x.fThings.length = y.fThings.length
  rotate_left
  · have HR : Hid (FlatD.same x y = false) := by show _ = _; unfold FlatD.same; rw [sameL_len hl1]; simp
    have hl1' : ((x.fThings.length : Int) != (y.fThings.length : Int)) = true := by simp [bne]; omega
    clear r0 r1 s0 s1
    go_enter Try.func99, Try.ntmps99
    go_wp2
    go_ret
    exact ⟨ret_bool HR.out.symm, hb0⟩
  have hl1' : ((x.fThings.length : Int) != (y.fThings.length : Int)) = false := by simp [bne]; omega
  have HA := Bx.mk (r0.below hb0)
  have HB := Bx.mk (s0.below hb0)
  have HC := Bx.mk (r1.below hb0)
  have HD := Bx.mk (s1.below hb0)
  have HL1 := Bx.mk hl1
  clear r0 r1 s0 s1 hl1
  have H0 := Bx.mk (And.intro hb0 (And.intro hA0 hB0))
  clear hb0 hA0 hB0
  go_enter Try.func99, Try.ntmps99
  go_wp2
  clear hl0' hl1'
  generalize ((w.alloc (.cells #[.slice a0 x.fNames.length c0, .slice a1 x.fThings.length c1] 97)).alloc (.cells #[.slice b0 y.fNames.length d0, .slice b1 y.fThings.length d1] 97)) = W0 at *
  go_loopw [5] (fun i wr => ∃ k : Nat, k ≤ x.fNames.length ∧ i = .int .i64 k ∧ (∀ (j : Nat) (x' y' : FoundD), j < k → x.fNames[j]? = some x' → y.fNames[j]? = some y' → FoundD.same x' y' = true) ∧ Below W0.heap.size W0 wr) (fun i _ => x.fNames.length - (intOf i).toNat)
  case atStart => exact ⟨0, Nat.zero_le _, rfl, fun j x y h => by omega, Below.refl _ _⟩
  case round =>
    obtain ⟨k, hk, rfl, hin, hb⟩ := hrel
    have HI := Bx.mk hin
    clear hin
    have hA := blk_below H0.out.2.1 hb (Nat.le_refl _)
    have hB := blk_below H0.out.2.2 hb (Nat.le_refl _)
    by_cases hlt : k < x.fNames.length
    · have hky : k < y.fNames.length := by rw [← HL0.out]; exact hlt
      obtain ⟨b, off, x1, hx0, e0, hbl, hrg⟩ := HA.out.at_ k hlt
      obtain ⟨k0, k1⟩ := FoundD.at_ (rangeAt_below hrg hb hbl)
      obtain ⟨b2, off2, y1, hy0, e1, hbl2, hrg2⟩ := HB.out.at_ k hky
      obtain ⟨j0, j1⟩ := FoundD.at_ (rangeAt_below hrg2 hb hbl2)
      have p0 : wr.cell? ⟨w.heap.size, 0, none⟩ = some (.slice (some ⟨b, off, none⟩) x.fNames.length c0) := by rw [← e0]; exact blk_cell hA 0
      have p1 : wr.cell? ⟨w.heap.size + 1, 0, none⟩ = some (.slice (some ⟨b2, off2, none⟩) y.fNames.length d0) := by rw [← e1]; exact blk_cell hB 0
      have HX := Bx.mk (And.intro hx0 hy0)
      have HE := Bx.mk (And.intro e0 e1)
      have he := eqFoundW x1 y1
      clear hx0 hy0 hrg hrg2 hA hB e0 e1
      cases hs : FoundD.same x1 y1
      · rw [hs] at he
        have HS := Bx.mk hs
        clear hs
        go_wp2_with fail
        go_quiet (fail)
        go_wp2
        go_ret
        exact ⟨ret_bool (by unfold FlatD.same; rw [sameL_no k HX.out.1 HX.out.2 HS.out]; simp), (H0.out.1.trans (hb.mono H0.out.1.size)).trans (below_drewN _ _ _)⟩
      · rw [hs] at he
        have HS := Bx.mk hs
        clear hs
        go_wp2_with fail
        go_quiet (fail)
        go_wp2
        go_roundw
        case rel =>
          refine ⟨k + 1, by omega, by go_num, fun j x' y' hj hx' hy' => ?_, hb.trans (below_drewN _ _ _)⟩
          by_cases hjk : j < k
          · exact HI.out j x' y' hjk hx' hy'
          · obtain rfl : j = k := by omega
            obtain rfl := Option.some.inj (HX.out.1.symm.trans hx')
            obtain rfl := Option.some.inj (HX.out.2.symm.trans hy')
            exact HS.out
        case measure => simp [intOf]; omega
    · have p0 : wr.cell? ⟨w.heap.size, 0, none⟩ = some (.slice a0 x.fNames.length c0) := blk_cell hA 0
      have HSAME0 := Bx.mk (sameL_yes (eq := FoundD.same) HL0.out fun i x' y' hi hx hy => HI.out i x' y' (by omega) hx hy)
      have p1 : wr.cell? ⟨w.heap.size, 1, none⟩ = some (.slice a1 x.fThings.length c1) := blk_cell hA 1
      clear hA hB
      go_wp2
      go_loopw [6] (fun i wr => ∃ k : Nat, k ≤ x.fThings.length ∧ i = .int .i64 k ∧ (∀ (j : Nat) (x' y' : ThingD), j < k → x.fThings[j]? = some x' → y.fThings[j]? = some y' → ThingD.same x' y' = true) ∧ Below W0.heap.size W0 wr) (fun i _ => x.fThings.length - (intOf i).toNat)
      case atStart => exact ⟨0, Nat.zero_le _, rfl, fun j x y h => by omega, hb⟩
      case round =>
        obtain ⟨k, hk, rfl, hin, hb⟩ := hrel
        have HI := Bx.mk hin
        clear hin
        have hA := blk_below H0.out.2.1 hb (Nat.le_refl _)
        have hB := blk_below H0.out.2.2 hb (Nat.le_refl _)
        by_cases hlt : k < x.fThings.length
        · have hky : k < y.fThings.length := by rw [← HL1.out]; exact hlt
          obtain ⟨b, off, x1, hx0, e0, hbl, hrg⟩ := HC.out.at_ k hlt
          obtain ⟨k0, k1, k2⟩ := ThingD.at_ (rangeAt_below hrg hb hbl)
          obtain ⟨b2, off2, y1, hy0, e1, hbl2, hrg2⟩ := HD.out.at_ k hky
          obtain ⟨j0, j1, j2⟩ := ThingD.at_ (rangeAt_below hrg2 hb hbl2)
          have p0 : wr.cell? ⟨w.heap.size, 1, none⟩ = some (.slice (some ⟨b, off, none⟩) x.fThings.length c1) := by rw [← e0]; exact blk_cell hA 1
          have p1 : wr.cell? ⟨w.heap.size + 1, 1, none⟩ = some (.slice (some ⟨b2, off2, none⟩) y.fThings.length d1) := by rw [← e1]; exact blk_cell hB 1
          have HX := Bx.mk (And.intro hx0 hy0)
          have HE := Bx.mk (And.intro e0 e1)
          have he := eqThingW x1 y1
          clear hx0 hy0 hrg hrg2 hA hB e0 e1
          cases hs : ThingD.same x1 y1
          · rw [hs] at he
            have HS := Bx.mk hs
            clear hs
            go_wp2_with fail
            go_quiet (fail)
            go_wp2
            go_ret
            exact ⟨ret_bool (by unfold FlatD.same; rw [sameL_no k HX.out.1 HX.out.2 HS.out]; simp), (H0.out.1.trans (hb.mono H0.out.1.size)).trans (below_drewN _ _ _)⟩
          · rw [hs] at he
            have HS := Bx.mk hs
            clear hs
            go_wp2_with fail
            go_quiet (fail)
            go_wp2
            go_roundw
            case rel =>
              refine ⟨k + 1, by omega, by go_num, fun j x' y' hj hx' hy' => ?_, hb.trans (below_drewN _ _ _)⟩
              by_cases hjk : j < k
              · exact HI.out j x' y' hjk hx' hy'
              · obtain rfl : j = k := by omega
                obtain rfl := Option.some.inj (HX.out.1.symm.trans hx')
                obtain rfl := Option.some.inj (HX.out.2.symm.trans hy')
                exact HS.out
            case measure => simp [intOf]; omega
        · have p0 : wr.cell? ⟨w.heap.size, 1, none⟩ = some (.slice a1 x.fThings.length c1) := blk_cell hA 1
          have HSAME1 := Bx.mk (sameL_yes (eq := ThingD.same) HL1.out fun i x' y' hi hx hy => HI.out i x' y' (by omega) hx hy)
          clear hA hB
          go_wp2
          go_ret
          exact ⟨ret_bool (by unfold FlatD.same; rw [HSAME0.out, HSAME1.out]; rfl), H0.out.1.trans (hb.mono H0.out.1.size)⟩

end Go.Proofs.Ytkgmilobmbeplaa
