/- FnExactSendBytes: the law's walk. -/
import Derived.Test.YtkgmilobmbeplaaSend
import Derived.Deep.RegionWith
import Derived.Deep.RegionHeld3
namespace Go.Proofs.Ytkgmilobmbeplaa
open Go.RowKit

set_option maxHeartbeats 400000 in
set_option maxRecDepth 100000 in
theorem eqSend_yes (ba go : Int) (ao bo : Option Addr) (len cap cap2 : Nat) (xs : List PartD) (w : World) (hlen : len ≤ 1048576) (hr : Rd PartD.cells 6 w ao len xs) (hr2 : Rd PartD.cells 6 w bo len xs) :
    Calls Try.prog 13 #[.agg #[.int .i64 ba, .int .i64 go, .slice ao len cap], .agg #[.int .i64 ba, .int .i64 go, .slice bo len cap2]] w fun e w' => e = .returned (.bool true) ∧ Below w.heap.size w w' := by
  go_enter Try.func13, Try.ntmps13
  go_wp2_with fail
  have hb : Below w.heap.size w ((w.alloc (.cells #[.int .i64 ba, .int .i64 go, .slice ao len cap] 29)).alloc (.cells #[.int .i64 ba, .int .i64 go, .slice bo len cap2] 29)) := ((Below.refl _ _).alloc (Nat.le_refl _) _).alloc (by simp) _
  refine (eqPartS_yes _ _ _ _ _ xs _ hlen (hr.below hb) (hr2.below hb)).mono ?_
  rintro e w' ⟨rfl, hb'⟩
  go_wp2
  go_ret
  exact ⟨rfl, hb.trans (hb'.mono hb.size)⟩

set_option maxHeartbeats 400000 in
set_option maxRecDepth 100000 in
theorem law_any (ba go : Int) (ao : Option Addr) (len cap : Nat) (xs : List PartD) (w : World) (hlen : len ≤ 9223372036854775807) (hr : Rd PartD.cells 6 w ao len xs) (hs : ∀ x ∈ xs, x.text.size ≤ 9223372036854775807) :
    Calls Try.prog 3 #[.agg #[.int .i64 ba, .int .i64 go, .slice ao len cap]] w fun e w' => e = .returned (.bool true) ∧ Below w.heap.size w w' := by
  have hb0 : Below w.heap.size w (w.alloc (.cells #[.int .i64 ba, .int .i64 go, .slice ao len cap] 24)) := (Below.refl _ _).alloc (Nat.le_refl _) _
  have hcall := szSend_any ba go ao len cap xs 1048576 _ (by omega) (by omega) hlen (hr.below hb0) hs
  by_cases h : (1048576 : Int) < (len + tot PartD.bulk xs : Nat)
  · rw [leftOf_no h] at hcall
    have HC := Lib.hid hcall
    clear hcall
    go_enter Try.func3, Try.ntmps3
    go_wp2_with fail
    refine HC.out.mono ?_
    rintro e w1 ⟨rfl, hb1⟩
    go_wp2
    go_ret
    exact ⟨rfl, hb0.trans (hb1.mono hb0.size)⟩
  · rw [leftOf_yes (by omega)] at hcall
    have HC := Lib.hid hcall
    clear hcall
    have hl : len ≤ 1048576 := by omega
    have ht : tot PartD.bulk xs ≤ 1048576 := by omega
    go_enter Try.func3, Try.ntmps3
    go_wp2_with fail
    refine HC.out.mono ?_
    rintro e w1 ⟨rfl, hb1⟩
    have hbA := hb0.trans (hb1.mono hb0.size)
    have hz1 : w.heap.size < w1.heap.size := by have := hb1.size; simp at this; omega
    obtain ⟨hc, _⟩ := bcell hb1
    have c0 : w1.cell? ⟨w.heap.size, 0, none⟩ = some (.int .i64 ba) := by rw [hc _ _ (by simp)]; simp
    have c1 : w1.cell? ⟨w.heap.size, 1, none⟩ = some (.int .i64 go) := by rw [hc _ _ (by simp)]; simp
    have c2 : w1.cell? ⟨w.heap.size, 2, none⟩ = some (.slice ao len cap) := by rw [hc _ _ (by simp)]; simp
    clear hc
    go_wp2_with fail
    refine (toSend_any _ _ _ _ _ xs _ hl (hr.below hbA)).mono ?_
    rintro e w2 ⟨g, rfl, hg, hown, hb2⟩
    go_wp2_with fail
    have hrd := (owns_rd PartD.cells_len hown).2
    refine (sendBytes_spec _ _ _ _ _ xs _ hl hrd ht).mono ?_
    rintro e w3 ⟨rfl, hb3⟩
    have hb13 := hb2.trans (hb3.mono hb2.size)
    have hbC := hbA.trans (hb13.mono hbA.size)
    have d0 := (hb13.cell (p := ⟨w.heap.size, 0, none⟩) hz1).trans c0
    have d1 := (hb13.cell (p := ⟨w.heap.size, 1, none⟩) hz1).trans c1
    have d2 := (hb13.cell (p := ⟨w.heap.size, 2, none⟩) hz1).trans c2
    have hz3 : w.heap.size < w3.heap.size := Nat.lt_of_lt_of_le hz1 hb13.size
    clear hb0 hb1 hb2 hb3 hb13 c0 c1 c2 hown hrd hbA
    go_wp2_with fail
    refine (toSend_any _ _ _ _ _ xs _ hl (hr.below hbC)).mono ?_
    rintro e w4 ⟨g4, rfl, hg4, hown4, hb4⟩
    have hbD := hbC.trans (hb4.mono hbC.size)
    have hb4' := hb4.alloc hb4.size (.cells #[.int .i64 ba, .int .i64 go, .slice (some ⟨g4, 0, none⟩) len len] 29)
    have hrd4 := (owns_rd PartD.cells_len hown4).2
    have hrd4' := hrd4.below ((Below.refl _ _).alloc (Nat.le_refl _) (.cells #[.int .i64 ba, .int .i64 go, .slice (some ⟨g4, 0, none⟩) len len] 29))
    clear hown4 hrd4
    go_wp2_with fail
    refine (sendBytes_impl _ _ _ _ _ xs _ hl hrd4' ht).mono ?_
    rintro e w5 ⟨rfl, hb5⟩
    have hb35 := hb4'.trans (hb5.mono hb4'.size)
    have hbE := hbC.trans (hb35.mono hbC.size)
    have e0 := (hb35.cell (p := ⟨w.heap.size, 0, none⟩) hz3).trans d0
    have e1 := (hb35.cell (p := ⟨w.heap.size, 1, none⟩) hz3).trans d1
    have e2 := (hb35.cell (p := ⟨w.heap.size, 2, none⟩) hz3).trans d2
    have f0 : w5.cell? ⟨w4.heap.size, 0, none⟩ = some (.int .i64 ba) := (hb5.cell (p := ⟨w4.heap.size, 0, none⟩) (by simp)).trans (by simp)
    have f1 : w5.cell? ⟨w4.heap.size, 1, none⟩ = some (.int .i64 go) := (hb5.cell (p := ⟨w4.heap.size, 1, none⟩) (by simp)).trans (by simp)
    have f2 : w5.cell? ⟨w4.heap.size, 2, none⟩ = some (.slice (some ⟨g4, 0, none⟩) len len) := (hb5.cell (p := ⟨w4.heap.size, 2, none⟩) (by simp)).trans (by simp)
    have hrd5 := hrd4'.below hb5
    have hr5 := hr.below hbE
    have hz5 : w4.heap.size < w5.heap.size := by have := hb5.size; simp at this; omega
    have hz5' : w.heap.size < w5.heap.size := Nat.lt_of_lt_of_le hz3 hb35.size
    clear hbD hb4 hb4' hb35 hrd4' hb5 d0 d1 d2 hbC hz1 hz3
    go_wp2_with fail
    go_region_with (first | (go_at_call 11; refine (toSend_any _ _ _ _ _ xs _ hl ?_).mono ?_; exact hr5.below (Below.refl _ _).drew; rintro e w6 ⟨g6, rfl, hg6, hown6, hb6⟩; have g0 := (hb6.cell (p := ⟨w4.heap.size, 0, none⟩) hz5).trans f0; have g1 := (hb6.cell (p := ⟨w4.heap.size, 1, none⟩) hz5).trans f1; have g2 := (hb6.cell (p := ⟨w4.heap.size, 2, none⟩) hz5).trans f2; have hr6 := (owns_rd PartD.cells_len hown6).2; have hrd6 := hrd5.below ((Below.refl w5.heap.size w5).drew.trans hb6); have hbF := hbE.trans (((Below.refl w5.heap.size w5).drew.trans hb6).mono hbE.size); clear hown6 hb6) | (go_at_call 13; refine (eqSend_yes _ _ _ _ _ _ _ xs _ hl (by assumption) (by assumption)).mono ?_; rintro e w7 ⟨rfl, hb7⟩))
    all_goals
      go_wp2
      go_ret
      exact ⟨rfl, hbF.trans (hb7.mono hbF.size)⟩
end Go.Proofs.Ytkgmilobmbeplaa
