/- Marking slices of numbers and of strings. -/
import Derived.Test.YtkgmilobmbeplaaRows
import Derived.Test.YtkgmilobmbeplaaPrim
import Derived.Test.YtkgmilobmbeplaaMark
import Derived.StillTailTactics
import Derived.BigQuiet
import Derived.Deep.QuietTactic
import Derived.Deep.RegionWith
namespace Go.Proofs.Ytkgmilobmbeplaa
open Go.RowKit

def mkI (k : Int) : Int := k
set_option maxHeartbeats 400000 in
set_option maxRecDepth 100000 in
theorem markIntS_any (ao : Option Addr) (len cap B : Nat) (cs : List Value) (k : Int) (w : World) (hk0 : 0 < k) (hk1 : k ≤ 1000000000000) (hlen : len ≤ 1048576) (hpos : 0 < len) (hown : w.ownsRow B 3 1 (.slice ao len cap) len cs) :
    Calls Try.prog 29 #[.slice ao len cap, .int .i64 k] w fun e w' => e = .returned (.int .i64 (k + (len : Int) * 1)) ∧ w'.ownsRow B 3 1 (.slice ao len cap) len ((marks mkI 1 k len).flatMap encI) ∧ w.grownBy w' (Value.slice ao len cap).ownBlock := by
  · obtain ⟨ao', cap', hv, hcl, _, hg⟩ := owns_slice hown
    obtain ⟨g, rfl, hgB, hgs⟩ := hg hpos
    simp only [Value.slice.injEq, true_and] at hv
    obtain ⟨rfl, rfl⟩ := hv
    have hml := marks_len mkI 1 k len
    have hF0 : FillC encI 1 B 3 w g len cap (marks mkI 1 k len) 0 := FillC.start hown
    clear hown
    go_enter Try.func29, Try.ntmps29
    go_wp2
    go_loopw [1, 5] (fun k' i wr => ∃ j : Nat, j ≤ len ∧ i = .int .i64 j ∧ k' = .int .i64 (k + (j : Int) * 1) ∧ FillC encI 1 B 3 wr g len cap (marks mkI 1 k len) j ∧ w.grownBy wr (some g)) (fun _ i _ => len - (intOf i).toNat)
    case atStart => exact ⟨0, Nat.zero_le _, rfl, by simp, hF0, grown_refl _ _⟩
    case round =>
      obtain ⟨j, hj, rfl, rfl, hf, hgr⟩ := hrel
      by_cases hlt : j < len
      · have hx := Lib.hid (marks_get mkI 1 k len j hlt)
        simp only [Int.mul_one] at hx
        obtain ⟨rest, hrest, hown⟩ := hf
        have hcs := Lib.hid (show ∃ rest' : List Value, rest'.length = (len - j) * 1 ∧ ((marks mkI 1 k len).take j).flatMap encI ++ rest = ((marks mkI 1 k len).take j).flatMap encI ++ rest' from ⟨rest, hrest, rfl⟩)
        have hlen2 : j * 1 + 1 ≤ (((marks mkI 1 k len).take j).flatMap encI ++ rest).length := by
          rw [List.length_append, flat_len _ _ encI_len, List.length_take, hml, hrest]; omega
        have hdef : ∃ C, C = ((marks mkI 1 k len).take j).flatMap encI ++ rest := ⟨_, rfl⟩
        obtain ⟨C, hC⟩ := hdef
        rw [← hC] at hown hlen2
        rw [← hC] at hcs
        have HC := Lib.hid hC
        clear hC hrest hml hF0
        have hL : j + 1 ≤ C.length := by omega
        have HT := owns_there hown (j) 1 (hL)
        obtain ⟨q0, hq0⟩ := Option.isSome_iff_exists.1 (HT 0 (by omega)).1
        have hz0 := (HT 0 (by omega)).2
        simp only [Nat.add_zero] at hq0 hz0
        clear HT
        go_wp2
        have hp0 := hown.stored (j + 0) (.int .i64 (k + (j : Int)))
        simp only [Nat.add_zero] at hp0
        have hgE := (grown_trans hgr hp0.2)
        have hoE := hp0.1
        have hsp : (C.set (j) (.int .i64 (k + (j : Int)))) = splice C (j * 1) (encI (mkI (k + (j : Int)))) := by
          show _ = splice C (j * 1) [.int .i64 (k + (j : Int))]
          rw [Nat.mul_one, splice_one _ _ _ (by omega)]
        rw [hsp] at hoE
        have hf3 := FillC.next encI_len (marks_len mkI 1 k len) hx.out hcs.out hoE
        go_roundw
        case rel => exact ⟨j + 1, by omega, by go_num, by go_num, hf3, hgE⟩
        case measure => simp [intOf]; omega
      · have hk' : j = len := by omega
        subst hk'
        have hfd := FillC.done hf hml
        rw [hml] at hfd
        go_wp2
        go_ret
        exact ⟨rfl, hfd, hgr⟩
set_option maxHeartbeats 400000 in
set_option maxRecDepth 100000 in
theorem markIntS_zero (ao : Option Addr) (cap : Nat) (k : Int) (w : World) :
    Calls Try.prog 29 #[.slice ao 0 cap, .int .i64 k] w fun e w' => e = .returned (.int .i64 k) ∧ w = w' := by
  go_enter Try.func29, Try.ntmps29
  go_wp2
  go_loop [1, 5] (fun k' i => i = .int .i64 0 ∧ k' = .int .i64 k) (fun _ _ => 0)
  case atStart => exact ⟨rfl, rfl⟩
  case round =>
    obtain ⟨rfl, rfl⟩ := hrel
    go_wp2
    go_ret
    exact ⟨rfl, rfl⟩
theorem markIntS_r (ao : Option Addr) (cap : Nat) (B B1 : Nat) (xs : List Int) (k : Int) (w : World) (hk0 : 0 < k) (hk1 : k ≤ 1000000000000) (hlen : xs.length ≤ 1048576) (h : RowO encI 1 3 w B B1 (.slice ao xs.length cap) xs) :
    Calls Try.prog 29 #[.slice ao xs.length cap, .int .i64 k] w fun e w' => e = .returned (.int .i64 (k + (xs.length : Int) * 1)) ∧ RowO encI 1 3 w' B B1 (.slice ao xs.length cap) (marks mkI 1 k xs.length) ∧ w.grownBy w' (Value.rowBlock (.slice ao xs.length cap)) := by
  have hlt := h.lt
  obtain ⟨ao', cap', hv, hc, hg⟩ := h
  simp only [Value.slice.injEq, true_and] at hv
  obtain ⟨rfl, rfl⟩ := hv
  by_cases hpos : 0 < xs.length
  · rcases hc with ⟨_, hx⟩ | hown
    · rw [hx] at hpos; exact absurd hpos (Nat.lt_irrefl _)
    · obtain ⟨ao', cap', hv, hcl, _, _⟩ := owns_slice hown
      simp only [Value.slice.injEq, true_and] at hv
      obtain ⟨rfl, rfl⟩ := hv
      refine (markIntS_any ao xs.length cap B _ k w hk0 hk1 hlen hpos hown).mono ?_
      rintro e w' ⟨rfl, h1, h2⟩
      rw [rowBlock_pos (by omega)]
      refine ⟨rfl, ⟨ao, cap, by rw [marks_len], .inr (by rw [marks_len]; exact h1), hg⟩, h2⟩
  · have hx : xs = [] := List.length_eq_zero_iff.1 (by omega)
    subst hx
    refine (markIntS_zero ao cap k w).mono ?_
    rintro e w' ⟨rfl, rfl⟩
    refine ⟨by simp, ⟨ao, cap, by rw [marks_len], ?_, hg⟩, grown_refl _ _⟩
    rcases hc with ⟨h0, _⟩ | h0
    · exact .inl ⟨h0, rfl⟩
    · right
      rw [marks_len]
      simpa [marks] using h0

set_option maxHeartbeats 400000 in
set_option maxRecDepth 100000 in
theorem heldIntS_any (ao : Option Addr) (len cap : Nat) (k : Int) (w : World) (hk0 : 0 < k) (hk1 : k ≤ 1000000000000) (hlen : len ≤ 1048576) (hr : Rd encI 1 w ao len (marks mkI 1 k len)) :
    Calls Try.prog 65 #[.slice ao len cap, .int .i64 k] w fun e w' => e = .returned (.int .i64 (k + (len : Int) * 1)) ∧ Below w.heap.size w w' := by
  go_enter Try.func65, Try.ntmps65
  go_wp2
  go_loopw [1, 5] (fun k' i wr => ∃ j : Nat, j ≤ len ∧ i = .int .i64 j ∧ k' = .int .i64 (k + (j : Int) * 1) ∧ Below w.heap.size w wr) (fun _ i _ => len - (intOf i).toNat)
  case atStart => exact ⟨0, Nat.zero_le _, rfl, by simp, Below.refl _ _⟩
  case round =>
    obtain ⟨j, hj, rfl, rfl, hb⟩ := hrel
    by_cases hlt : j < len
    · obtain ⟨b, off, x, hx0, rfl, hbl, hrg⟩ := hr.at_ j (by rw [hr.len]; exact hlt)
      obtain rfl := Option.some.inj (hx0.symm.trans (marks_get mkI 1 k len j hlt))
      clear hx0
      have hrg2 := rangeAt_below hrg hb hbl
      have hbl2 : b < wr.heap.size := Nat.lt_of_lt_of_le hbl hb.size
      simp only [Nat.mul_one, Int.mul_one] at hrg2
      have c0 : wr.cell? ⟨b, off + j, none⟩ = some (.int .i64 (k + (j : Int))) := hrg2 0 _ rfl
      clear hrg hrg2
      go_wp2
      go_roundw
      case rel => exact ⟨j + 1, by omega, by go_num, by go_num, hb⟩
      case measure => simp [intOf]; omega
    · have hk' : j = len := by omega
      subst hk'
      go_wp2
      go_ret
      exact ⟨rfl, hb⟩

end Go.Proofs.Ytkgmilobmbeplaa
