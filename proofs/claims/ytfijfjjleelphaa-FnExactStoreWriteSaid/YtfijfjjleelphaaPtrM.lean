/- Marking slices of pointers. -/
import Derived.Test.YtfijfjjleelphaaRows
import Derived.Test.YtfijfjjleelphaaPtr
import Derived.Test.YtfijfjjleelphaaMark
import Derived.StillTailTactics
import Derived.BigQuiet
import Derived.Deep.QuietTactic
import Derived.Deep.RegionWith
namespace Go.Proofs.Ytfijfjjleelphaa
open Go.RowKit

def mkPtr (k : Int) : PtrD := { fAt := (k), fBirth := (k + 1), fSize := (k + 1 + 1), fSum := (k + 1 + 1 + 1), fLevel := (k + 1 + 1 + 1 + 1) }
set_option maxHeartbeats 400000 in
set_option maxRecDepth 100000 in
theorem markPtrS_any (ao : Option Addr) (len cap B : Nat) (cs : List Value) (k : Int) (w : World) (hk0 : 0 < k) (hk1 : k ≤ 1000000000000) (hlen : len ≤ 1048576) (hpos : 0 < len) (hown : w.ownsRow B 33 5 (.slice ao len cap) len cs) :
    Calls Try.prog 96 #[.slice ao len cap, .int .i64 k] w fun e w' => e = .returned (.int .i64 (k + (len : Int) * 5)) ∧ w'.ownsRow B 33 5 (.slice ao len cap) len ((marks mkPtr 5 k len).flatMap PtrD.cells) ∧ w.grownBy w' (Value.slice ao len cap).ownBlock := by
  · obtain ⟨ao', cap', hv, hcl, _, hg⟩ := owns_slice hown
    obtain ⟨g, rfl, hgB, hgs⟩ := hg hpos
    simp only [Value.slice.injEq, true_and] at hv
    obtain ⟨rfl, rfl⟩ := hv
    have hml := marks_len mkPtr 5 k len
    have hF0 : FillC PtrD.cells 5 B 33 w g len cap (marks mkPtr 5 k len) 0 := FillC.start hown
    clear hown
    go_enter Try.func96, Try.ntmps96
    go_wp2
    go_loopw [1, 5] (fun k' i wr => ∃ j : Nat, j ≤ len ∧ i = .int .i64 j ∧ k' = .int .i64 (k + (j : Int) * 5) ∧ FillC PtrD.cells 5 B 33 wr g len cap (marks mkPtr 5 k len) j ∧ w.grownBy wr (some g)) (fun _ i _ => len - (intOf i).toNat)
    case atStart => exact ⟨0, Nat.zero_le _, rfl, by simp, hF0, grown_refl _ _⟩
    case round =>
      obtain ⟨j, hj, rfl, rfl, hf, hgr⟩ := hrel
      by_cases hlt : j < len
      · have hx := Lib.hid (marks_get mkPtr 5 k len j hlt)
        obtain ⟨rest, hrest, hown⟩ := hf
        have hcs := Lib.hid (show ∃ rest' : List Value, rest'.length = (len - j) * 5 ∧ ((marks mkPtr 5 k len).take j).flatMap PtrD.cells ++ rest = ((marks mkPtr 5 k len).take j).flatMap PtrD.cells ++ rest' from ⟨rest, hrest, rfl⟩)
        have hlen2 : j * 5 + 5 ≤ (((marks mkPtr 5 k len).take j).flatMap PtrD.cells ++ rest).length := by
          rw [List.length_append, flat_len _ _ PtrD.cells_len, List.length_take, hml, hrest]; omega
        have hdef : ∃ C, C = ((marks mkPtr 5 k len).take j).flatMap PtrD.cells ++ rest := ⟨_, rfl⟩
        obtain ⟨C, hC⟩ := hdef
        rw [← hC] at hown hlen2
        rw [← hC] at hcs
        have HC := Lib.hid hC
        clear hC hrest hml hF0
        have hL : j * 5 + 5 ≤ C.length := by omega
        have HT := owns_there hown (j * 5) 5 (hL)
        obtain ⟨q0, hq0⟩ := Option.isSome_iff_exists.1 (HT 0 (by omega)).1
        have hz0 := (HT 0 (by omega)).2
        obtain ⟨q1, hq1⟩ := Option.isSome_iff_exists.1 (HT 1 (by omega)).1
        have hz1 := (HT 1 (by omega)).2
        obtain ⟨q2, hq2⟩ := Option.isSome_iff_exists.1 (HT 2 (by omega)).1
        have hz2 := (HT 2 (by omega)).2
        obtain ⟨q3, hq3⟩ := Option.isSome_iff_exists.1 (HT 3 (by omega)).1
        have hz3 := (HT 3 (by omega)).2
        obtain ⟨q4, hq4⟩ := Option.isSome_iff_exists.1 (HT 4 (by omega)).1
        have hz4 := (HT 4 (by omega)).2
        simp only [Nat.add_zero] at hq0 hz0 hq1 hz1 hq2 hz2 hq3 hz3 hq4 hz4
        clear HT
        go_wp2
        have hp0 := hown.stored (j * 5 + 0) (.int .i64 (k + (j : Int) * 5))
        simp only [Nat.add_zero] at hp0
        have hp1 := hp0.1.stored (j * 5 + 1) (.int .i64 ((k + (j : Int) * 5) + 1))
        have hp2 := hp1.1.stored (j * 5 + 2) (.int .i64 ((k + (j : Int) * 5) + 1 + 1))
        have hp3 := hp2.1.stored (j * 5 + 3) (.int .i64 ((k + (j : Int) * 5) + 1 + 1 + 1))
        have hp4 := hp3.1.stored (j * 5 + 4) (.int .i64 ((k + (j : Int) * 5) + 1 + 1 + 1 + 1))
        have hgE := (grown_trans (grown_trans (grown_trans (grown_trans (grown_trans hgr hp0.2) hp1.2) hp2.2) hp3.2) hp4.2)
        have hoE := hp4.1
        have hsp : (((((C.set (j * 5) (.int .i64 (k + (j : Int) * 5))).set (j * 5 + 1) (.int .i64 ((k + (j : Int) * 5) + 1))).set (j * 5 + 2) (.int .i64 ((k + (j : Int) * 5) + 1 + 1))).set (j * 5 + 3) (.int .i64 ((k + (j : Int) * 5) + 1 + 1 + 1))).set (j * 5 + 4) (.int .i64 ((k + (j : Int) * 5) + 1 + 1 + 1 + 1))) = splice C (j * 5) (PtrD.cells (mkPtr (k + (j : Int) * 5))) := by
          show _ = splice C (j * 5) [.int .i64 (k + (j : Int) * 5), .int .i64 ((k + (j : Int) * 5) + 1), .int .i64 ((k + (j : Int) * 5) + 1 + 1), .int .i64 ((k + (j : Int) * 5) + 1 + 1 + 1), .int .i64 ((k + (j : Int) * 5) + 1 + 1 + 1 + 1)]
          rw [← splice_cons _ (j * 5) _ _ (by simp; omega)]
          rw [← splice_cons _ (j * 5 + 1) _ _ (by simp; omega)]
          rw [← splice_cons _ (j * 5 + 1 + 1) _ _ (by simp; omega)]
          rw [← splice_cons _ (j * 5 + 1 + 1 + 1) _ _ (by simp; omega)]
          rw [splice_one _ _ _ (by simp; omega)]
        rw [hsp] at hoE
        have hf3 := FillC.next PtrD.cells_len (marks_len mkPtr 5 k len) hx.out hcs.out hoE
        go_roundw
        case rel => exact ⟨j + 1, by omega, by go_num, by go_num, hf3, hgE⟩
        case measure => simp [intOf]; omega
      · have hk' : j = len := by omega
        subst hk'
        have hfd := FillC.done hf hml
        rw [hml] at hfd
        go_wp2
        go_ret
        exact ⟨rfl, hfd, hgr⟩
set_option maxHeartbeats 400000 in
set_option maxRecDepth 100000 in
theorem markPtrS_zero (ao : Option Addr) (cap : Nat) (k : Int) (w : World) :
    Calls Try.prog 96 #[.slice ao 0 cap, .int .i64 k] w fun e w' => e = .returned (.int .i64 k) ∧ w = w' := by
  go_enter Try.func96, Try.ntmps96
  go_wp2
  go_loop [1, 5] (fun k' i => i = .int .i64 0 ∧ k' = .int .i64 k) (fun _ _ => 0)
  case atStart => exact ⟨rfl, rfl⟩
  case round =>
    obtain ⟨rfl, rfl⟩ := hrel
    go_wp2
    go_ret
    exact ⟨rfl, rfl⟩
theorem markPtrS_r (ao : Option Addr) (cap : Nat) (B B1 : Nat) (xs : List PtrD) (k : Int) (w : World) (hk0 : 0 < k) (hk1 : k ≤ 1000000000000) (hlen : xs.length ≤ 1048576) (h : RowO PtrD.cells 5 33 w B B1 (.slice ao xs.length cap) xs) :
    Calls Try.prog 96 #[.slice ao xs.length cap, .int .i64 k] w fun e w' => e = .returned (.int .i64 (k + (xs.length : Int) * 5)) ∧ RowO PtrD.cells 5 33 w' B B1 (.slice ao xs.length cap) (marks mkPtr 5 k xs.length) ∧ w.grownBy w' (Value.rowBlock (.slice ao xs.length cap)) := by
  have hlt := h.lt
  obtain ⟨ao', cap', hv, hc, hg⟩ := h
  simp only [Value.slice.injEq, true_and] at hv
  obtain ⟨rfl, rfl⟩ := hv
  by_cases hpos : 0 < xs.length
  · rcases hc with ⟨_, hx⟩ | hown
    · rw [hx] at hpos; exact absurd hpos (Nat.lt_irrefl _)
    · obtain ⟨ao', cap', hv, hcl, _, _⟩ := owns_slice hown
      simp only [Value.slice.injEq, true_and] at hv
      obtain ⟨rfl, rfl⟩ := hv
      refine (markPtrS_any ao xs.length cap B _ k w hk0 hk1 hlen hpos hown).mono ?_
      rintro e w' ⟨rfl, h1, h2⟩
      rw [rowBlock_pos (by omega)]
      refine ⟨rfl, ⟨ao, cap, by rw [marks_len], .inr (by rw [marks_len]; exact h1), hg⟩, h2⟩
  · have hx : xs = [] := List.length_eq_zero_iff.1 (by omega)
    subst hx
    refine (markPtrS_zero ao cap k w).mono ?_
    rintro e w' ⟨rfl, rfl⟩
    refine ⟨by simp, ⟨ao, cap, by rw [marks_len], ?_, hg⟩, grown_refl _ _⟩
    rcases hc with ⟨h0, _⟩ | h0
    · exact .inl ⟨h0, rfl⟩
    · right
      rw [marks_len]
      simpa [marks] using h0

set_option maxHeartbeats 400000 in
set_option maxRecDepth 100000 in
theorem heldPtrS_any (ao : Option Addr) (len cap : Nat) (k : Int) (w : World) (hk0 : 0 < k) (hk1 : k ≤ 1000000000000) (hlen : len ≤ 1048576) (hr : Rd PtrD.cells 5 w ao len (marks mkPtr 5 k len)) :
    Calls Try.prog 99 #[.slice ao len cap, .int .i64 k] w fun e w' => e = .returned (.int .i64 (k + (len : Int) * 5)) ∧ Below w.heap.size w w' := by
  go_enter Try.func99, Try.ntmps99
  go_wp2
  go_loopw [1, 5] (fun k' i wr => ∃ j : Nat, j ≤ len ∧ i = .int .i64 j ∧ k' = .int .i64 (k + (j : Int) * 5) ∧ Below w.heap.size w wr) (fun _ i _ => len - (intOf i).toNat)
  case atStart => exact ⟨0, Nat.zero_le _, rfl, by simp, Below.refl _ _⟩
  case round =>
    obtain ⟨j, hj, rfl, rfl, hb⟩ := hrel
    by_cases hlt : j < len
    · obtain ⟨b, off, x, hx0, rfl, hbl, hrg⟩ := hr.at_ j (by rw [hr.len]; exact hlt)
      obtain rfl := Option.some.inj (hx0.symm.trans (marks_get mkPtr 5 k len j hlt))
      clear hx0
      have hrg2 := rangeAt_below hrg hb hbl
      have hbl2 : b < wr.heap.size := Nat.lt_of_lt_of_le hbl hb.size
      have c0 : wr.cell? ⟨b, off + j * 5, none⟩ = some (.int .i64 (k + (j : Int) * 5)) := hrg2 0 _ rfl
      have c1 : wr.cell? ⟨b, off + j * 5 + 1, none⟩ = some (.int .i64 ((k + (j : Int) * 5) + 1)) := hrg2 1 _ rfl
      have c2 : wr.cell? ⟨b, off + j * 5 + 2, none⟩ = some (.int .i64 ((k + (j : Int) * 5) + 1 + 1)) := hrg2 2 _ rfl
      have c3 : wr.cell? ⟨b, off + j * 5 + 3, none⟩ = some (.int .i64 ((k + (j : Int) * 5) + 1 + 1 + 1)) := hrg2 3 _ rfl
      have c4 : wr.cell? ⟨b, off + j * 5 + 4, none⟩ = some (.int .i64 ((k + (j : Int) * 5) + 1 + 1 + 1 + 1)) := hrg2 4 _ rfl
      clear hrg hrg2
      go_wp2
      go_roundw
      case rel => exact ⟨j + 1, by omega, by go_num, by go_num, hb⟩
      case measure => simp [intOf]; omega
    · have hk' : j = len := by omega
      subst hk'
      go_wp2
      go_ret
      exact ⟨rfl, hb⟩

end Go.Proofs.Ytfijfjjleelphaa
