/- The laws' helpers over slices of numbers and of strings. -/
import Derived.Test.YtkgmilobmbeplaaRows
import Derived.Test.YtkgmilobmbeplaaMem
import Derived.StillTailTactics
import Derived.BigQuiet
import Derived.Deep.QuietTactic
import Derived.Deep.RegionWith
namespace Go.Proofs.Ytkgmilobmbeplaa
open Go.RowKit

set_option maxHeartbeats 400000 in
set_option maxRecDepth 100000 in
theorem szIntS_any (ao : Option Addr) (len cap : Nat) (l : Int) (w : World) (hl0 : 0 ≤ l) (hl1 : l ≤ 1048576) (hlen : len ≤ 9223372036854775807) :
    Calls Try.prog 56 #[.slice ao len cap, .int .i64 l] w fun e w' => e = .returned (.int .i64 (leftOf l len)) ∧ Below w.heap.size w w' := by
  by_cases hln : l < len
  · have H := Lib.hid (leftOf_no hln)
    go_enter Try.func56, Try.ntmps56
    go_wp2
    go_ret
    exact ⟨ret_int H.out.symm, Below.refl _ _⟩
  · have H := Lib.hid (leftOf_yes (Int.not_lt.1 hln))
    go_enter Try.func56, Try.ntmps56
    go_wp2
    go_ret
    exact ⟨ret_int H.out.symm, Below.refl _ _⟩

theorem Try.infoIntS : (Try.prog.info? 3).map (fun i => (i.zero, i.size, i.bytes)) = some (some (.int .i64 0), 1, 8) := by kernel_rfl
set_option maxHeartbeats 400000 in
set_option maxRecDepth 100000 in
theorem toIntS_any (ao : Option Addr) (len cap : Nat) (xs : List Int) (w : World) (hlen : len ≤ 1048576) (hr : Rd encI 1 w ao len xs) :
    Calls Try.prog 24 #[.slice ao len cap] w fun e w' => e = .returned (.slice (some ⟨w.heap.size, 0, none⟩) len len) ∧ w'.ownsRow w.heap.size 3 1 (.slice (some ⟨w.heap.size, 0, none⟩) len len) xs.length (xs.flatMap encI) ∧ Below w.heap.size w w' := by
  obtain ⟨i0, hi, hz0, hz1, hz2⟩ := info_parts Try.infoIntS
  go_enter Try.func24, Try.ntmps24
  go_wp2_with (refine wpList_make_full _ rfl (.tmp 6) (.tmp 6) 44 rfl w.heap.size 3 i0 _ 1 Try.underlying44 hi hz0 hz1 .i64 .i64 _ _ len rfl rfl rfl rfl ?b2 ?b3 ?b4 ?_)
  case b2 => rw [hz2]; omega
  case b3 => unfold maxLen; omega
  case b4 => exact Nat.le_refl _
  intro w1 hown hg
  have hb0 : Below w.heap.size w w1 := (Below.refl _ _).grown hg (Nat.le_refl _) (by simp)
  have hs1 : w.heap.size + 1 ≤ w1.heap.size := (hown.lt w.heap.size (by simp [Value.ownBlock])).2
  have hfill := Fill.start (xs := xs) (enc := encI) hown
  clear hown
  go_wp2
  go_loopw [4] (fun i wr => ∃ k : Nat, k ≤ len ∧ i = .int .i64 k ∧ Fill encI 1 w.heap.size 3 wr w.heap.size len xs k ∧ Below w.heap.size w wr ∧ w.heap.size + 1 ≤ wr.heap.size) (fun i _ => len - (intOf i).toNat)
  case atStart => exact ⟨0, Nat.zero_le _, rfl, hfill, hb0, hs1⟩
  case round =>
    obtain ⟨k, hk, rfl, hf, hb, hsz⟩ := hrel
    by_cases hlt : k < len
    · have hkx : k < xs.length := by rw [hr.len]; exact hlt
      obtain ⟨b, off, x, hx0, rfl, hbl, hrg⟩ := hr.at_ k hkx
      have c0 := (rangeAt_below hrg hb hbl) 0 _ rfl; simp only [Nat.mul_one, Nat.add_zero] at c0
      have hx := Lib.hid hx0
      clear hx0
      have ht2 := Fill.there encI_len hf hr.len hlt
      obtain ⟨u0, hu0⟩ := Option.isSome_iff_exists.1 (ht2 0 (by omega)).1
      have hu1 := (ht2 0 (by omega)).2
      simp only [Nat.mul_one, Nat.add_zero] at hu0 hu1
      obtain ⟨hf3, hg3⟩ := Fill.step encI_len hf hr.len hx.out
      simp only [Nat.mul_one] at hf3 hg3
      clear ht2
      go_wp2
      go_roundw
      case rel => exact ⟨k + 1, by omega, by go_num, hf3, hb.grown hg3 (by omega) (by intro j hj; cases hj; exact Nat.le_refl _), Nat.le_trans hsz hg3.size⟩
      case measure => simp [intOf]; omega
    · have hk' : k = len := by omega
      subst hk'
      go_wp2
      go_ret
      exact ⟨rfl, Fill.done hf hr.len, hb⟩

set_option maxHeartbeats 400000 in
set_option maxRecDepth 100000 in
theorem eqIntS_yes (ao bo : Option Addr) (len cap cap2 : Nat) (xs : List Int) (w : World) (hlen : len ≤ 1048576) (hr : Rd encI 1 w ao len xs) (hr2 : Rd encI 1 w bo len xs) :
    Calls Try.prog 27 #[.slice ao len cap, .slice bo len cap2] w fun e w' => e = .returned (.bool true) ∧ Below w.heap.size w w' := by
  go_enter Try.func27, Try.ntmps27
  go_wp2
  go_loopw [5] (fun i wr => ∃ k : Nat, k ≤ len ∧ i = .int .i64 k ∧ Below w.heap.size w wr) (fun i _ => len - (intOf i).toNat)
  case atStart => exact ⟨0, Nat.zero_le _, rfl, Below.refl _ _⟩
  case round =>
    obtain ⟨k, hk, rfl, hb⟩ := hrel
    by_cases hlt : k < len
    · have hkx : k < xs.length := by rw [hr.len]; exact hlt
      obtain ⟨b, off, x, hx0, rfl, hbl, hrg⟩ := hr.at_ k hkx
      have c0 := (rangeAt_below hrg hb hbl) 0 _ rfl; simp only [Nat.mul_one, Nat.add_zero] at c0
      obtain ⟨b2, off2, x2, hx2, rfl, hbl2, hrg2⟩ := hr2.at_ k hkx
      obtain rfl : x = x2 := Option.some.inj (hx0.symm.trans hx2)
      have d0 := (rangeAt_below hrg2 hb hbl2) 0 _ rfl; simp only [Nat.mul_one, Nat.add_zero] at d0
      clear hx0 hx2
      go_wp2_with fail
      go_quiet (fail)
      go_wp2
      go_roundw
      case rel => exact ⟨k + 1, by omega, by go_num, hb.trans (below_drewN _ _ _)⟩
      case measure => simp [intOf]; omega
    · go_wp2
      go_ret
      exact ⟨rfl, hb⟩
set_option maxHeartbeats 400000 in
set_option maxRecDepth 100000 in
theorem szStringS_any (ao : Option Addr) (len cap : Nat) (xs : List ByteArray) (l : Int) (w : World) (hl0 : 0 ≤ l) (hl1 : l ≤ 1048576) (hlen : len ≤ 9223372036854775807) (hr : Rd encS 1 w ao len xs) (hs : ∀ x ∈ xs, x.size ≤ 9223372036854775807) :
    Calls Try.prog 66 #[.slice ao len cap, .int .i64 l] w fun e w' => e = .returned (.int .i64 (leftOf l (len + tot ByteArray.size xs))) ∧ Below w.heap.size w w' := by
  by_cases hln : l < len
  · rw [leftOf_no (by omega)]
    go_enter Try.func66, Try.ntmps66
    go_wp2
    go_ret
    exact ⟨rfl, Below.refl _ _⟩
  · go_enter Try.func66, Try.ntmps66
    go_wp2
    go_loopw [1,5] (fun l' i wr => ∃ k : Nat, k ≤ len ∧ i = .int .i64 k ∧ (len + tot ByteArray.size (xs.take k) : Nat) ≤ l ∧ l' = .int .i64 (l - (len + tot ByteArray.size (xs.take k) : Nat)) ∧ Below w.heap.size w wr) (fun _ i _ => len - (intOf i).toNat)
    case atStart => exact ⟨0, Nat.zero_le _, rfl, by simp [tot]; omega, by simp [tot], Below.refl _ _⟩
    case round =>
      obtain ⟨k, hk, rfl, hle, rfl, hb⟩ := hrel
      by_cases hlt : k < len
      · have hkx : k < xs.length := by rw [hr.len]; exact hlt
        obtain ⟨b, off, x, hx0, rfl, hbl, hrg⟩ := hr.at_ k hkx
        have c0 := (rangeAt_below hrg hb hbl) 0 _ rfl; simp only [Nat.mul_one, Nat.add_zero] at c0
        have hsk0 := hs _ (List.mem_of_getElem? hx0)
        have H1 := Lib.hid (tot_take ByteArray.size xs k hx0)
        clear hx0
        have hle2 := tot_take_le ByteArray.size xs (k + 1)
        by_cases hc : l - (len + tot ByteArray.size (xs.take k) : Nat) < (x.size : Nat)
        · go_wp2
          go_ret
          exact ⟨ret_int (by rw [leftOf_no (by have := H1.out; omega)]), hb⟩
        · go_wp2
          go_roundw
          case rel => exact ⟨k + 1, by omega, by go_num, by rw [H1.out]; omega, by rw [H1.out]; congr 1; omega, hb⟩
          case measure => simp [intOf]; omega
      · have hk' : k = len := by omega
        subst hk'
        have ht := Lib.hid (List.take_of_length_le (l := xs) (i := k) (by rw [hr.len]; exact Nat.le_refl _))
        rw [ht.out] at hle
        go_wp2
        go_ret
        rw [ht.out]
        exact ⟨ret_int (by rw [leftOf_yes hle]), hb⟩

theorem Try.infoStringS : (Try.prog.info? 9).map (fun i => (i.zero, i.size, i.bytes)) = some (some (.string ByteArray.empty), 1, 16) := by kernel_rfl
set_option maxHeartbeats 400000 in
set_option maxRecDepth 100000 in
theorem toStringS_any (ao : Option Addr) (len cap : Nat) (xs : List ByteArray) (w : World) (hlen : len ≤ 1048576) (hr : Rd encS 1 w ao len xs) :
    Calls Try.prog 72 #[.slice ao len cap] w fun e w' => e = .returned (.slice (some ⟨w.heap.size, 0, none⟩) len len) ∧ w'.ownsRow w.heap.size 9 1 (.slice (some ⟨w.heap.size, 0, none⟩) len len) xs.length (xs.flatMap encS) ∧ Below w.heap.size w w' := by
  obtain ⟨i0, hi, hz0, hz1, hz2⟩ := info_parts Try.infoStringS
  go_enter Try.func72, Try.ntmps72
  go_wp2_with (refine wpList_make_full _ rfl (.tmp 6) (.tmp 6) 58 rfl w.heap.size 9 i0 _ 1 Try.underlying58 hi hz0 hz1 .i64 .i64 _ _ len rfl rfl rfl rfl ?b2 ?b3 ?b4 ?_)
  case b2 => rw [hz2]; omega
  case b3 => unfold maxLen; omega
  case b4 => exact Nat.le_refl _
  intro w1 hown hg
  have hb0 : Below w.heap.size w w1 := (Below.refl _ _).grown hg (Nat.le_refl _) (by simp)
  have hs1 : w.heap.size + 1 ≤ w1.heap.size := (hown.lt w.heap.size (by simp [Value.ownBlock])).2
  have hfill := Fill.start (xs := xs) (enc := encS) hown
  clear hown
  go_wp2
  go_loopw [4] (fun i wr => ∃ k : Nat, k ≤ len ∧ i = .int .i64 k ∧ Fill encS 1 w.heap.size 9 wr w.heap.size len xs k ∧ Below w.heap.size w wr ∧ w.heap.size + 1 ≤ wr.heap.size) (fun i _ => len - (intOf i).toNat)
  case atStart => exact ⟨0, Nat.zero_le _, rfl, hfill, hb0, hs1⟩
  case round =>
    obtain ⟨k, hk, rfl, hf, hb, hsz⟩ := hrel
    by_cases hlt : k < len
    · have hkx : k < xs.length := by rw [hr.len]; exact hlt
      obtain ⟨b, off, x, hx0, rfl, hbl, hrg⟩ := hr.at_ k hkx
      have c0 := (rangeAt_below hrg hb hbl) 0 _ rfl; simp only [Nat.mul_one, Nat.add_zero] at c0
      have hx := Lib.hid hx0
      clear hx0
      have ht2 := Fill.there encS_len hf hr.len hlt
      obtain ⟨u0, hu0⟩ := Option.isSome_iff_exists.1 (ht2 0 (by omega)).1
      have hu1 := (ht2 0 (by omega)).2
      simp only [Nat.mul_one, Nat.add_zero] at hu0 hu1
      obtain ⟨hf3, hg3⟩ := Fill.step encS_len hf hr.len hx.out
      simp only [Nat.mul_one] at hf3 hg3
      clear ht2
      go_wp2
      go_roundw
      case rel => exact ⟨k + 1, by omega, by go_num, hf3, hb.grown hg3 (by omega) (by intro j hj; cases hj; exact Nat.le_refl _), Nat.le_trans hsz hg3.size⟩
      case measure => simp [intOf]; omega
    · have hk' : k = len := by omega
      subst hk'
      go_wp2
      go_ret
      exact ⟨rfl, Fill.done hf hr.len, hb⟩

set_option maxHeartbeats 400000 in
set_option maxRecDepth 100000 in
theorem eqStringS_yes (ao bo : Option Addr) (len cap cap2 : Nat) (xs : List ByteArray) (w : World) (hlen : len ≤ 1048576) (hr : Rd encS 1 w ao len xs) (hr2 : Rd encS 1 w bo len xs) :
    Calls Try.prog 78 #[.slice ao len cap, .slice bo len cap2] w fun e w' => e = .returned (.bool true) ∧ Below w.heap.size w w' := by
  go_enter Try.func78, Try.ntmps78
  go_wp2
  go_loopw [5] (fun i wr => ∃ k : Nat, k ≤ len ∧ i = .int .i64 k ∧ Below w.heap.size w wr) (fun i _ => len - (intOf i).toNat)
  case atStart => exact ⟨0, Nat.zero_le _, rfl, Below.refl _ _⟩
  case round =>
    obtain ⟨k, hk, rfl, hb⟩ := hrel
    by_cases hlt : k < len
    · have hkx : k < xs.length := by rw [hr.len]; exact hlt
      obtain ⟨b, off, x, hx0, rfl, hbl, hrg⟩ := hr.at_ k hkx
      have c0 := (rangeAt_below hrg hb hbl) 0 _ rfl; simp only [Nat.mul_one, Nat.add_zero] at c0
      obtain ⟨b2, off2, x2, hx2, rfl, hbl2, hrg2⟩ := hr2.at_ k hkx
      obtain rfl : x = x2 := Option.some.inj (hx0.symm.trans hx2)
      have d0 := (rangeAt_below hrg2 hb hbl2) 0 _ rfl; simp only [Nat.mul_one, Nat.add_zero] at d0
      clear hx0 hx2
      go_wp2_with fail
      go_quiet (fail)
      go_wp2
      go_roundw
      case rel => exact ⟨k + 1, by omega, by go_num, hb.trans (below_drewN _ _ _)⟩
      case measure => simp [intOf]; omega
    · go_wp2
      go_ret
      exact ⟨rfl, hb⟩

end Go.Proofs.Ytkgmilobmbeplaa
