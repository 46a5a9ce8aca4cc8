/- A part of the proof in YtfijfjjleelphaaHealZ16. -/
import Derived.BigQuiet
import Derived.Deep.MidRow
import Derived.Deep.QuietTactic
import Derived.Deep.RegionWith
import Derived.Lib.Hide
import Derived.StillTailTactics
import Derived.Test.YtfijfjjleelphaaRows
import Derived.WalkKit
import Derived.WalkLawsBesides
import Derived.WalkSpells
import Derived.Test.YtfijfjjleelphaaHealZ1
/- The laws' helpers over slices of numbers and of strings. -/
namespace Go.Proofs.Ytfijfjjleelphaa
open Go.RowKit

set_option maxHeartbeats 400000 in
set_option maxRecDepth 100000 in
theorem szStringS_any (ao : Option Addr) (len cap : Nat) (xs : List ByteArray) (l : Int) (w : World) (hl0 : 0 ≤ l) (hl1 : l ≤ 1048576) (hlen : len ≤ 9223372036854775807) (hr : Rd encS 1 w ao len xs) (hs : ∀ x ∈ xs, x.size ≤ 9223372036854775807) :
    Calls Try.prog 78 #[.slice ao len cap, .int .i64 l] w fun e w' => e = .returned (.int .i64 (leftOf l (len + tot ByteArray.size xs))) ∧ Below w.heap.size w w' := by
  by_cases hln : l < len
  · rw [leftOf_no (by omega)]
    go_enter Try.func78, Try.ntmps78
    go_wp2
    go_ret
    exact ⟨rfl, Below.refl _ _⟩
  · go_enter Try.func78, Try.ntmps78
    go_wp2
    go_loopw [1,5] (fun l' i wr => ∃ k : Nat, k ≤ len ∧ i = .int .i64 k ∧ (len + tot ByteArray.size (xs.take k) : Nat) ≤ l ∧ l' = .int .i64 (l - (len + tot ByteArray.size (xs.take k) : Nat)) ∧ Below w.heap.size w wr) (fun _ i _ => len - (intOf i).toNat)
    case atStart => exact ⟨0, Nat.zero_le _, rfl, by simp [tot]; omega, by simp [tot], Below.refl _ _⟩
    case round =>
      obtain ⟨k, hk, rfl, hle, rfl, hb⟩ := hrel
      by_cases hlt : k < len
      · have hkx : k < xs.length := by rw [hr.len]; exact hlt
        obtain ⟨b, off, x, hx0, rfl, hbl, hrg⟩ := hr.at_ k hkx
        have c0 := (rangeAt_below hrg hb hbl) 0 _ rfl; simp only [Nat.mul_one, Nat.add_zero] at c0
        have hsk0 := hs _ (List.mem_of_getElem? hx0)
        have H1 := Lib.hid (tot_take ByteArray.size xs k hx0)
        clear hx0
        have hle2 := tot_take_le ByteArray.size xs (k + 1)
        by_cases hc : l - (len + tot ByteArray.size (xs.take k) : Nat) < (x.size : Nat)
        · go_wp2
          go_ret
          exact ⟨ret_int (by rw [leftOf_no (by have := H1.out; omega)]), hb⟩
        · go_wp2
          go_roundw
          case rel => exact ⟨k + 1, by omega, by go_num, by rw [H1.out]; omega, by rw [H1.out]; congr 1; omega, hb⟩
          case measure => simp [intOf]; omega
      · have hk' : k = len := by omega
        subst hk'
        have ht := Lib.hid (List.take_of_length_le (l := xs) (i := k) (by rw [hr.len]; exact Nat.le_refl _))
        rw [ht.out] at hle
        go_wp2
        go_ret
        rw [ht.out]
        exact ⟨ret_int (by rw [leftOf_yes hle]), hb⟩

theorem Try.infoStringS : (Try.prog.info? 9).map (fun i => (i.zero, i.size, i.bytes)) = some (some (.string ByteArray.empty), 1, 16) := by kernel_rfl
set_option maxHeartbeats 400000 in
set_option maxRecDepth 100000 in
theorem toStringS_any (ao : Option Addr) (len cap : Nat) (xs : List ByteArray) (w : World) (hlen : len ≤ 1048576) (hr : Rd encS 1 w ao len xs) :
    Calls Try.prog 85 #[.slice ao len cap] w fun e w' => e = .returned (.slice (some ⟨w.heap.size, 0, none⟩) len len) ∧ w'.ownsRow w.heap.size 9 1 (.slice (some ⟨w.heap.size, 0, none⟩) len len) xs.length (xs.flatMap encS) ∧ Below w.heap.size w w' := by
  obtain ⟨i0, hi, hz0, hz1, hz2⟩ := info_parts Try.infoStringS
  go_enter Try.func85, Try.ntmps85
  go_wp2_with (refine wpList_make_full _ rfl (.tmp 6) (.tmp 6) 41 rfl w.heap.size 9 i0 _ 1 Try.underlying41 hi hz0 hz1 .i64 .i64 _ _ len rfl rfl rfl rfl ?b2 ?b3 ?b4 ?_)
  case b2 => rw [hz2]; omega
  case b3 => unfold maxLen; omega
  case b4 => exact Nat.le_refl _
  intro w1 hown hg
  have hb0 : Below w.heap.size w w1 := (Below.refl _ _).grown hg (Nat.le_refl _) (by simp)
  have hs1 : w.heap.size + 1 ≤ w1.heap.size := (hown.lt w.heap.size (by simp [Value.ownBlock])).2
  have hfill := Fill.start (xs := xs) (enc := encS) hown
  clear hown
  go_wp2
  go_loopw [4] (fun i wr => ∃ k : Nat, k ≤ len ∧ i = .int .i64 k ∧ Fill encS 1 w.heap.size 9 wr w.heap.size len xs k ∧ Below w.heap.size w wr ∧ w.heap.size + 1 ≤ wr.heap.size) (fun i _ => len - (intOf i).toNat)
  case atStart => exact ⟨0, Nat.zero_le _, rfl, hfill, hb0, hs1⟩
  case round =>
    obtain ⟨k, hk, rfl, hf, hb, hsz⟩ := hrel
    by_cases hlt : k < len
    · have hkx : k < xs.length := by rw [hr.len]; exact hlt
      obtain ⟨b, off, x, hx0, rfl, hbl, hrg⟩ := hr.at_ k hkx
      have c0 := (rangeAt_below hrg hb hbl) 0 _ rfl; simp only [Nat.mul_one, Nat.add_zero] at c0
      have hx := Lib.hid hx0
      clear hx0
      have ht2 := Fill.there encS_len hf hr.len hlt
      obtain ⟨u0, hu0⟩ := Option.isSome_iff_exists.1 (ht2 0 (by omega)).1
      have hu1 := (ht2 0 (by omega)).2
      simp only [Nat.mul_one, Nat.add_zero] at hu0 hu1
      obtain ⟨hf3, hg3⟩ := Fill.step encS_len hf hr.len hx.out
      simp only [Nat.mul_one] at hf3 hg3
      clear ht2
      go_wp2
      go_roundw
      case rel => exact ⟨k + 1, by omega, by go_num, hf3, hb.grown hg3 (by omega) (by intro j hj; cases hj; exact Nat.le_refl _), Nat.le_trans hsz hg3.size⟩
      case measure => simp [intOf]; omega
    · have hk' : k = len := by omega
      subst hk'
      go_wp2
      go_ret
      exact ⟨rfl, Fill.done hf hr.len, hb⟩

set_option maxHeartbeats 400000 in
set_option maxRecDepth 100000 in
theorem eqStringS_yes (ao bo : Option Addr) (len cap cap2 : Nat) (xs : List ByteArray) (w : World) (hlen : len ≤ 1048576) (hr : Rd encS 1 w ao len xs) (hr2 : Rd encS 1 w bo len xs) :
    Calls Try.prog 91 #[.slice ao len cap, .slice bo len cap2] w fun e w' => e = .returned (.bool true) ∧ Below w.heap.size w w' := by
  go_enter Try.func91, Try.ntmps91
  go_wp2
  go_loopw [5] (fun i wr => ∃ k : Nat, k ≤ len ∧ i = .int .i64 k ∧ Below w.heap.size w wr) (fun i _ => len - (intOf i).toNat)
  case atStart => exact ⟨0, Nat.zero_le _, rfl, Below.refl _ _⟩
  case round =>
    obtain ⟨k, hk, rfl, hb⟩ := hrel
    by_cases hlt : k < len
    · have hkx : k < xs.length := by rw [hr.len]; exact hlt
      obtain ⟨b, off, x, hx0, rfl, hbl, hrg⟩ := hr.at_ k hkx
      have c0 := (rangeAt_below hrg hb hbl) 0 _ rfl; simp only [Nat.mul_one, Nat.add_zero] at c0
      obtain ⟨b2, off2, x2, hx2, rfl, hbl2, hrg2⟩ := hr2.at_ k hkx
      obtain rfl : x = x2 := Option.some.inj (hx0.symm.trans hx2)
      have d0 := (rangeAt_below hrg2 hb hbl2) 0 _ rfl; simp only [Nat.mul_one, Nat.add_zero] at d0
      clear hx0 hx2
      go_wp2_with fail
      go_quiet (fail)
      go_wp2
      go_roundw
      case rel => exact ⟨k + 1, by omega, by go_num, hb.trans (below_drewN _ _ _)⟩
      case measure => simp [intOf]; omega
    · go_wp2
      go_ret
      exact ⟨rfl, hb⟩

end Go.Proofs.Ytfijfjjleelphaa

/- The laws' helpers over waiting writes. -/
namespace Go.Proofs.Ytfijfjjleelphaa
open Go.RowKit

structure WaitD where
  fAt : Int
  fText : ByteArray
def WaitD.cells (x : WaitD) : List Value := [.int .i64 x.fAt, .string x.fText]
theorem WaitD.cells_len (x : WaitD) : x.cells.length = 2 := rfl
theorem WaitD.at_ {w : World} {b o : Nat} {x : WaitD} (h : w.rangeAt b o x.cells) :
    w.cell? ⟨b, o, none⟩ = some (.int .i64 x.fAt) ∧ w.cell? ⟨b, o + 1, none⟩ = some (.string x.fText) :=
  ⟨h 0 _ rfl, h 1 _ rfl⟩

def WaitD.bulk (x : WaitD) : Nat := x.fText.size
set_option maxHeartbeats 400000 in
set_option maxRecDepth 100000 in
theorem szWait_any (x : WaitD) (l : Int) (w : World) (hl0 : 0 ≤ l) (hl1 : l ≤ 1048576) (hs0 : x.fText.size ≤ 9223372036854775807) :
    Calls Try.prog 173 #[.agg #[.int .i64 x.fAt, .string x.fText], .int .i64 l] w fun e w' => e = .returned (.int .i64 (leftOf l x.bulk)) ∧ Below w.heap.size w w' := by
  by_cases h0 : l < (x.fText.size : Nat)
  · have H := Lib.hid (leftOf_no (l := l) (n := x.bulk) (by simp only [WaitD.bulk]; omega))
    go_enter Try.func173, Try.ntmps173
    go_wp2
    go_ret
    exact ⟨ret_int H.out.symm, (Below.refl _ _).alloc (Nat.le_refl _) _⟩
  have H := Lib.hid (leftOf_yes (l := l) (n := x.bulk) (by simp only [WaitD.bulk]; omega))
  go_enter Try.func173, Try.ntmps173
  go_wp2
  go_ret
  exact ⟨ret_int (by rw [H.out]; simp only [WaitD.bulk]; try omega), (Below.refl _ _).alloc (Nat.le_refl _) _⟩
set_option maxHeartbeats 400000 in
set_option maxRecDepth 100000 in
theorem toWait_any (x : WaitD) (w : World) :
    Calls Try.prog 174 #[.agg #[.int .i64 x.fAt, .string x.fText]] w fun e w' => e = .returned (.agg #[.int .i64 x.fAt, .string x.fText]) ∧ Below w.heap.size w w' := by
  go_enter Try.func174, Try.ntmps174
  go_wp2
  refine bodyPost_ret (v := .agg #[.int .i64 x.fAt, .string x.fText]) (by simp [results, Try.results174, go_sem]) rfl ⟨rfl, ?_⟩
  exact (((Below.refl _ _).alloc (Nat.le_refl _) _).alloc (by simp) _).alloc (by simp; omega) _
set_option maxHeartbeats 400000 in
set_option maxRecDepth 100000 in
theorem eqWait_yes (x : WaitD) (w : World) :
    Calls Try.prog 175 #[.agg #[.int .i64 x.fAt, .string x.fText], .agg #[.int .i64 x.fAt, .string x.fText]] w fun e w' => e = .returned (.bool true) ∧ Below w.heap.size w w' := by
  go_enter Try.func175, Try.ntmps175
  go_wp2
  go_ret
  exact ⟨rfl, ((Below.refl _ _).alloc (Nat.le_refl _) _).alloc (by simp) _⟩
set_option maxHeartbeats 400000 in
set_option maxRecDepth 100000 in
theorem szWaitS_any (ao : Option Addr) (len cap : Nat) (xs : List WaitD) (l : Int) (w : World) (hl0 : 0 ≤ l) (hl1 : l ≤ 1048576) (hlen : len ≤ 9223372036854775807) (hr : Rd WaitD.cells 2 w ao len xs) (hs : ∀ x ∈ xs, x.fText.size ≤ 9223372036854775807) :
    Calls Try.prog 169 #[.slice ao len cap, .int .i64 l] w fun e w' => e = .returned (.int .i64 (leftOf l (len + tot WaitD.bulk xs))) ∧ Below w.heap.size w w' := by
  by_cases hln : l < len
  · rw [leftOf_no (by omega)]
    go_enter Try.func169, Try.ntmps169
    go_wp2
    go_ret
    exact ⟨rfl, Below.refl _ _⟩
  · go_enter Try.func169, Try.ntmps169
    go_wp2
    go_loopw [1,5] (fun l' i wr => ∃ k : Nat, k ≤ len ∧ i = .int .i64 k ∧ (len + tot WaitD.bulk (xs.take k) : Nat) ≤ l ∧ l' = .int .i64 (l - (len + tot WaitD.bulk (xs.take k) : Nat)) ∧ Below w.heap.size w wr) (fun _ i _ => len - (intOf i).toNat)
    case atStart => exact ⟨0, Nat.zero_le _, rfl, by simp [tot]; omega, by simp [tot], Below.refl _ _⟩
    case round =>
      obtain ⟨k, hk, rfl, hle, rfl, hb⟩ := hrel
      by_cases hlt : k < len
      · have hkx : k < xs.length := by rw [hr.len]; exact hlt
        obtain ⟨b, off, x, hx0, rfl, hbl, hrg⟩ := hr.at_ k hkx
        obtain ⟨c0, c1⟩ := WaitD.at_ (rangeAt_below hrg hb hbl)
        have hsk0 := hs _ (List.mem_of_getElem? hx0)
        have H1 := Lib.hid (tot_take WaitD.bulk xs k hx0)
        clear hx0
        have hle2 := tot_take_le WaitD.bulk xs (k + 1)
        have hcall := szWait_any x (l - (len + tot WaitD.bulk (xs.take k) : Nat)) wr (by omega) (by omega) hsk0
        by_cases hc : l - (len + tot WaitD.bulk (xs.take k) : Nat) < (x.bulk : Nat)
        · rw [leftOf_no hc] at hcall
          have HC := Lib.hid hcall
          clear hcall
          go_wp2_with fail
          refine HC.out.mono ?_
          rintro e w' ⟨rfl, hb'⟩
          go_wp2
          go_ret
          exact ⟨ret_int (by rw [leftOf_no (by have := H1.out; omega)]), hb.trans (hb'.mono hb.size)⟩
        · rw [leftOf_yes (by omega)] at hcall
          have HC := Lib.hid hcall
          clear hcall
          go_wp2_with fail
          refine HC.out.mono ?_
          rintro e w' ⟨rfl, hb'⟩
          go_wp2
          go_roundw
          case rel => exact ⟨k + 1, by omega, by go_num, by rw [H1.out]; omega, by rw [H1.out]; congr 1; omega, hb.trans (hb'.mono hb.size)⟩
          case measure => simp [intOf]; omega
      · have hk' : k = len := by omega
        subst hk'
        have ht := Lib.hid (List.take_of_length_le (l := xs) (i := k) (by rw [hr.len]; exact Nat.le_refl _))
        rw [ht.out] at hle
        go_wp2
        go_ret
        rw [ht.out]
        exact ⟨ret_int (by rw [leftOf_yes hle]), hb⟩

theorem Try.infoWaitS : (Try.prog.info? 144).map (fun i => (i.zero, i.size, i.bytes)) = some (some (.agg #[.int .i64 0, .string ByteArray.empty]), 2, 24) := by kernel_rfl
set_option maxHeartbeats 400000 in
set_option maxRecDepth 100000 in
theorem toWaitS_any (ao : Option Addr) (len cap : Nat) (xs : List WaitD) (w : World) (hlen : len ≤ 1048576) (hr : Rd WaitD.cells 2 w ao len xs) :
    Calls Try.prog 170 #[.slice ao len cap] w fun e w' => e = .returned (.slice (some ⟨w.heap.size, 0, none⟩) len len) ∧ w'.ownsRow w.heap.size 144 2 (.slice (some ⟨w.heap.size, 0, none⟩) len len) xs.length (xs.flatMap WaitD.cells) ∧ Below w.heap.size w w' := by
  obtain ⟨i0, hi, hz0, hz1, hz2⟩ := info_parts Try.infoWaitS
  go_enter Try.func170, Try.ntmps170
  go_wp2_with (refine wpList_make_full _ rfl (.tmp 6) (.tmp 6) 42 rfl w.heap.size 144 i0 _ 2 Try.underlying42 hi hz0 hz1 .i64 .i64 _ _ len rfl rfl rfl rfl ?b2 ?b3 ?b4 ?_)
  case b2 => rw [hz2]; omega
  case b3 => unfold maxLen; omega
  case b4 => exact Nat.le_refl _
  intro w1 hown hg
  have hb0 : Below w.heap.size w w1 := (Below.refl _ _).grown hg (Nat.le_refl _) (by simp)
  have hs1 : w.heap.size + 1 ≤ w1.heap.size := (hown.lt w.heap.size (by simp [Value.ownBlock])).2
  have hfill := Fill.start (xs := xs) (enc := WaitD.cells) hown
  clear hown
  go_wp2
  go_loopw [4] (fun i wr => ∃ k : Nat, k ≤ len ∧ i = .int .i64 k ∧ Fill WaitD.cells 2 w.heap.size 144 wr w.heap.size len xs k ∧ Below w.heap.size w wr ∧ w.heap.size + 1 ≤ wr.heap.size) (fun i _ => len - (intOf i).toNat)
  case atStart => exact ⟨0, Nat.zero_le _, rfl, hfill, hb0, hs1⟩
  case round =>
    obtain ⟨k, hk, rfl, hf, hb, hsz⟩ := hrel
    by_cases hlt : k < len
    · have hkx : k < xs.length := by rw [hr.len]; exact hlt
      obtain ⟨b, off, x, hx0, rfl, hbl, hrg⟩ := hr.at_ k hkx
      obtain ⟨c0, c1⟩ := WaitD.at_ (rangeAt_below hrg hb hbl)
      have hx := Lib.hid hx0
      clear hx0
      go_wp2_with fail
      refine (toWait_any x _).mono ?_
      rintro e w2 ⟨rfl, hb2⟩
      have hf2 := hf.below hb2 (Nat.le_refl _)
      have ht2 := Fill.there WaitD.cells_len hf2 hr.len hlt
      obtain ⟨hf3, hg3⟩ := Fill.step WaitD.cells_len hf2 hr.len hx.out
      go_wp2_with (refine wpList_store_mid rfl 144 (.tmp 21) (.tmp 20) rfl w.heap.size (k * 2) _ rfl rfl ?c0 ?c1 ?c2 ?_)
      case c0 => exact ht2
      case c1 => kernel_rfl
      case c2 => simp [Value.oneCell']
      go_roundw
      case rel => exact ⟨k + 1, by omega, by go_num, hf3, (hb.trans (hb2.mono hb.size)).grown hg3 (by have := hb2.size; omega) (by intro j hj; cases hj; exact Nat.le_refl _), by have h3 := hg3.size; simp only [WaitD.cells] at h3; have := hb2.size; omega⟩
      case measure => simp [intOf]; omega
    · have hk' : k = len := by omega
      subst hk'
      go_wp2
      go_ret
      exact ⟨rfl, Fill.done hf hr.len, hb⟩

set_option maxHeartbeats 400000 in
set_option maxRecDepth 100000 in
theorem eqWaitS_yes (ao bo : Option Addr) (len cap cap2 : Nat) (xs : List WaitD) (w : World) (hlen : len ≤ 1048576) (hr : Rd WaitD.cells 2 w ao len xs) (hr2 : Rd WaitD.cells 2 w bo len xs) :
    Calls Try.prog 171 #[.slice ao len cap, .slice bo len cap2] w fun e w' => e = .returned (.bool true) ∧ Below w.heap.size w w' := by
  go_enter Try.func171, Try.ntmps171
  go_wp2
  go_loopw [5] (fun i wr => ∃ k : Nat, k ≤ len ∧ i = .int .i64 k ∧ Below w.heap.size w wr) (fun i _ => len - (intOf i).toNat)
  case atStart => exact ⟨0, Nat.zero_le _, rfl, Below.refl _ _⟩
  case round =>
    obtain ⟨k, hk, rfl, hb⟩ := hrel
    by_cases hlt : k < len
    · have hkx : k < xs.length := by rw [hr.len]; exact hlt
      obtain ⟨b, off, x, hx0, rfl, hbl, hrg⟩ := hr.at_ k hkx
      obtain ⟨c0, c1⟩ := WaitD.at_ (rangeAt_below hrg hb hbl)
      obtain ⟨b2, off2, x2, hx2, rfl, hbl2, hrg2⟩ := hr2.at_ k hkx
      obtain rfl : x = x2 := Option.some.inj (hx0.symm.trans hx2)
      obtain ⟨d0, d1⟩ := WaitD.at_ (rangeAt_below hrg2 hb hbl2)
      clear hx0 hx2
      go_wp2_with fail
      go_still_tail 8, (by kernel_rfl)
      change wpList _ _ _ _ _ wr.drew
      have hb1 := hb.drew
      have hsz := hb1.size
      generalize wr.drew = w1 at hb1 hsz ⊢
      go_wp2_with fail
      refine (eqWait_yes x _).mono ?_
      rintro e w2 ⟨rfl, hb2⟩
      go_wp2
      go_roundw
      case rel => exact ⟨k + 1, by omega, by go_num, hb1.trans (hb2.mono hsz)⟩
      case measure => simp [intOf]; omega
    · go_wp2
      go_ret
      exact ⟨rfl, hb⟩

end Go.Proofs.Ytfijfjjleelphaa

/- The laws' helpers over disks. -/
namespace Go.Proofs.Ytfijfjjleelphaa
open Go.RowKit

structure DiskD where
  fCells : List ByteArray
  fWaits : List WaitD
  fGone : Bool
def DiskD.Reads (w : World) (v : Value) (x : DiskD) : Prop := ∃ (a0 : Option Addr) (c0 : Nat) (a1 : Option Addr) (c1 : Nat), v = .agg #[.slice a0 x.fCells.length c0, .slice a1 x.fWaits.length c1, .bool x.fGone] ∧ Rd encS 1 w a0 x.fCells.length x.fCells ∧ Rd WaitD.cells 2 w a1 x.fWaits.length x.fWaits
def DiskD.Own (w : World) (B B1 : Nat) (v : Value) (x : DiskD) : Prop := ∃ (a0 : Option Addr) (c0 : Nat) (a1 : Option Addr) (c1 : Nat), v = .agg #[.slice a0 x.fCells.length c0, .slice a1 x.fWaits.length c1, .bool x.fGone] ∧ RowO encS 1 9 w B B1 (.slice a0 x.fCells.length c0) x.fCells ∧ RowO WaitD.cells 2 144 w B B1 (.slice a1 x.fWaits.length c1) x.fWaits ∧ Apart (.slice a0 x.fCells.length c0) (.slice a1 x.fWaits.length c1)
theorem DiskD.Reads.below {w w' : World} {v : Value} {x : DiskD} (h : DiskD.Reads w v x) (hb : Below w.heap.size w w') : DiskD.Reads w' v x := by
  obtain ⟨a0, c0, a1, c1, rfl, r0, r1⟩ := h
  exact ⟨a0, c0, a1, c1, rfl, r0.below hb, r1.below hb⟩
theorem DiskD.Own.rd {w : World} {B B1 : Nat} {v : Value} {x : DiskD} (h : DiskD.Own w B B1 v x) : DiskD.Reads w v x := by
  obtain ⟨a0, c0, a1, c1, rfl, r0, r1, p0_1⟩ := h
  obtain ⟨u0, e0, k0, d0⟩ := r0.rd encS_len
  simp only [Value.slice.injEq, true_and] at k0
  obtain ⟨rfl, rfl⟩ := k0
  obtain ⟨u1, e1, k1, d1⟩ := r1.rd WaitD.cells_len
  simp only [Value.slice.injEq, true_and] at k1
  obtain ⟨rfl, rfl⟩ := k1
  exact ⟨_, _, _, _, rfl, d0, d1⟩
theorem DiskD.Own.below {w : World} {B B1 : Nat} {v : Value} {x : DiskD} (h : DiskD.Own w B B1 v x) {w' : World} {C : Nat} (hb : Below C w w') (hC : w.heap.size ≤ C) : DiskD.Own w' B B1 v x := by
  obtain ⟨a0, c0, a1, c1, rfl, r0, r1, p0_1⟩ := h
  exact ⟨a0, c0, a1, c1, rfl, r0.below hb hC, r1.below hb hC, p0_1⟩
theorem DiskD.Own.mono {w : World} {B B1 : Nat} {v : Value} {x : DiskD} (h : DiskD.Own w B B1 v x) {B' B1' : Nat} (hB : B' ≤ B) (hB1 : B1 ≤ B1') : DiskD.Own w B' B1' v x := by
  obtain ⟨a0, c0, a1, c1, rfl, r0, r1, p0_1⟩ := h
  exact ⟨a0, c0, a1, c1, rfl, r0.mono hB hB1, r1.mono hB hB1, p0_1⟩
theorem DiskD.Own.set {w : World} {B B1 : Nat} {v : Value} {x : DiskD} (h : DiskD.Own w B B1 v x) {p : Addr} (hp : p.block < B) (u : Value) : DiskD.Own (w.setCell p u) B B1 v x := by
  obtain ⟨a0, c0, a1, c1, rfl, r0, r1, p0_1⟩ := h
  exact ⟨a0, c0, a1, c1, rfl, r0.set hp u, r1.set hp u, p0_1⟩
def DiskD.bulk (x : DiskD) : Nat := (x.fCells.length + tot ByteArray.size x.fCells) + (x.fWaits.length + tot WaitD.bulk x.fWaits)
structure DiskD.Small (x : DiskD) : Prop where
  s0_0 : x.fCells.length ≤ 9223372036854775807
  s0_1 : (∀ e ∈ x.fCells, e.size ≤ 9223372036854775807)
  s1_0 : x.fWaits.length ≤ 9223372036854775807
  s1_1 : (∀ e ∈ x.fWaits, e.fText.size ≤ 9223372036854775807)
structure DiskD.Fit (x : DiskD) : Prop where
  f0 : x.fCells.length ≤ 1048576
  f1 : x.fWaits.length ≤ 1048576
theorem DiskD.fit {x : DiskD} (h : x.bulk ≤ 1048576) : x.Fit := by
  unfold DiskD.bulk at h
  exact ⟨by omega, by omega⟩

set_option maxHeartbeats 400000 in
set_option maxRecDepth 100000 in
theorem szDisk_any (v : Value) (x : DiskD) (l : Int) (w : World) (hl0 : 0 ≤ l) (hl1 : l ≤ 1048576) (hr : DiskD.Reads w v x) (hs : x.Small) :
    Calls Try.prog 153 #[v, .int .i64 l] w fun e w' => e = .returned (.int .i64 (leftOf l x.bulk)) ∧ Below w.heap.size w w' := by
  obtain ⟨a0, c0, a1, c1, rfl, r0, r1⟩ := hr
  have hbA : Below w.heap.size w (w.alloc (.cells #[.slice a0 x.fCells.length c0, .slice a1 x.fWaits.length c1, .bool x.fGone] 168)) := (Below.refl _ _).alloc (Nat.le_refl _) _
  have hA0 := blk_new w (.cells #[.slice a0 x.fCells.length c0, .slice a1 x.fWaits.length c1, .bool x.fGone] 168) _ rfl
  obtain ⟨t0, ht0⟩ : ∃ t : Nat, t = (x.fCells.length + tot ByteArray.size x.fCells) := ⟨_, rfl⟩
  obtain ⟨t1, ht1⟩ : ∃ t : Nat, t = (x.fWaits.length + tot WaitD.bulk x.fWaits) := ⟨_, rfl⟩
  have HB : Hid (x.bulk = t0 + t1) := by
    show x.bulk = _
    simp only [ht0, ht1]
    unfold DiskD.bulk
    omega
  have HT0 := Lib.hid ht0
  clear ht0
  have HT1 := Lib.hid ht1
  clear ht1
  go_enter Try.func153, Try.ntmps153
  go_wp2_with fail
  refine (szStringS_any _ _ _ x.fCells _ _ (by omega) (by omega) hs.s0_0 (r0.below hbA) hs.s0_1).mono ?_
  rintro e w1 ⟨rfl, b1⟩
  rw [← HT0.out]
  have hA1 := blk_below hA0 b1 (Nat.le_refl _)
  have hb1 := hbA.trans (b1.mono hbA.size)
  clear b1 hA0
  by_cases g0 : l < (t0 : Int)
  · rw [leftOf_no g0]
    go_wp2
    go_ret
    exact ⟨ret_int (by rw [HB.out, leftOf_no (by omega)]), hb1⟩
  rw [leftOf_yes (Int.not_lt.1 g0)]
  have p1 : w1.cell? ⟨w.heap.size, 1, none⟩ = some (.slice a1 x.fWaits.length c1) := blk_cell hA1 1
  go_wp2_with fail
  refine (szWaitS_any _ _ _ x.fWaits _ _ (by omega) (by omega) hs.s1_0 (r1.below hb1) hs.s1_1).mono ?_
  rintro e w2 ⟨rfl, b2⟩
  rw [← HT1.out]
  have hA2 := blk_below hA1 b2 (Nat.le_refl _)
  have hb2 := hb1.trans (b2.mono hb1.size)
  clear b2 hA1
  by_cases g1 : l - t0 < (t1 : Int)
  · rw [leftOf_no g1]
    go_wp2
    go_ret
    exact ⟨ret_int (by rw [HB.out, leftOf_no (by omega)]), hb2⟩
  rw [leftOf_yes (Int.not_lt.1 g1)]
  go_wp2
  go_ret
  exact ⟨ret_int (by rw [HB.out, leftOf_yes (by omega)]; omega), hb2⟩

set_option maxHeartbeats 400000 in
set_option maxRecDepth 100000 in
theorem toDisk_any (v : Value) (x : DiskD) (w : World) (hf : x.Fit) (hr : DiskD.Reads w v x) :
    Calls Try.prog 154 #[v] w fun e w' => ∃ v', e = .returned v' ∧ DiskD.Own w' w.heap.size w'.heap.size v' x ∧ Below w.heap.size w w' := by
  obtain ⟨a0, c0, a1, c1, rfl, r0, r1⟩ := hr
  go_enter Try.func154, Try.ntmps154
  go_wp2_with fail
  have hb0 : Below w.heap.size w (((w.alloc (.cells #[.slice a0 x.fCells.length c0, .slice a1 x.fWaits.length c1, .bool x.fGone] 168)).alloc (.cells #[.slice none 0 0, .slice none 0 0, .bool false] 44)).alloc (.cells #[.slice none 0 0, .slice none 0 0, .bool false] 44)) := (((Below.refl _ _).alloc (Nat.le_refl _) _).alloc (by simp) _).alloc (by simp; omega) _
  have hA0 : (((w.alloc (.cells #[.slice a0 x.fCells.length c0, .slice a1 x.fWaits.length c1, .bool x.fGone] 168)).alloc (.cells #[.slice none 0 0, .slice none 0 0, .bool false] 44)).alloc (.cells #[.slice none 0 0, .slice none 0 0, .bool false] 44)).heap[w.heap.size]? = some (.cells #[.slice a0 x.fCells.length c0, .slice a1 x.fWaits.length c1, .bool x.fGone] 168 (0, 0)) := blk_alloc (blk_alloc (blk_new w _ _ rfl) _) _
  have hR0 : (((w.alloc (.cells #[.slice a0 x.fCells.length c0, .slice a1 x.fWaits.length c1, .bool x.fGone] 168)).alloc (.cells #[.slice none 0 0, .slice none 0 0, .bool false] 44)).alloc (.cells #[.slice none 0 0, .slice none 0 0, .bool false] 44)).heap[w.heap.size + 1]? = some (.cells #[.slice none 0 0, .slice none 0 0, .bool false] 44 (0, 0)) := blk_alloc (blk_new _ _ (w.heap.size + 1) (by simp)) _
  have hO0 : (((w.alloc (.cells #[.slice a0 x.fCells.length c0, .slice a1 x.fWaits.length c1, .bool x.fGone] 168)).alloc (.cells #[.slice none 0 0, .slice none 0 0, .bool false] 44)).alloc (.cells #[.slice none 0 0, .slice none 0 0, .bool false] 44)).heap[w.heap.size + 1 + 1]? = some (.cells #[.slice none 0 0, .slice none 0 0, .bool false] 44 (0, 0)) := blk_new _ _ (w.heap.size + 1 + 1) (by simp)
  have hz0 : w.heap.size + 1 + 1 < (((w.alloc (.cells #[.slice a0 x.fCells.length c0, .slice a1 x.fWaits.length c1, .bool x.fGone] 168)).alloc (.cells #[.slice none 0 0, .slice none 0 0, .bool false] 44)).alloc (.cells #[.slice none 0 0, .slice none 0 0, .bool false] 44)).heap.size := blk_lt hO0
  refine (toStringS_any _ _ _ x.fCells _ hf.f0 (r0.below hb0)).mono ?_
  rintro e w1 ⟨rfl, on0, b1⟩
  have ro0 : RowO encS 1 9 w1 _ w1.heap.size _ x.fCells := RowO.mk on0 (fun g hg => (on0.lt g hg).2)
  try simp only [sz_alloc, sz_set] at ro0
  clear on0
  have hbW := hb0
  have hb1 := hbW.trans (b1.mono hbW.size)
  have hA1 : w1.heap[w.heap.size]? = some (.cells #[.slice a0 x.fCells.length c0, .slice a1 x.fWaits.length c1, .bool x.fGone] 168 (0, 0)) := blk_below hA0 b1 (Nat.le_refl _)
  have hR1 : w1.heap[w.heap.size + 1]? = some (.cells #[.slice none 0 0, .slice none 0 0, .bool false] 44 (0, 0)) := blk_below hR0 b1 (Nat.le_refl _)
  have hO1 : w1.heap[w.heap.size + 1 + 1]? = some (.cells #[.slice none 0 0, .slice none 0 0, .bool false] 44 (0, 0)) := blk_below hO0 b1 (Nat.le_refl _)
  have hz1 : w.heap.size + 1 + 1 < w1.heap.size := blk_lt hO1
  have hs1 := b1.size
  try simp only [sz_alloc, sz_set] at hs1
  clear b1 hbW hA0 hR0 hO0
  have pa1 : w1.cell? ⟨w.heap.size, 1, none⟩ = some (.slice a1 x.fWaits.length c1) := blk_cell hA1 1
  have po0 : w1.cell? ⟨w.heap.size + 1 + 1, 0, none⟩ = some (.slice none 0 0) := blk_cell hO1 0
  have pf0 := blk_frozen hO1 0
  go_wp2_with fail
  refine (toWaitS_any _ _ _ x.fWaits _ hf.f1 (r1.below (hb1.setCell (p := ⟨w.heap.size + 1 + 1, 0, none⟩) (by simp; try omega) (.slice (some ⟨w.heap.size + 1 + 1 + 1, 0, none⟩) x.fCells.length x.fCells.length)))).mono ?_
  rintro e w2 ⟨rfl, on1, b2⟩
  have ro1 : RowO WaitD.cells 2 144 w2 _ w2.heap.size _ x.fWaits := RowO.mk on1 (fun g hg => (on1.lt g hg).2)
  try simp only [sz_alloc, sz_set] at ro1
  clear on1
  have hbW := (hb1.setCell (p := ⟨w.heap.size + 1 + 1, 0, none⟩) (by simp; try omega) (.slice (some ⟨w.heap.size + 1 + 1 + 1, 0, none⟩) x.fCells.length x.fCells.length))
  have hb2 := hbW.trans (b2.mono hbW.size)
  have hA2 : w2.heap[w.heap.size]? = some (.cells #[.slice a0 x.fCells.length c0, .slice a1 x.fWaits.length c1, .bool x.fGone] 168 (0, 0)) := blk_below (blk_set_other hA1 (p := ⟨w.heap.size + 1 + 1, 0, none⟩) (by simp; try omega) _) b2 (Nat.le_refl _)
  have hR2 : w2.heap[w.heap.size + 1]? = some (.cells #[.slice none 0 0, .slice none 0 0, .bool false] 44 (0, 0)) := blk_below (blk_set_other hR1 (p := ⟨w.heap.size + 1 + 1, 0, none⟩) (by simp; try omega) _) b2 (Nat.le_refl _)
  have hO2 : w2.heap[w.heap.size + 1 + 1]? = some (.cells #[.slice (some ⟨w.heap.size + 1 + 1 + 1, 0, none⟩) x.fCells.length x.fCells.length, .slice none 0 0, .bool false] 44 (0, 0)) := blk_below (blk_set hO1 (i := 0) _) b2 (Nat.le_refl _)
  have hz2 : w.heap.size + 1 + 1 < w2.heap.size := blk_lt hO2
  have ro0 := RowO.below (ro0.set (p := ⟨w.heap.size + 1 + 1, 0, none⟩) (by simp; try omega) (.slice (some ⟨w.heap.size + 1 + 1 + 1, 0, none⟩) x.fCells.length x.fCells.length)) b2 (Nat.le_refl _)
  have hs2 := b2.size
  try simp only [sz_alloc, sz_set] at hs2
  clear b2 hbW hA1 hR1 hO1
  clear pa1 po0 pf0
  have pa2 : w2.cell? ⟨w.heap.size, 2, none⟩ = some (.bool x.fGone) := blk_cell hA2 2
  have po0 : w2.cell? ⟨w.heap.size + 1 + 1, 0, none⟩ = some (.slice (some ⟨w.heap.size + 1 + 1 + 1, 0, none⟩) x.fCells.length x.fCells.length) := blk_cell hO2 0
  have pf0 := blk_frozen hO2 0
  have po1 : w2.cell? ⟨w.heap.size + 1 + 1, 1, none⟩ = some (.slice none 0 0) := blk_cell hO2 1
  have pf1 := blk_frozen hO2 1
  have po2 : w2.cell? ⟨w.heap.size + 1 + 1, 2, none⟩ = some (.bool false) := blk_cell hO2 2
  have pf2 := blk_frozen hO2 2
  have pr0 : w2.cell? ⟨w.heap.size + 1, 0, none⟩ = some (.slice none 0 0) := blk_cell hR2 0
  have pg0 := blk_frozen hR2 0
  have pr1 : w2.cell? ⟨w.heap.size + 1, 1, none⟩ = some (.slice none 0 0) := blk_cell hR2 1
  have pg1 := blk_frozen hR2 1
  have pr2 : w2.cell? ⟨w.heap.size + 1, 2, none⟩ = some (.bool false) := blk_cell hR2 2
  have pg2 := blk_frozen hR2 2
  go_wp2
  refine bodyPost_ret (v := .agg #[.slice (some ⟨w.heap.size + 1 + 1 + 1, 0, none⟩) x.fCells.length x.fCells.length, .slice (some ⟨w1.heap.size, 0, none⟩) x.fWaits.length x.fWaits.length, .bool x.fGone]) (by simp [results, Try.results154, go_sem, pr0, pr1, pr2]) rfl ?_
  refine ⟨_, rfl, ⟨_, _, _, _, rfl, ?q0, ?q1, ?q0_1⟩, ?_⟩
  case q0 =>
    refine RowO.mono (((((ro0.set ?_ _).set ?_ _).set ?_ _).set ?_ _).set ?_ _) ?_ ?_
    all_goals (first | omega | (simp; done) | (simp; omega))
  case q1 =>
    refine RowO.mono (((((ro1.set ?_ _).set ?_ _).set ?_ _).set ?_ _).set ?_ _) ?_ ?_
    all_goals (first | omega | (simp; done) | (simp; omega))
  case q0_1 => exact Apart.of_lt (m := w1.heap.size) (fun g hg => (ro0.lt g hg).2.1) (fun g hg => by have := (ro1.lt g hg).1; first | exact this | omega | (simp at this; omega))
  refine (Below.setCell (Below.setCell (Below.setCell (Below.setCell (Below.setCell hb2 ?_ _) ?_ _) ?_ _) ?_ _) ?_ _)
  all_goals (first | omega | (simp; done) | (simp; omega))

set_option maxHeartbeats 400000 in
set_option maxRecDepth 100000 in
theorem eqDisk_yes (u v : Value) (x : DiskD) (w : World) (hf : x.Fit) (hr : DiskD.Reads w u x) (hs : DiskD.Reads w v x) :
    Calls Try.prog 155 #[u, v] w fun e w' => e = .returned (.bool true) ∧ Below w.heap.size w w' := by
  obtain ⟨a0, c0, a1, c1, rfl, r0, r1⟩ := hr
  obtain ⟨b0, d0, b1, d1, rfl, s0, s1⟩ := hs
  have hb0 : Below w.heap.size w ((w.alloc (.cells #[.slice a0 x.fCells.length c0, .slice a1 x.fWaits.length c1, .bool x.fGone] 44)).alloc (.cells #[.slice b0 x.fCells.length d0, .slice b1 x.fWaits.length d1, .bool x.fGone] 44)) := ((Below.refl _ _).alloc (Nat.le_refl _) _).alloc (by simp) _
  have hA0 : ((w.alloc (.cells #[.slice a0 x.fCells.length c0, .slice a1 x.fWaits.length c1, .bool x.fGone] 44)).alloc (.cells #[.slice b0 x.fCells.length d0, .slice b1 x.fWaits.length d1, .bool x.fGone] 44)).heap[w.heap.size]? = some (.cells #[.slice a0 x.fCells.length c0, .slice a1 x.fWaits.length c1, .bool x.fGone] 44 (0, 0)) := blk_alloc (blk_new w _ _ rfl) _
  have hB0 : ((w.alloc (.cells #[.slice a0 x.fCells.length c0, .slice a1 x.fWaits.length c1, .bool x.fGone] 44)).alloc (.cells #[.slice b0 x.fCells.length d0, .slice b1 x.fWaits.length d1, .bool x.fGone] 44)).heap[w.heap.size + 1]? = some (.cells #[.slice b0 x.fCells.length d0, .slice b1 x.fWaits.length d1, .bool x.fGone] 44 (0, 0)) := blk_new _ _ (w.heap.size + 1) (by simp)
  go_enter Try.func155, Try.ntmps155
  go_wp2_with fail
  refine (eqStringS_yes _ _ _ _ _ x.fCells _ hf.f0 (r0.below hb0) (s0.below hb0)).mono ?_
  rintro e w1 ⟨rfl, b1⟩
  have hb1 := hb0.trans (b1.mono hb0.size)
  have hA1 := blk_below hA0 b1 (Nat.le_refl _)
  have hB1 := blk_below hB0 b1 (Nat.le_refl _)
  clear b1 hA0 hB0
  have p1 : w1.cell? ⟨w.heap.size, 1, none⟩ = some (.slice a1 x.fWaits.length c1) := blk_cell hA1 1
  have q1 : w1.cell? ⟨w.heap.size + 1, 1, none⟩ = some (.slice b1 x.fWaits.length d1) := blk_cell hB1 1
  go_wp2_with fail
  refine (eqWaitS_yes _ _ _ _ _ x.fWaits _ hf.f1 (r1.below hb1) (s1.below hb1)).mono ?_
  rintro e w2 ⟨rfl, b2⟩
  have hb2 := hb1.trans (b2.mono hb1.size)
  have hA2 := blk_below hA1 b2 (Nat.le_refl _)
  have hB2 := blk_below hB1 b2 (Nat.le_refl _)
  clear b2 hA1 hB1
  clear p1 q1
  have p2 : w2.cell? ⟨w.heap.size, 2, none⟩ = some (.bool x.fGone) := blk_cell hA2 2
  have q2 : w2.cell? ⟨w.heap.size + 1, 2, none⟩ = some (.bool x.fGone) := blk_cell hB2 2
  go_wp2
  go_ret
  exact ⟨rfl, hb2⟩

end Go.Proofs.Ytfijfjjleelphaa

/- Disks and columns: plain. -/
namespace Go.Proofs.Ytfijfjjleelphaa
open Go.RowKit
theorem ba_ext {a b : ByteArray} (h : a.data.toList = b.data.toList) : a = b := by
  cases a; cases b
  congr
  exact Array.toList_inj.1 h
theorem size_list (a : ByteArray) : a.size = a.data.toList.length := by show a.data.size = _; rw [Array.length_toList]
theorem list_extract (a : ByteArray) (i j : Nat) : (a.extract i j).data.toList = (a.data.toList.drop i).take (j - i) := by
  rw [ByteArray.data_extract, Array.toList_extract, List.extract_eq_take_drop]
theorem list_append (a b : ByteArray) : (a ++ b).data.toList = a.data.toList ++ b.data.toList := by simp
theorem get_list (a : ByteArray) (i : Nat) : a.get! i = a.data.toList.getD i 0 := by
  cases a with | mk d =>
  show d[i]! = d.toList.getD i 0
  rw [List.getD_eq_getElem?_getD, Array.getElem?_toList]
  cases h : d[i]? <;> simp [getElem!_def, h] <;> rfl
def half (n : Nat) : Nat := (n + 1) / 2
/-- The exclusive or of two texts, so many bytes. -/
def xorL (a b : List UInt8) (n : Nat) : List UInt8 := (List.range n).map fun i => a.getD i 0 ^^^ b.getD i 0
def xorB (a b : ByteArray) (n : Nat) : ByteArray := ⟨(xorL a.data.toList b.data.toList n).toArray⟩
theorem xorB_list (a b : ByteArray) (n : Nat) : (xorB a b n).data.toList = xorL a.data.toList b.data.toList n := rfl
theorem xorL_len (a b : List UInt8) (n : Nat) : (xorL a b n).length = n := by simp [xorL]
theorem xorB_size (a b : ByteArray) (n : Nat) : (xorB a b n).size = n := by rw [size_list, xorB_list, xorL_len]
theorem xorL_get (a b : List UInt8) (n i : Nat) (hi : i < n) : (xorL a b n).getD i 0 = a.getD i 0 ^^^ b.getD i 0 := by
  simp [xorL, List.getD, hi]
/-- The columns of a block. -/
def col0 (t : ByteArray) : ByteArray := t.extract 0 (half t.size)
def col1 (t : ByteArray) : ByteArray := t.extract (half t.size) t.size
def col2 (t : ByteArray) : ByteArray := xorB (col0 t) (col1 t) (half t.size)
theorem half_bounds (n : Nat) (h : 1 ≤ n) : half n ≤ n ∧ n - half n ≤ half n := by unfold half; omega
theorem col1_size (t : ByteArray) (h : 1 ≤ t.size) : (col1 t).size = t.size - half t.size := by
  have := half_bounds t.size h
  rw [size_list]; unfold col1; rw [list_extract, List.length_take, List.length_drop, ← size_list]; omega
theorem col2_size (t : ByteArray) : (col2 t).size = half t.size := xorB_size _ _ _
/-- What is read of columns, by a way. -/
def joinB (c0 c1 c2 : ByteArray) (size : Nat) (lost : Int) : Option ByteArray :=
  if lost = -1 ∧ c0.size = half size ∧ c1.size = size - half size then some (c0 ++ c1)
  else if lost = 0 ∧ c1.size = size - half size ∧ c2.size = half size then some (xorB c2 c1 (half size) ++ c1)
  else if lost = 1 ∧ c0.size = half size ∧ c2.size = half size then some (c0 ++ (xorB c2 c0 (half size)).extract 0 (size - half size))
  else none
/-- What a cell has, waiting or not. -/
def lookW : List WaitD → Nat → Option ByteArray
  | [], _ => none
  | w :: ws, n => match lookW ws n with
    | some t => some t
    | none => if w.fAt = (n : Int) then some w.fText else none
theorem lookW_cons (w : WaitD) (ws : List WaitD) (n : Nat) : lookW (w :: ws) n = (match lookW ws n with | some t => some t | none => if w.fAt = (n : Int) then some w.fText else none) := rfl
def DiskD.look (d : DiskD) (n : Nat) : ByteArray := (lookW d.fWaits n).getD (d.fCells.getD n ByteArray.empty)
end Go.Proofs.Ytfijfjjleelphaa

/- The laws' helpers over pointers. -/
namespace Go.Proofs.Ytfijfjjleelphaa
open Go.RowKit

structure PtrD where
  fAt : Int
  fBirth : Int
  fSize : Int
  fSum : Int
  fLevel : Int
def PtrD.cells (x : PtrD) : List Value := [.int .i64 x.fAt, .int .i64 x.fBirth, .int .i64 x.fSize, .int .i64 x.fSum, .int .i64 x.fLevel]
theorem PtrD.cells_len (x : PtrD) : x.cells.length = 5 := rfl
theorem PtrD.at_ {w : World} {b o : Nat} {x : PtrD} (h : w.rangeAt b o x.cells) :
    w.cell? ⟨b, o, none⟩ = some (.int .i64 x.fAt) ∧ w.cell? ⟨b, o + 1, none⟩ = some (.int .i64 x.fBirth) ∧ w.cell? ⟨b, o + 2, none⟩ = some (.int .i64 x.fSize) ∧ w.cell? ⟨b, o + 3, none⟩ = some (.int .i64 x.fSum) ∧ w.cell? ⟨b, o + 4, none⟩ = some (.int .i64 x.fLevel) :=
  ⟨h 0 _ rfl, h 1 _ rfl, h 2 _ rfl, h 3 _ rfl, h 4 _ rfl⟩

set_option maxHeartbeats 400000 in
set_option maxRecDepth 100000 in
theorem toPtr_any (x : PtrD) (w : World) :
    Calls Try.prog 36 #[.agg #[.int .i64 x.fAt, .int .i64 x.fBirth, .int .i64 x.fSize, .int .i64 x.fSum, .int .i64 x.fLevel]] w fun e w' => e = .returned (.agg #[.int .i64 x.fAt, .int .i64 x.fBirth, .int .i64 x.fSize, .int .i64 x.fSum, .int .i64 x.fLevel]) ∧ Below w.heap.size w w' := by
  go_enter Try.func36, Try.ntmps36
  go_wp2
  refine bodyPost_ret (v := .agg #[.int .i64 x.fAt, .int .i64 x.fBirth, .int .i64 x.fSize, .int .i64 x.fSum, .int .i64 x.fLevel]) (by simp [results, Try.results36, go_sem]) rfl ⟨rfl, ?_⟩
  exact (((Below.refl _ _).alloc (Nat.le_refl _) _).alloc (by simp) _).alloc (by simp; omega) _
end Go.Proofs.Ytfijfjjleelphaa

/- Tests of numbers, rows, pointers: of the reference and of the program. -/
namespace Go.Proofs.Ytfijfjjleelphaa
open Go.RowKit

/-- A number lies between two. -/
def inB (n lo hi : Int) : Bool := decide (lo ≤ n) && decide (n ≤ hi)
theorem inB_true {n lo hi : Int} (h : inB n lo hi = true) : lo ≤ n ∧ n ≤ hi := by simpa [inB] using h
theorem inB_mk {n lo hi : Int} (h : lo ≤ n) (k : n ≤ hi) : inB n lo hi = true := by simp [inB, h, k]

set_option maxHeartbeats 400000 in
set_option maxRecDepth 100000 in
theorem l6In_any (a b c : Int) (w : World) :
    Calls Try.prog 82 #[.int .i64 a, .int .i64 b, .int .i64 c] w fun e w' => e = .returned (.bool (inB a b c)) ∧ w = w' := by
  by_cases h1 : b ≤ a
  · have H : Hid (inB a b c = decide (a ≤ c)) := by show _ = _; simp [inB, h1]
    go_enter Try.func82, Try.ntmps82
    go_wp2
    all_goals (go_ret; exact ⟨ret_bool H.out.symm, rfl⟩)
  · have H : Hid (inB a b c = false) := by show _ = _; simp [inB, h1]
    go_enter Try.func82, Try.ntmps82
    go_wp2
    all_goals (go_ret; exact ⟨ret_bool H.out.symm, rfl⟩)

set_option maxHeartbeats 400000 in
set_option maxRecDepth 100000 in
theorem within_any (a b c : Int) (w : World) :
    Calls Try.prog 65 #[.int .i64 a, .int .i64 b, .int .i64 c] w fun e w' => e = .returned (.bool (inB a b c)) ∧ w = w' := by
  by_cases h1 : b ≤ a
  · have H : Hid (inB a b c = decide (a ≤ c)) := by show _ = _; simp [inB, h1]
    go_enter Try.func65, Try.ntmps65
    go_wp2
    all_goals (go_ret; exact ⟨ret_bool H.out.symm, rfl⟩)
  · have H : Hid (inB a b c = false) := by show _ = _; simp [inB, h1]
    go_enter Try.func65, Try.ntmps65
    go_wp2
    all_goals (go_ret; exact ⟨ret_bool H.out.symm, rfl⟩)

set_option maxHeartbeats 400000 in
set_option maxRecDepth 100000 in
theorem l2Row_any (a : Int) (w : World) :
    Calls Try.prog 52 #[.int .i64 a] w fun e w' => e = .returned (.bool (inB a 8 63)) ∧ w = w' := by
  go_enter Try.func52, Try.ntmps52
  go_wp2_with fail
  refine (l6In_any _ _ _ _).mono ?_
  rintro e w' ⟨rfl, rfl⟩
  go_wp2
  go_ret
  exact ⟨rfl, rfl⟩

set_option maxHeartbeats 400000 in
set_option maxRecDepth 100000 in
theorem isRow_any (a : Int) (w : World) :
    Calls Try.prog 46 #[.int .i64 a] w fun e w' => e = .returned (.bool (inB a 8 63)) ∧ w = w' := by
  go_enter Try.func46, Try.ntmps46
  go_wp2_with fail
  refine (within_any _ _ _ _).mono ?_
  rintro e w' ⟨rfl, rfl⟩
  go_wp2
  go_ret
  exact ⟨rfl, rfl⟩

/-- The zero pointer. -/
def PtrD.hole (p : PtrD) : Bool := p.fAt == 0 && p.fBirth == 0 && p.fSize == 0 && p.fSum == 0 && p.fLevel == 0
def PtrD.ok (p : PtrD) : Bool := p.hole || inB p.fAt 8 63 && inB p.fBirth 1 900 && inB p.fSize 1 128 && inB p.fSum 0 99460728 && inB p.fLevel 0 2

set_option maxHeartbeats 400000 in
set_option maxRecDepth 100000 in
theorem specHole_any (p : PtrD) (w : World) :
    Calls Try.prog 102 #[.agg #[.int .i64 p.fAt, .int .i64 p.fBirth, .int .i64 p.fSize, .int .i64 p.fSum, .int .i64 p.fLevel]] w fun e w' => e = .returned (.bool p.hole) ∧ Below w.heap.size w w' := by
  go_enter Try.func102, Try.ntmps102
  go_wp2
  all_goals
    go_ret
    refine ⟨ret_bool ?_, (Below.refl _ _).alloc (Nat.le_refl _) _⟩
    unfold PtrD.hole
    simp [*]

set_option maxHeartbeats 400000 in
set_option maxRecDepth 100000 in
theorem implHole_any (p : PtrD) (w : World) :
    Calls Try.prog 63 #[.agg #[.int .i64 p.fAt, .int .i64 p.fBirth, .int .i64 p.fSize, .int .i64 p.fSum, .int .i64 p.fLevel]] w fun e w' => e = .returned (.bool p.hole) ∧ Below w.heap.size w w' := by
  go_enter Try.func63, Try.ntmps63
  go_wp2
  all_goals
    go_ret
    refine ⟨ret_bool ?_, (Below.refl _ _).alloc (Nat.le_refl _) _⟩
    unfold PtrD.hole
    simp [*]

set_option maxHeartbeats 400000 in
set_option maxRecDepth 100000 in
theorem specPtrOk_any (p : PtrD) (w : World) :
    Calls Try.prog 101 #[.agg #[.int .i64 p.fAt, .int .i64 p.fBirth, .int .i64 p.fSize, .int .i64 p.fSum, .int .i64 p.fLevel]] w fun e w' => e = .returned (.bool p.ok) ∧ Below w.heap.size w w' := by
  go_enter Try.func101, Try.ntmps101
  go_wp2_with (first | (go_at_call 102; refine (specHole_any p _).mono ?_; rintro e w1 ⟨rfl, hb1⟩; obtain ⟨hc1, _⟩ := bcell hb1) | (go_at_call 52; refine (l2Row_any _ _).mono ?_; rintro e w' ⟨rfl, rfl⟩) | (go_at_call 82; refine (l6In_any _ _ _ _).mono ?_; rintro e w' ⟨rfl, rfl⟩))
  all_goals
    go_ret
    refine ⟨ret_bool ?_, ((Below.refl _ _).alloc (Nat.le_refl _) _).trans (hb1.mono (by simp))⟩
    unfold PtrD.ok
    simp [*]

set_option maxHeartbeats 400000 in
set_option maxRecDepth 100000 in
theorem implPtrOk_any (p : PtrD) (w : World) :
    Calls Try.prog 60 #[.agg #[.int .i64 p.fAt, .int .i64 p.fBirth, .int .i64 p.fSize, .int .i64 p.fSum, .int .i64 p.fLevel]] w fun e w' => e = .returned (.bool p.ok) ∧ Below w.heap.size w w' := by
  go_enter Try.func60, Try.ntmps60
  go_wp2_with (first | (go_at_call 63; refine (implHole_any p _).mono ?_; rintro e w1 ⟨rfl, hb1⟩; obtain ⟨hc1, _⟩ := bcell hb1) | (go_at_call 46; refine (isRow_any _ _).mono ?_; rintro e w' ⟨rfl, rfl⟩) | (go_at_call 65; refine (within_any _ _ _ _).mono ?_; rintro e w' ⟨rfl, rfl⟩))
  all_goals
    go_ret
    refine ⟨ret_bool ?_, ((Below.refl _ _).alloc (Nat.le_refl _) _).trans (hb1.mono (by simp))⟩
    unfold PtrD.ok
    simp [*]

end Go.Proofs.Ytfijfjjleelphaa

/- The laws' helpers over space. -/
namespace Go.Proofs.Ytfijfjjleelphaa
open Go.RowKit

structure SpaceD where
  fRefs : List Int
  fLast : List Int
def SpaceD.Reads (w : World) (v : Value) (x : SpaceD) : Prop := ∃ (a0 : Option Addr) (c0 : Nat) (a1 : Option Addr) (c1 : Nat), v = .agg #[.slice a0 x.fRefs.length c0, .slice a1 x.fLast.length c1] ∧ Rd encI 1 w a0 x.fRefs.length x.fRefs ∧ Rd encI 1 w a1 x.fLast.length x.fLast
def SpaceD.Own (w : World) (B B1 : Nat) (v : Value) (x : SpaceD) : Prop := ∃ (a0 : Option Addr) (c0 : Nat) (a1 : Option Addr) (c1 : Nat), v = .agg #[.slice a0 x.fRefs.length c0, .slice a1 x.fLast.length c1] ∧ RowO encI 1 3 w B B1 (.slice a0 x.fRefs.length c0) x.fRefs ∧ RowO encI 1 3 w B B1 (.slice a1 x.fLast.length c1) x.fLast ∧ Apart (.slice a0 x.fRefs.length c0) (.slice a1 x.fLast.length c1)
theorem SpaceD.Reads.below {w w' : World} {v : Value} {x : SpaceD} (h : SpaceD.Reads w v x) (hb : Below w.heap.size w w') : SpaceD.Reads w' v x := by
  obtain ⟨a0, c0, a1, c1, rfl, r0, r1⟩ := h
  exact ⟨a0, c0, a1, c1, rfl, r0.below hb, r1.below hb⟩
theorem SpaceD.Own.rd {w : World} {B B1 : Nat} {v : Value} {x : SpaceD} (h : SpaceD.Own w B B1 v x) : SpaceD.Reads w v x := by
  obtain ⟨a0, c0, a1, c1, rfl, r0, r1, p0_1⟩ := h
  obtain ⟨u0, e0, k0, d0⟩ := r0.rd encI_len
  simp only [Value.slice.injEq, true_and] at k0
  obtain ⟨rfl, rfl⟩ := k0
  obtain ⟨u1, e1, k1, d1⟩ := r1.rd encI_len
  simp only [Value.slice.injEq, true_and] at k1
  obtain ⟨rfl, rfl⟩ := k1
  exact ⟨_, _, _, _, rfl, d0, d1⟩
theorem SpaceD.Own.below {w : World} {B B1 : Nat} {v : Value} {x : SpaceD} (h : SpaceD.Own w B B1 v x) {w' : World} {C : Nat} (hb : Below C w w') (hC : w.heap.size ≤ C) : SpaceD.Own w' B B1 v x := by
  obtain ⟨a0, c0, a1, c1, rfl, r0, r1, p0_1⟩ := h
  exact ⟨a0, c0, a1, c1, rfl, r0.below hb hC, r1.below hb hC, p0_1⟩
theorem SpaceD.Own.mono {w : World} {B B1 : Nat} {v : Value} {x : SpaceD} (h : SpaceD.Own w B B1 v x) {B' B1' : Nat} (hB : B' ≤ B) (hB1 : B1 ≤ B1') : SpaceD.Own w B' B1' v x := by
  obtain ⟨a0, c0, a1, c1, rfl, r0, r1, p0_1⟩ := h
  exact ⟨a0, c0, a1, c1, rfl, r0.mono hB hB1, r1.mono hB hB1, p0_1⟩
theorem SpaceD.Own.set {w : World} {B B1 : Nat} {v : Value} {x : SpaceD} (h : SpaceD.Own w B B1 v x) {p : Addr} (hp : p.block < B) (u : Value) : SpaceD.Own (w.setCell p u) B B1 v x := by
  obtain ⟨a0, c0, a1, c1, rfl, r0, r1, p0_1⟩ := h
  exact ⟨a0, c0, a1, c1, rfl, r0.set hp u, r1.set hp u, p0_1⟩
def SpaceD.bulk (x : SpaceD) : Nat := x.fRefs.length + x.fLast.length
structure SpaceD.Small (x : SpaceD) : Prop where
  s0_0 : x.fRefs.length ≤ 9223372036854775807
  s1_0 : x.fLast.length ≤ 9223372036854775807
structure SpaceD.Fit (x : SpaceD) : Prop where
  f0 : x.fRefs.length ≤ 1048576
  f1 : x.fLast.length ≤ 1048576
theorem SpaceD.fit {x : SpaceD} (h : x.bulk ≤ 1048576) : x.Fit := by
  unfold SpaceD.bulk at h
  exact ⟨by omega, by omega⟩

end Go.Proofs.Ytfijfjjleelphaa

/- SpaceOk: of the reference and of the program. -/
namespace Go.Proofs.Ytfijfjjleelphaa
open Go.RowKit

/-- A row's two numbers are as they may be. -/
def rowOk (i : Nat) (r l : Int) : Bool := inB l 0 900 && (inB r 0 l && ((r != 0 || l == 0) && (inB i 8 63 || decide (r ≤ 0))))
/-- The first k rows are. -/
def rowsOk (s : SpaceD) (k : Nat) : Bool := (List.range k).all fun i => rowOk i (s.fRefs.getD i 0) (s.fLast.getD i 0)
def SpaceD.ok (s : SpaceD) : Bool := s.fRefs.length == 64 && s.fLast.length == 64 && rowsOk s 64
end Go.Proofs.Ytfijfjjleelphaa

/- The laws' helpers over stores. -/
namespace Go.Proofs.Ytfijfjjleelphaa
open Go.RowKit

structure StoreD where
  fRows : List ByteArray
  fSpace : SpaceD
  fTxg : Int
  fGone : List PtrD
  fKeep : Int
  fDead : List PtrD
  fSame : Bool
def StoreD.Reads (w : World) (v : Value) (x : StoreD) : Prop := ∃ (a0 : Option Addr) (c0 : Nat) (a1 : Option Addr) (c1 : Nat) (a2 : Option Addr) (c2 : Nat) (a4 : Option Addr) (c4 : Nat) (a6 : Option Addr) (c6 : Nat), v = .agg #[.slice a0 x.fRows.length c0, .slice a1 x.fSpace.fRefs.length c1, .slice a2 x.fSpace.fLast.length c2, .int .i64 x.fTxg, .slice a4 x.fGone.length c4, .int .i64 x.fKeep, .slice a6 x.fDead.length c6, .bool x.fSame] ∧ Rd encS 1 w a0 x.fRows.length x.fRows ∧ Rd encI 1 w a1 x.fSpace.fRefs.length x.fSpace.fRefs ∧ Rd encI 1 w a2 x.fSpace.fLast.length x.fSpace.fLast ∧ Rd PtrD.cells 5 w a4 x.fGone.length x.fGone ∧ Rd PtrD.cells 5 w a6 x.fDead.length x.fDead
def StoreD.Own (w : World) (B B1 : Nat) (v : Value) (x : StoreD) : Prop := ∃ (a0 : Option Addr) (c0 : Nat) (a1 : Option Addr) (c1 : Nat) (a2 : Option Addr) (c2 : Nat) (a4 : Option Addr) (c4 : Nat) (a6 : Option Addr) (c6 : Nat), v = .agg #[.slice a0 x.fRows.length c0, .slice a1 x.fSpace.fRefs.length c1, .slice a2 x.fSpace.fLast.length c2, .int .i64 x.fTxg, .slice a4 x.fGone.length c4, .int .i64 x.fKeep, .slice a6 x.fDead.length c6, .bool x.fSame] ∧ RowO encS 1 9 w B B1 (.slice a0 x.fRows.length c0) x.fRows ∧ RowO encI 1 3 w B B1 (.slice a1 x.fSpace.fRefs.length c1) x.fSpace.fRefs ∧ RowO encI 1 3 w B B1 (.slice a2 x.fSpace.fLast.length c2) x.fSpace.fLast ∧ RowO PtrD.cells 5 33 w B B1 (.slice a4 x.fGone.length c4) x.fGone ∧ RowO PtrD.cells 5 33 w B B1 (.slice a6 x.fDead.length c6) x.fDead ∧ Apart (.slice a0 x.fRows.length c0) (.slice a1 x.fSpace.fRefs.length c1) ∧ Apart (.slice a0 x.fRows.length c0) (.slice a2 x.fSpace.fLast.length c2) ∧ Apart (.slice a0 x.fRows.length c0) (.slice a4 x.fGone.length c4) ∧ Apart (.slice a0 x.fRows.length c0) (.slice a6 x.fDead.length c6) ∧ Apart (.slice a1 x.fSpace.fRefs.length c1) (.slice a2 x.fSpace.fLast.length c2) ∧ Apart (.slice a1 x.fSpace.fRefs.length c1) (.slice a4 x.fGone.length c4) ∧ Apart (.slice a1 x.fSpace.fRefs.length c1) (.slice a6 x.fDead.length c6) ∧ Apart (.slice a2 x.fSpace.fLast.length c2) (.slice a4 x.fGone.length c4) ∧ Apart (.slice a2 x.fSpace.fLast.length c2) (.slice a6 x.fDead.length c6) ∧ Apart (.slice a4 x.fGone.length c4) (.slice a6 x.fDead.length c6)
theorem StoreD.Reads.below {w w' : World} {v : Value} {x : StoreD} (h : StoreD.Reads w v x) (hb : Below w.heap.size w w') : StoreD.Reads w' v x := by
  obtain ⟨a0, c0, a1, c1, a2, c2, a4, c4, a6, c6, rfl, r0, r1, r2, r4, r6⟩ := h
  exact ⟨a0, c0, a1, c1, a2, c2, a4, c4, a6, c6, rfl, r0.below hb, r1.below hb, r2.below hb, r4.below hb, r6.below hb⟩
theorem StoreD.Own.rd {w : World} {B B1 : Nat} {v : Value} {x : StoreD} (h : StoreD.Own w B B1 v x) : StoreD.Reads w v x := by
  obtain ⟨a0, c0, a1, c1, a2, c2, a4, c4, a6, c6, rfl, r0, r1, r2, r4, r6, p0_1, p0_2, p0_4, p0_6, p1_2, p1_4, p1_6, p2_4, p2_6, p4_6⟩ := h
  obtain ⟨u0, e0, k0, d0⟩ := r0.rd encS_len
  simp only [Value.slice.injEq, true_and] at k0
  obtain ⟨rfl, rfl⟩ := k0
  obtain ⟨u1, e1, k1, d1⟩ := r1.rd encI_len
  simp only [Value.slice.injEq, true_and] at k1
  obtain ⟨rfl, rfl⟩ := k1
  obtain ⟨u2, e2, k2, d2⟩ := r2.rd encI_len
  simp only [Value.slice.injEq, true_and] at k2
  obtain ⟨rfl, rfl⟩ := k2
  obtain ⟨u4, e4, k4, d4⟩ := r4.rd PtrD.cells_len
  simp only [Value.slice.injEq, true_and] at k4
  obtain ⟨rfl, rfl⟩ := k4
  obtain ⟨u6, e6, k6, d6⟩ := r6.rd PtrD.cells_len
  simp only [Value.slice.injEq, true_and] at k6
  obtain ⟨rfl, rfl⟩ := k6
  exact ⟨_, _, _, _, _, _, _, _, _, _, rfl, d0, d1, d2, d4, d6⟩
theorem StoreD.Own.below {w : World} {B B1 : Nat} {v : Value} {x : StoreD} (h : StoreD.Own w B B1 v x) {w' : World} {C : Nat} (hb : Below C w w') (hC : w.heap.size ≤ C) : StoreD.Own w' B B1 v x := by
  obtain ⟨a0, c0, a1, c1, a2, c2, a4, c4, a6, c6, rfl, r0, r1, r2, r4, r6, p0_1, p0_2, p0_4, p0_6, p1_2, p1_4, p1_6, p2_4, p2_6, p4_6⟩ := h
  exact ⟨a0, c0, a1, c1, a2, c2, a4, c4, a6, c6, rfl, r0.below hb hC, r1.below hb hC, r2.below hb hC, r4.below hb hC, r6.below hb hC, p0_1, p0_2, p0_4, p0_6, p1_2, p1_4, p1_6, p2_4, p2_6, p4_6⟩
theorem StoreD.Own.mono {w : World} {B B1 : Nat} {v : Value} {x : StoreD} (h : StoreD.Own w B B1 v x) {B' B1' : Nat} (hB : B' ≤ B) (hB1 : B1 ≤ B1') : StoreD.Own w B' B1' v x := by
  obtain ⟨a0, c0, a1, c1, a2, c2, a4, c4, a6, c6, rfl, r0, r1, r2, r4, r6, p0_1, p0_2, p0_4, p0_6, p1_2, p1_4, p1_6, p2_4, p2_6, p4_6⟩ := h
  exact ⟨a0, c0, a1, c1, a2, c2, a4, c4, a6, c6, rfl, r0.mono hB hB1, r1.mono hB hB1, r2.mono hB hB1, r4.mono hB hB1, r6.mono hB hB1, p0_1, p0_2, p0_4, p0_6, p1_2, p1_4, p1_6, p2_4, p2_6, p4_6⟩
theorem StoreD.Own.set {w : World} {B B1 : Nat} {v : Value} {x : StoreD} (h : StoreD.Own w B B1 v x) {p : Addr} (hp : p.block < B) (u : Value) : StoreD.Own (w.setCell p u) B B1 v x := by
  obtain ⟨a0, c0, a1, c1, a2, c2, a4, c4, a6, c6, rfl, r0, r1, r2, r4, r6, p0_1, p0_2, p0_4, p0_6, p1_2, p1_4, p1_6, p2_4, p2_6, p4_6⟩ := h
  exact ⟨a0, c0, a1, c1, a2, c2, a4, c4, a6, c6, rfl, r0.set hp u, r1.set hp u, r2.set hp u, r4.set hp u, r6.set hp u, p0_1, p0_2, p0_4, p0_6, p1_2, p1_4, p1_6, p2_4, p2_6, p4_6⟩
def StoreD.bulk (x : StoreD) : Nat := (x.fRows.length + tot ByteArray.size x.fRows) + x.fSpace.fRefs.length + x.fSpace.fLast.length + x.fGone.length + x.fDead.length
structure StoreD.Small (x : StoreD) : Prop where
  s0_0 : x.fRows.length ≤ 9223372036854775807
  s0_1 : (∀ e ∈ x.fRows, e.size ≤ 9223372036854775807)
  s1_0 : x.fSpace.fRefs.length ≤ 9223372036854775807
  s2_0 : x.fSpace.fLast.length ≤ 9223372036854775807
  s4_0 : x.fGone.length ≤ 9223372036854775807
  s6_0 : x.fDead.length ≤ 9223372036854775807
structure StoreD.Fit (x : StoreD) : Prop where
  f0 : x.fRows.length ≤ 1048576
  f1 : x.fSpace.fRefs.length ≤ 1048576
  f2 : x.fSpace.fLast.length ≤ 1048576
  f4 : x.fGone.length ≤ 1048576
  f6 : x.fDead.length ≤ 1048576
theorem StoreD.fit {x : StoreD} (h : x.bulk ≤ 1048576) : x.Fit := by
  unfold StoreD.bulk at h
  exact ⟨by omega, by omega, by omega, by omega, by omega⟩

end Go.Proofs.Ytfijfjjleelphaa

/- What a valid store is: plain, no program in sight but the numbers of types. -/
namespace Go.Proofs.Ytfijfjjleelphaa
open Go.RowKit

/-- How many pointers lead to a row. -/
def cnt (ps : List PtrD) (i : Nat) : Nat := (ps.filter fun p => p.fAt == (i : Int)).length
theorem cnt_snoc (ps : List PtrD) (p : PtrD) (i : Nat) : cnt (ps ++ [p]) i = cnt ps i + if p.fAt = (i : Int) then 1 else 0 := by
  unfold cnt
  rw [List.filter_append, List.length_append]
  by_cases h : p.fAt = (i : Int) <;> simp [h]
/-- A pointer that was given up. -/
def ptrIn (p : PtrD) (most : Int) : Bool := p.ok && (!p.hole && decide (p.fBirth ≤ most))
def rowSt (st : StoreD) (i : Nat) : Bool := decide ((st.fRows.getD i ByteArray.empty).size ≤ 128) && (((st.fRows.getD i ByteArray.empty).size == 0) == (st.fSpace.fRefs.getD i 0 == 0) && decide (st.fSpace.fLast.getD i 0 ≤ st.fTxg))
def rowsSt (st : StoreD) (k : Nat) : Bool := (List.range k).all fun i => rowSt st i
/-- What was given up: no more of a row than there are references. -/
def owedOk (refs : List Int) (ps : List PtrD) : Bool := (List.range 64).all fun i => decide ((cnt ps i : Int) ≤ refs.getD i 0)
def StoreD.ok (st : StoreD) : Bool :=
  st.fRows.length == 64 && (st.fSpace.ok && (inB st.fTxg 1 900 && (inB st.fKeep 0 (st.fTxg - 1) && (rowsSt st 64 &&
    (st.fGone.all (fun p => ptrIn p (st.fTxg - 1)) && (st.fDead.all (fun p => ptrIn p st.fKeep) && owedOk st.fSpace.fRefs (st.fGone ++ st.fDead)))))))

/-- The pointer at a place among those given up, and the greatest birth that it may have. -/
def outAt (st : StoreD) (j : Nat) : Option PtrD := (st.fGone ++ st.fDead)[j]?
def mostAt (st : StoreD) (j : Nat) : Int := if j < st.fGone.length then st.fTxg - 1 else st.fKeep
/-- The first j pointers given up are as they may be. -/
structure Given (st : StoreD) (j : Nat) : Prop where
  each : ∀ i p, i < j → outAt st i = some p → ptrIn p (mostAt st i) = true
  few : ∀ i, i < 64 → 0 < cnt ((st.fGone ++ st.fDead).take j) i → (cnt ((st.fGone ++ st.fDead).take j) i : Int) ≤ st.fSpace.fRefs.getD i 0
theorem Given.zero (st : StoreD) : Given st 0 := ⟨fun i p h => absurd h (Nat.not_lt_zero _), fun i hi h => by simp [cnt] at h⟩
theorem Given.succ {st : StoreD} {j : Nat} (h : Given st j) {p : PtrD} (hp : outAt st j = some p) (hin : ptrIn p (mostAt st j) = true) (a : Nat) (ha : p.fAt = (a : Int)) (hle : ((cnt ((st.fGone ++ st.fDead).take j) a + 1 : Nat) : Int) ≤ st.fSpace.fRefs.getD a 0) : Given st (j + 1) := by
  obtain ⟨hj, hpe⟩ := List.getElem?_eq_some_iff.1 hp
  have hs : (st.fGone ++ st.fDead).take (j + 1) = (st.fGone ++ st.fDead).take j ++ [p] := by rw [List.take_succ_eq_append_getElem hj, hpe]
  refine ⟨fun i q hi hq => ?_, fun i hi hc => ?_⟩
  · by_cases hij : i = j
    · subst hij
      obtain rfl := Option.some.inj (hp.symm.trans hq)
      exact hin
    · exact h.each i q (by omega) hq
  · rw [hs, cnt_snoc] at hc ⊢
    by_cases hai : p.fAt = (i : Int)
    · have : a = i := by omega
      subst this
      rw [if_pos hai]
      exact hle
    · rw [if_neg hai] at hc ⊢
      exact h.few i hi hc
theorem Given.all {st : StoreD} (h : Given st (st.fGone ++ st.fDead).length) (hr : ∀ i, i < 64 → 0 ≤ st.fSpace.fRefs.getD i 0) :
    (st.fGone.all (fun p => ptrIn p (st.fTxg - 1)) && (st.fDead.all (fun p => ptrIn p st.fKeep) && owedOk st.fSpace.fRefs (st.fGone ++ st.fDead))) = true := by
  rw [Bool.and_eq_true, Bool.and_eq_true]
  refine ⟨List.all_eq_true.2 fun p hp => ?_, List.all_eq_true.2 fun p hp => ?_, List.all_eq_true.2 fun i hi => ?_⟩
  · obtain ⟨i, hi, hpe⟩ := List.mem_iff_getElem.1 hp
    have := h.each i p (by rw [List.length_append]; omega) (by unfold outAt; rw [List.getElem?_append_left hi, List.getElem?_eq_getElem hi, hpe])
    rwa [mostAt, if_pos hi] at this
  · obtain ⟨i, hi, hpe⟩ := List.mem_iff_getElem.1 hp
    have := h.each (st.fGone.length + i) p (by rw [List.length_append]; omega) (by unfold outAt; rw [List.getElem?_append_right (by omega), Nat.add_sub_cancel_left, List.getElem?_eq_getElem hi, hpe])
    rwa [mostAt, if_neg (by omega)] at this
  · have hi' := List.mem_range.1 hi
    simp only [decide_eq_true_eq]
    by_cases hc : 0 < cnt (st.fGone ++ st.fDead) i
    · have := h.few i hi' (by rw [List.take_of_length_le (Nat.le_refl _)]; exact hc)
      rwa [List.take_of_length_le (Nat.le_refl _)] at this
    · have := hr i hi'
      omega
end Go.Proofs.Ytfijfjjleelphaa
