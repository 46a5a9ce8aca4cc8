/- The laws' helpers over pointers. -/
import Derived.Test.YtkgmilobmbeplaaRows
import Derived.Test.YtkgmilobmbeplaaMem
import Derived.StillTailTactics
import Derived.BigQuiet
import Derived.Deep.QuietTactic
import Derived.Deep.RegionWith
namespace Go.Proofs.Ytkgmilobmbeplaa
open Go.RowKit

structure PtrD where
  fAt : Int
  fBirth : Int
  fSize : Int
  fSum : Int
  fLevel : Int
def PtrD.cells (x : PtrD) : List Value := [.int .i64 x.fAt, .int .i64 x.fBirth, .int .i64 x.fSize, .int .i64 x.fSum, .int .i64 x.fLevel]
theorem PtrD.cells_len (x : PtrD) : x.cells.length = 5 := rfl
theorem PtrD.at_ {w : World} {b o : Nat} {x : PtrD} (h : w.rangeAt b o x.cells) :
    w.cell? ⟨b, o, none⟩ = some (.int .i64 x.fAt) ∧ w.cell? ⟨b, o + 1, none⟩ = some (.int .i64 x.fBirth) ∧ w.cell? ⟨b, o + 2, none⟩ = some (.int .i64 x.fSize) ∧ w.cell? ⟨b, o + 3, none⟩ = some (.int .i64 x.fSum) ∧ w.cell? ⟨b, o + 4, none⟩ = some (.int .i64 x.fLevel) :=
  ⟨h 0 _ rfl, h 1 _ rfl, h 2 _ rfl, h 3 _ rfl, h 4 _ rfl⟩

set_option maxHeartbeats 400000 in
set_option maxRecDepth 100000 in
theorem toPtr_any (x : PtrD) (w : World) :
    Calls Try.prog 39 #[.agg #[.int .i64 x.fAt, .int .i64 x.fBirth, .int .i64 x.fSize, .int .i64 x.fSum, .int .i64 x.fLevel]] w fun e w' => e = .returned (.agg #[.int .i64 x.fAt, .int .i64 x.fBirth, .int .i64 x.fSize, .int .i64 x.fSum, .int .i64 x.fLevel]) ∧ Below w.heap.size w w' := by
  go_enter Try.func39, Try.ntmps39
  go_wp2
  refine bodyPost_ret (v := .agg #[.int .i64 x.fAt, .int .i64 x.fBirth, .int .i64 x.fSize, .int .i64 x.fSum, .int .i64 x.fLevel]) (by simp [results, Try.results39, go_sem]) rfl ⟨rfl, ?_⟩
  exact (((Below.refl _ _).alloc (Nat.le_refl _) _).alloc (by simp) _).alloc (by simp; omega) _
set_option maxHeartbeats 400000 in
set_option maxRecDepth 100000 in
theorem eqPtr_yes (x : PtrD) (w : World) :
    Calls Try.prog 123 #[.agg #[.int .i64 x.fAt, .int .i64 x.fBirth, .int .i64 x.fSize, .int .i64 x.fSum, .int .i64 x.fLevel], .agg #[.int .i64 x.fAt, .int .i64 x.fBirth, .int .i64 x.fSize, .int .i64 x.fSum, .int .i64 x.fLevel]] w fun e w' => e = .returned (.bool true) ∧ Below w.heap.size w w' := by
  go_enter Try.func123, Try.ntmps123
  go_wp2
  go_ret
  exact ⟨rfl, ((Below.refl _ _).alloc (Nat.le_refl _) _).alloc (by simp) _⟩
set_option maxHeartbeats 400000 in
set_option maxRecDepth 100000 in
theorem szPtrS_any (ao : Option Addr) (len cap : Nat) (l : Int) (w : World) (hl0 : 0 ≤ l) (hl1 : l ≤ 1048576) (hlen : len ≤ 9223372036854775807) :
    Calls Try.prog 68 #[.slice ao len cap, .int .i64 l] w fun e w' => e = .returned (.int .i64 (leftOf l len)) ∧ Below w.heap.size w w' := by
  by_cases hln : l < len
  · have H := Lib.hid (leftOf_no hln)
    go_enter Try.func68, Try.ntmps68
    go_wp2
    go_ret
    exact ⟨ret_int H.out.symm, Below.refl _ _⟩
  · have H := Lib.hid (leftOf_yes (Int.not_lt.1 hln))
    go_enter Try.func68, Try.ntmps68
    go_wp2
    go_ret
    exact ⟨ret_int H.out.symm, Below.refl _ _⟩

theorem Try.infoPtrS : (Try.prog.info? 78).map (fun i => (i.zero, i.size, i.bytes)) = some (some (.agg #[.int .i64 0, .int .i64 0, .int .i64 0, .int .i64 0, .int .i64 0]), 5, 40) := by kernel_rfl
set_option maxHeartbeats 400000 in
set_option maxRecDepth 100000 in
theorem toPtrS_any (ao : Option Addr) (len cap : Nat) (xs : List PtrD) (w : World) (hlen : len ≤ 1048576) (hr : Rd PtrD.cells 5 w ao len xs) :
    Calls Try.prog 74 #[.slice ao len cap] w fun e w' => e = .returned (.slice (some ⟨w.heap.size, 0, none⟩) len len) ∧ w'.ownsRow w.heap.size 78 5 (.slice (some ⟨w.heap.size, 0, none⟩) len len) xs.length (xs.flatMap PtrD.cells) ∧ Below w.heap.size w w' := by
  obtain ⟨i0, hi, hz0, hz1, hz2⟩ := info_parts Try.infoPtrS
  go_enter Try.func74, Try.ntmps74
  go_wp2_with (refine wpList_make_full _ rfl (.tmp 6) (.tmp 6) 66 rfl w.heap.size 78 i0 _ 5 Try.underlying66 hi hz0 hz1 .i64 .i64 _ _ len rfl rfl rfl rfl ?b2 ?b3 ?b4 ?_)
  case b2 => rw [hz2]; omega
  case b3 => unfold maxLen; omega
  case b4 => exact Nat.le_refl _
  intro w1 hown hg
  have hb0 : Below w.heap.size w w1 := (Below.refl _ _).grown hg (Nat.le_refl _) (by simp)
  have hs1 : w.heap.size + 1 ≤ w1.heap.size := (hown.lt w.heap.size (by simp [Value.ownBlock])).2
  have hfill := Fill.start (xs := xs) (enc := PtrD.cells) hown
  clear hown
  go_wp2
  go_loopw [4] (fun i wr => ∃ k : Nat, k ≤ len ∧ i = .int .i64 k ∧ Fill PtrD.cells 5 w.heap.size 78 wr w.heap.size len xs k ∧ Below w.heap.size w wr ∧ w.heap.size + 1 ≤ wr.heap.size) (fun i _ => len - (intOf i).toNat)
  case atStart => exact ⟨0, Nat.zero_le _, rfl, hfill, hb0, hs1⟩
  case round =>
    obtain ⟨k, hk, rfl, hf, hb, hsz⟩ := hrel
    by_cases hlt : k < len
    · have hkx : k < xs.length := by rw [hr.len]; exact hlt
      obtain ⟨b, off, x, hx0, rfl, hbl, hrg⟩ := hr.at_ k hkx
      obtain ⟨c0, c1, c2, c3, c4⟩ := PtrD.at_ (rangeAt_below hrg hb hbl)
      have hx := Lib.hid hx0
      clear hx0
      go_wp2_with fail
      refine (toPtr_any x _).mono ?_
      rintro e w2 ⟨rfl, hb2⟩
      have hf2 := hf.below hb2 (Nat.le_refl _)
      have ht2 := Fill.there PtrD.cells_len hf2 hr.len hlt
      obtain ⟨hf3, hg3⟩ := Fill.step PtrD.cells_len hf2 hr.len hx.out
      go_wp2_with (refine wpList_store_mid rfl 78 (.tmp 21) (.tmp 20) rfl w.heap.size (k * 5) _ rfl rfl ?c0 ?c1 ?c2 ?_)
      case c0 => exact ht2
      case c1 => kernel_rfl
      case c2 => simp [Value.oneCell']
      go_roundw
      case rel => exact ⟨k + 1, by omega, by go_num, hf3, (hb.trans (hb2.mono hb.size)).grown hg3 (by have := hb2.size; omega) (by intro j hj; cases hj; exact Nat.le_refl _), by have h3 := hg3.size; simp only [PtrD.cells] at h3; have := hb2.size; omega⟩
      case measure => simp [intOf]; omega
    · have hk' : k = len := by omega
      subst hk'
      go_wp2
      go_ret
      exact ⟨rfl, Fill.done hf hr.len, hb⟩

set_option maxHeartbeats 400000 in
set_option maxRecDepth 100000 in
theorem eqPtrS_yes (ao bo : Option Addr) (len cap cap2 : Nat) (xs : List PtrD) (w : World) (hlen : len ≤ 1048576) (hr : Rd PtrD.cells 5 w ao len xs) (hr2 : Rd PtrD.cells 5 w bo len xs) :
    Calls Try.prog 80 #[.slice ao len cap, .slice bo len cap2] w fun e w' => e = .returned (.bool true) ∧ Below w.heap.size w w' := by
  go_enter Try.func80, Try.ntmps80
  go_wp2
  go_loopw [5] (fun i wr => ∃ k : Nat, k ≤ len ∧ i = .int .i64 k ∧ Below w.heap.size w wr) (fun i _ => len - (intOf i).toNat)
  case atStart => exact ⟨0, Nat.zero_le _, rfl, Below.refl _ _⟩
  case round =>
    obtain ⟨k, hk, rfl, hb⟩ := hrel
    by_cases hlt : k < len
    · have hkx : k < xs.length := by rw [hr.len]; exact hlt
      obtain ⟨b, off, x, hx0, rfl, hbl, hrg⟩ := hr.at_ k hkx
      obtain ⟨c0, c1, c2, c3, c4⟩ := PtrD.at_ (rangeAt_below hrg hb hbl)
      obtain ⟨b2, off2, x2, hx2, rfl, hbl2, hrg2⟩ := hr2.at_ k hkx
      obtain rfl : x = x2 := Option.some.inj (hx0.symm.trans hx2)
      obtain ⟨d0, d1, d2, d3, d4⟩ := PtrD.at_ (rangeAt_below hrg2 hb hbl2)
      clear hx0 hx2
      go_wp2_with fail
      go_still_tail 8, (by kernel_rfl)
      change wpList _ _ _ _ _ wr.drew
      have hb1 := hb.drew
      have hsz := hb1.size
      generalize wr.drew = w1 at hb1 hsz ⊢
      go_wp2_with fail
      refine (eqPtr_yes x _).mono ?_
      rintro e w2 ⟨rfl, hb2⟩
      go_wp2
      go_roundw
      case rel => exact ⟨k + 1, by omega, by go_num, hb1.trans (hb2.mono hsz)⟩
      case measure => simp [intOf]; omega
    · go_wp2
      go_ret
      exact ⟨rfl, hb⟩

end Go.Proofs.Ytkgmilobmbeplaa
