/- A part of the proof in YtoaopmkbfifhaaaGreatDoorIwZ22. -/
import Derived.ArgAppend
import Derived.BigQuiet
import Derived.BigRegion
import Derived.Deep.MidRow
import Derived.Deep.Quiet
import Derived.Deep.QuietTactic
import Derived.Deep.RegionHeld3
import Derived.Deep.RegionWith
import Derived.IntWalk
import Derived.Lib.Hide
import Derived.Lib.LazyBuf
import Derived.Orders
import Derived.OrdersHeld
import Derived.Still
import Derived.StillTail
import Derived.StillTailTactics
import Derived.Test.YtoaopmkbfifhaaaGreatDoorRows
import Derived.WalkKit
import Derived.WalkLawsBesides
import Derived.WalkSpells
import Derived.Test.YtoaopmkbfifhaaaGreatDoorIwZ8
/- Rows written in place: laws. No program in sight. -/
namespace Go.Proofs.YtoaopmkbfifhaaaGreatDoor
set_option linter.unusedVariables false
set_option linter.unusedSimpArgs false
set_option maxHeartbeats 1000000
set_option maxRecDepth 100000
open Go.RowKit

theorem GrownAll.put {vs : List Value} {w w' : World} (h : GrownAll vs w w') {u : Value} {g : Nat} (hu : u ∈ vs) (hg : Value.rowBlock u = some g) (a : Nat) (x : Value) : GrownAll vs w (w'.setCell ⟨g, a, none⟩ x) :=
  ⟨h.os, h.tape, h.output, by rw [sz_set]; exact h.size, fun k hk hne => ((Below.heap_setCell w' ⟨g, a, none⟩ x k (fun e => hne u hu (by rw [hg, e]))).trans (h.block k hk hne))⟩

def StoreD.zero : StoreD := { fRows := [], fSpace := { fRefs := [], fLast := [] }, fTxg := 0, fGone := [], fKeep := 0, fDead := [], fSame := false }
end Go.Proofs.YtoaopmkbfifhaaaGreatDoor

/- What writing to a store computes: plain. -/
namespace Go.Proofs.YtoaopmkbfifhaaaGreatDoor
set_option linter.unusedVariables false
set_option linter.unusedSimpArgs false
set_option maxHeartbeats 1000000
set_option maxRecDepth 100000
open Go.RowKit

/-! ### The checksum -/
def sumF (s : ByteArray) : Nat → Int × Int
  | 0 => (1, 0)
  | k + 1 => (((sumF s k).1 + ((s.get! k).toNat : Int) + 1) % 9973, ((sumF s k).2 + ((sumF s k).1 + ((s.get! k).toNat : Int) + 1) % 9973) % 9973)
def sumOf (s : ByteArray) : Int := (sumF s s.size).1 * 9973 + (sumF s s.size).2
theorem sumF_le (s : ByteArray) (k : Nat) : 0 ≤ (sumF s k).1 ∧ (sumF s k).1 < 9973 ∧ 0 ≤ (sumF s k).2 ∧ (sumF s k).2 < 9973 := by
  cases k with
  | zero => simp [sumF]
  | succ k => unfold sumF; dsimp only; omega
theorem sumOf_le (s : ByteArray) : 0 ≤ sumOf s ∧ sumOf s ≤ 99460728 := by
  have := sumF_le s s.size
  unfold sumOf; omega
theorem byte_le (s : ByteArray) (k : Nat) : (0 : Int) ≤ ((s.get! k).toNat : Int) ∧ ((s.get! k).toNat : Int) ≤ 255 := by
  have := (s.get! k).toNat_lt
  omega

def PtrD.zero : PtrD := { fAt := 0, fBirth := 0, fSize := 0, fSum := 0, fLevel := 0 }
def StoreD.putAt (st : StoreD) (i : Nat) (rows : List ByteArray) : StoreD := { st with fRows := rows, fSpace := { fRefs := st.fSpace.fRefs.set i (st.fSpace.fRefs.getD i 0 + 1), fLast := st.fSpace.fLast.set i st.fTxg } }
end Go.Proofs.YtoaopmkbfifhaaaGreatDoor

/- What StoreWrite calls: walked. -/
namespace Go.Proofs.YtoaopmkbfifhaaaGreatDoor
set_option linter.unusedVariables false
set_option linter.unusedSimpArgs false
set_option maxHeartbeats 1000000
set_option maxRecDepth 100000
open Go.RowKit

theorem sumOfI_any (s : ByteArray) (w0 : World) (hs : s.size ≤ 9223372036854775806) : Calls Tryz.prog 125 #[.string s] w0 fun e w' => e = .returned (.int .i64 (sumOf s)) ∧ Below w0.heap.size w0 w' := by
 have HS := Bx.mk (St.start w0)
 refine wc_enter Tryz.func125 rfl Tryz.ntmps125 [(0, .string s)] ⟨rfl, trivial⟩ rfl ?_; intro a HF
 refine wp_sr ?_
 refine wl_as HF rfl rfl rfl rfl rfl ?_; clear HF a; intro a HF
 refine wl_ne ?_
 refine wp_sr ?_
 refine wl_as HF rfl rfl rfl rfl rfl ?_; clear HF a; intro a HF
 refine wl_as HF rfl rfl rfl rfl rfl ?_; clear HF a; intro a HF
 refine wl_ne ?_
 refine wp_seq ?_
 refine wp_sr ?_
 refine wl_mv HF rfl rfl rfl rfl rfl ?_; clear HF a; intro a HF
 refine wl_y rfl HF rfl rfl (yl_lenS rfl (HF.ev rfl) (by kernel_rfl)) ?_; clear HF a; intro a HF
 refine wl_mv HF rfl rfl rfl rfl rfl ?_; clear HF a; intro a HF
 refine wl_ne ?_
 refine wp_block ?_
 refine wc_loop (ι := Nat) (fun k a w => (k ≤ s.size) ∧ Fr 28 a [(0, .string s), (3, .int .i64 ((sumF s k).1)), (4, .int .i64 ((sumF s k).2)), (7, .int .i64 (s.size : Int)), (8, .int .i64 (k : Int))] ∧ St w0 ([]) w) (fun k => s.size - k) 0 ⟨(Nat.zero_le _), HF.less _ ⟨rfl, rfl, rfl, rfl, rfl, trivial⟩, HS.out⟩ ?_
 clear HF HS; clear a
 rintro k a w1 ⟨hk, HF, HS⟩
 replace HS := Bx.mk HS
 have hb := sumF_le s k
 have hbyte := byte_le s k
 refine wp_sr ?_
 refine wl_y rfl HF rfl rfl (yl_lssI rfl (HF.ev rfl) (HF.ev rfl)) ?_; clear HF a; intro a HF
 refine wl_ne ?_
 refine wp_seq ?_
 refine HF.cases 9 rfl (fun cc1 HF1 => ?_) (fun cc1 HF1 => ?_)
 ·clear HF; have HF := HF1; clear HF1
  have cc1 := of_decide_eq_true cc1
  refine wc_true HF rfl ?_
  refine wp_skip ?_
  refine ex_then ?_
  refine wp_seq ?_
  refine wp_block ?_
  refine wp_sr ?_
  refine wl_mv HF rfl rfl rfl rfl rfl ?_; clear HF a; intro a HF
  refine wl_as HF rfl rfl rfl rfl rfl ?_; clear HF a; intro a HF
  refine wl_ne ?_
  refine wp_sr ?_
  refine wl_mv HF rfl rfl rfl rfl rfl ?_; clear HF a; intro a HF
  refine wl_mv HF rfl rfl rfl rfl rfl ?_; clear HF a; intro a HF
  refine wl_mv HF rfl rfl rfl rfl rfl ?_; clear HF a; intro a HF
  refine wl_y rfl HF rfl rfl (yl_indexS (i := k) rfl (HF.ev rfl) (HF.ev rfl) (by kernel_rfl) rfl (by omega)) ?_; clear HF a; intro a HF
  refine wl_y rfl HF rfl rfl (yl_convU8 rfl (HF.ev rfl) (byte_le _ _) (by kernel_rfl) (by kernel_rfl)) ?_; clear HF a; intro a HF
  refine wl_y rfl HF rfl rfl (yl_addI rfl (HF.ev rfl) (HF.ev rfl) (i64w (by omega))) ?_; clear HF a; intro a HF
  refine wl_y rfl HF rfl rfl (yl_addI rfl (HF.ev rfl) (HF.ev rfl) (i64w (by omega))) ?_; clear HF a; intro a HF
  refine wl_y rfl HF rfl rfl (yl_remI rfl (HF.ev rfl) (HF.ev rfl) (by omega) (rem_pos (by omega) (by omega))) ?_; clear HF a; intro a HF
  refine wl_as HF rfl rfl rfl rfl rfl ?_; clear HF a; intro a HF
  refine wl_ne ?_
  refine wp_region_lit ?_
  refine wl_mv HF rfl rfl rfl rfl rfl ?_; clear HF a; intro a HF
  refine wl_mv HF rfl rfl rfl rfl rfl ?_; clear HF a; intro a HF
  refine wl_y rfl HF rfl rfl (yl_addI rfl (HF.ev rfl) (HF.ev rfl) (i64w (by omega))) ?_; clear HF a; intro a HF
  refine wl_y rfl HF rfl rfl (yl_remI rfl (HF.ev rfl) (HF.ev rfl) (by omega) (rem_pos (by omega) (by omega))) ?_; clear HF a; intro a HF
  refine wl_as HF rfl rfl rfl rfl rfl ?_; clear HF a; intro a HF
  refine wpList_nil ?_
  refine ex_block ?_
  refine ex_then ?_
  refine wp_region_lit ?_
  refine wl_y rfl HF rfl rfl (yl_addI rfl (HF.ev rfl) (HF.ev rfl) (i64w (by omega))) ?_; clear HF a; intro a HF
  refine wl_mv HF rfl rfl rfl rfl rfl ?_; clear HF a; intro a HF
  refine wl_ne ?_
  exact ⟨k + 1, ⟨(by omega), HF.less _ ⟨rfl, rfl, (congrArg (fun x => some (Value.int .i64 x)) (by rw [show (sumF s (k + 1)).2 = ((sumF s k).2 + ((sumF s k).1 + ((s.get! k).toNat : Int) + 1) % 9973) % 9973 from rfl, Int.add_comm])), rfl, rfl, trivial⟩, HS.out⟩, (by omega)⟩
 ·clear HF; have HF := HF1; clear HF1
  have cc1 := of_decide_eq_false cc1
  obtain rfl : k = s.size := by omega
  refine wc_false HF rfl ?_
  refine wp_exit ?_
  refine ex_then_exit ?_
  refine ex_then_exit ?_
  refine ex_block_hit ?_
  refine ex_then ?_
  refine wp_sr ?_
  refine wl_mv HF rfl rfl rfl rfl rfl ?_; clear HF a; intro a HF
  refine wl_y rfl HF rfl rfl (yl_mulI rfl (HF.ev rfl) (HF.ev rfl) (i64w (by omega))) ?_; clear HF a; intro a HF
  refine wl_mv HF rfl rfl rfl rfl rfl ?_; clear HF a; intro a HF
  refine wl_y rfl HF rfl rfl (yl_addI rfl (HF.ev rfl) (HF.ev rfl) (i64w (by omega))) ?_; clear HF a; intro a HF
  refine wl_as HF rfl rfl rfl rfl rfl ?_; clear HF a; intro a HF
  refine wl_ne ?_
  refine wp_ret ?_
  refine bp_ret1 HF Tryz.results125 (HF.res rfl) ?_
  exact ⟨rfl, HS.out.bel⟩

theorem sumOfS_any (s : ByteArray) (w0 : World) (hs : s.size ≤ 9223372036854775806) : Calls Tryz.prog 68 #[.string s] w0 fun e w' => e = .returned (.int .i64 (sumOf s)) ∧ Below w0.heap.size w0 w' := by
 have HS := Bx.mk (St.start w0)
 refine wc_enter Tryz.func68 rfl Tryz.ntmps68 [(0, .string s)] ⟨rfl, trivial⟩ rfl ?_; intro a HF
 refine wp_sr ?_
 refine wl_as HF rfl rfl rfl rfl rfl ?_; clear HF a; intro a HF
 refine wl_ne ?_
 refine wp_sr ?_
 refine wl_as HF rfl rfl rfl rfl rfl ?_; clear HF a; intro a HF
 refine wl_ne ?_
 refine wp_sr ?_
 refine wl_as HF rfl rfl rfl rfl rfl ?_; clear HF a; intro a HF
 refine wl_ne ?_
 refine wp_seq ?_
 refine wp_sr ?_
 refine wl_as HF rfl rfl rfl rfl rfl ?_; clear HF a; intro a HF
 refine wl_ne ?_
 refine wp_block ?_
 refine wc_loop (ι := Nat) (fun k a w => (k ≤ s.size) ∧ Fr 28 a [(0, .string s), (3, .int .i64 ((sumF s k).1)), (4, .int .i64 ((sumF s k).2)), (5, .int .i64 (k : Int))] ∧ St w0 ([]) w) (fun k => s.size - k) 0 ⟨(Nat.zero_le _), HF.less _ ⟨rfl, rfl, rfl, rfl, trivial⟩, HS.out⟩ ?_
 clear HF HS; clear a
 rintro k a w1 ⟨hk, HF, HS⟩
 replace HS := Bx.mk HS
 have hb := sumF_le s k
 have hbyte := byte_le s k
 refine wp_seq ?_
 refine wp_sr ?_
 refine wl_mv HF rfl rfl rfl rfl rfl ?_; clear HF a; intro a HF
 refine wl_mv HF rfl rfl rfl rfl rfl ?_; clear HF a; intro a HF
 refine wl_y rfl HF rfl rfl (yl_lenS rfl (HF.ev rfl) (by kernel_rfl)) ?_; clear HF a; intro a HF
 refine wl_y rfl HF rfl rfl (yl_lssI rfl (HF.ev rfl) (HF.ev rfl)) ?_; clear HF a; intro a HF
 refine wl_ne ?_
 refine HF.cases 9 rfl (fun cc1 HF1 => ?_) (fun cc1 HF1 => ?_)
 ·clear HF; have HF := HF1; clear HF1
  have cc1 := of_decide_eq_true cc1
  refine wc_true HF rfl ?_
  refine wp_skip ?_
  refine ex_then ?_
  refine wp_seq ?_
  refine wp_block ?_
  refine wp_sr ?_
  refine wl_mv HF rfl rfl rfl rfl rfl ?_; clear HF a; intro a HF
  refine wl_mv HF rfl rfl rfl rfl rfl ?_; clear HF a; intro a HF
  refine wl_mv HF rfl rfl rfl rfl rfl ?_; clear HF a; intro a HF
  refine wl_y rfl HF rfl rfl (yl_indexS (i := k) rfl (HF.ev rfl) (HF.ev rfl) (by kernel_rfl) rfl (by omega)) ?_; clear HF a; intro a HF
  refine wl_y rfl HF rfl rfl (yl_convU8 rfl (HF.ev rfl) (byte_le _ _) (by kernel_rfl) (by kernel_rfl)) ?_; clear HF a; intro a HF
  refine wl_y rfl HF rfl rfl (yl_addI rfl (HF.ev rfl) (HF.ev rfl) (i64w (by omega))) ?_; clear HF a; intro a HF
  refine wl_y rfl HF rfl rfl (yl_addI rfl (HF.ev rfl) (HF.ev rfl) (i64w (by omega))) ?_; clear HF a; intro a HF
  refine wl_y rfl HF rfl rfl (yl_remI rfl (HF.ev rfl) (HF.ev rfl) (by omega) (rem_pos (by omega) (by omega))) ?_; clear HF a; intro a HF
  refine wl_as HF rfl rfl rfl rfl rfl ?_; clear HF a; intro a HF
  refine wl_ne ?_
  refine wp_region_lit ?_
  refine wl_mv HF rfl rfl rfl rfl rfl ?_; clear HF a; intro a HF
  refine wl_mv HF rfl rfl rfl rfl rfl ?_; clear HF a; intro a HF
  refine wl_y rfl HF rfl rfl (yl_addI rfl (HF.ev rfl) (HF.ev rfl) (i64w (by omega))) ?_; clear HF a; intro a HF
  refine wl_y rfl HF rfl rfl (yl_remI rfl (HF.ev rfl) (HF.ev rfl) (by omega) (rem_pos (by omega) (by omega))) ?_; clear HF a; intro a HF
  refine wl_as HF rfl rfl rfl rfl rfl ?_; clear HF a; intro a HF
  refine wpList_nil ?_
  refine ex_block ?_
  refine ex_then ?_
  refine wp_region_lit ?_
  refine wl_mv HF rfl rfl rfl rfl rfl ?_; clear HF a; intro a HF
  refine wl_y rfl HF rfl rfl (yl_addI rfl (HF.ev rfl) (HF.ev rfl) (i64w (by omega))) ?_; clear HF a; intro a HF
  refine wl_as HF rfl rfl rfl rfl rfl ?_; clear HF a; intro a HF
  refine wl_ne ?_
  exact ⟨k + 1, ⟨(by omega), HF.less _ ⟨rfl, rfl, rfl, rfl, trivial⟩, HS.out⟩, (by omega)⟩
 ·clear HF; have HF := HF1; clear HF1
  have cc1 := of_decide_eq_false cc1
  obtain rfl : k = s.size := by omega
  refine wc_false HF rfl ?_
  refine wp_exit ?_
  refine ex_then_exit ?_
  refine ex_then_exit ?_
  refine ex_block_hit ?_
  refine ex_then ?_
  refine wp_sr ?_
  refine wl_mv HF rfl rfl rfl rfl rfl ?_; clear HF a; intro a HF
  refine wl_y rfl HF rfl rfl (yl_mulI rfl (HF.ev rfl) (HF.ev rfl) (i64w (by omega))) ?_; clear HF a; intro a HF
  refine wl_mv HF rfl rfl rfl rfl rfl ?_; clear HF a; intro a HF
  refine wl_y rfl HF rfl rfl (yl_addI rfl (HF.ev rfl) (HF.ev rfl) (i64w (by omega))) ?_; clear HF a; intro a HF
  refine wl_as HF rfl rfl rfl rfl rfl ?_; clear HF a; intro a HF
  refine wl_ne ?_
  refine wp_ret ?_
  refine bp_ret1 HF Tryz.results68 (HF.res rfl) ?_
  exact ⟨rfl, HS.out.bel⟩

end Go.Proofs.YtoaopmkbfifhaaaGreatDoor
