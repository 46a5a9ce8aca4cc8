/- A part of the proof in YtfijfjjleelphaaCrashY17. -/
import Derived.ArgAppend
import Derived.BigQuiet
import Derived.BigRegion
import Derived.Deep.AppendLies
import Derived.Deep.MidRow
import Derived.Deep.Quiet
import Derived.Deep.QuietTactic
import Derived.Deep.RegionHeld3
import Derived.Deep.RegionWith
import Derived.IntWalk
import Derived.Laws.BytesArg
import Derived.Lib.Hide
import Derived.Lib.LazyBuf
import Derived.Orders
import Derived.OrdersHeld
import Derived.Still
import Derived.StillTail
import Derived.StillTailTactics
import Derived.Test.YtfijfjjleelphaaRows
import Derived.WalkKit
import Derived.WalkLawsBesides
import Derived.WalkSpells
import Derived.Test.YtfijfjjleelphaaCrashY9
/- Rows written in place: laws. No program in sight. -/
namespace Go.Proofs.Ytfijfjjleelphaa
set_option maxHeartbeats 1000000
set_option maxRecDepth 100000
open Go.RowKit

theorem GrownAll.put {vs : List Value} {w w' : World} (h : GrownAll vs w w') {u : Value} {g : Nat} (hu : u ∈ vs) (hg : Value.rowBlock u = some g) (a : Nat) (x : Value) : GrownAll vs w (w'.setCell ⟨g, a, none⟩ x) :=
  ⟨h.os, h.tape, h.output, by rw [sz_set]; exact h.size, fun k hk hne => ((Below.heap_setCell w' ⟨g, a, none⟩ x k (fun e => hne u hu (by rw [hg, e]))).trans (h.block k hk hne))⟩

def StoreD.zero : StoreD := { fRows := [], fSpace := { fRefs := [], fLast := [] }, fTxg := 0, fGone := [], fKeep := 0, fDead := [], fSame := false }
end Go.Proofs.Ytfijfjjleelphaa

/- What writing to a store computes: plain. -/
namespace Go.Proofs.Ytfijfjjleelphaa
set_option maxHeartbeats 1000000
set_option maxRecDepth 100000
open Go.RowKit

/-! ### The checksum -/
def sumF (s : ByteArray) : Nat → Int × Int
  | 0 => (1, 0)
  | k + 1 => (((sumF s k).1 + ((s.get! k).toNat : Int) + 1) % 9973, ((sumF s k).2 + ((sumF s k).1 + ((s.get! k).toNat : Int) + 1) % 9973) % 9973)
def sumOf (s : ByteArray) : Int := (sumF s s.size).1 * 9973 + (sumF s s.size).2
theorem sumF_le (s : ByteArray) (k : Nat) : 0 ≤ (sumF s k).1 ∧ (sumF s k).1 < 9973 ∧ 0 ≤ (sumF s k).2 ∧ (sumF s k).2 < 9973 := by
  cases k with
  | zero => simp [sumF]
  | succ k => unfold sumF; dsimp only; omega
theorem sumOf_le (s : ByteArray) : 0 ≤ sumOf s ∧ sumOf s ≤ 99460728 := by
  have := sumF_le s s.size
  unfold sumOf; omega
theorem byte_le (s : ByteArray) (k : Nat) : (0 : Int) ≤ ((s.get! k).toNat : Int) ∧ ((s.get! k).toNat : Int) ≤ 255 := by
  have := (s.get! k).toNat_lt
  omega

/-! ### The pointer to a block -/
def ptrAt (at_ birth level : Int) (text : ByteArray) : PtrD := { fAt := at_, fBirth := birth, fSize := text.size, fSum := sumOf text, fLevel := level }
def PtrD.zero : PtrD := { fAt := 0, fBirth := 0, fSize := 0, fSum := 0, fLevel := 0 }
def ptrOk (at_ birth level : Int) (text : ByteArray) : Bool := inB text.size 1 128 && (ptrAt at_ birth level text).ok
def ptrOf (at_ birth level : Int) (text : ByteArray) : PtrD := if ptrOk at_ birth level text then ptrAt at_ birth level text else PtrD.zero
theorem ptrOf_no {a b l : Int} {s : ByteArray} (h : ptrOk a b l s = false) : ptrOf a b l s = PtrD.zero := by unfold ptrOf; rw [h]; rfl
theorem ptrOf_yes {a b l : Int} {s : ByteArray} (h : ptrOk a b l s = true) : ptrOf a b l s = ptrAt a b l s := by unfold ptrOf; rw [h]; rfl

end Go.Proofs.Ytfijfjjleelphaa

/- What StoreWrite calls: walked. -/
namespace Go.Proofs.Ytfijfjjleelphaa
set_option maxHeartbeats 1000000
set_option maxRecDepth 100000
open Go.RowKit

theorem sumOfI_any (s : ByteArray) (w0 : World) (hs : s.size ≤ 9223372036854775806) : Calls Try.prog 58 #[.string s] w0 fun e w' => e = .returned (.int .i64 (sumOf s)) ∧ Below w0.heap.size w0 w' := by
 have HS := Bx.mk (St.start w0)
 refine wc_enter Try.func58 rfl Try.ntmps58 [(0, .string s)] ⟨rfl, trivial⟩ rfl ?_; intro a HF
 refine wp_sr ?_
 refine wl_as HF rfl rfl rfl rfl rfl ?_; clear HF a; intro a HF
 refine wl_ne ?_
 refine wp_sr ?_
 refine wl_as HF rfl rfl rfl rfl rfl ?_; clear HF a; intro a HF
 refine wl_as HF rfl rfl rfl rfl rfl ?_; clear HF a; intro a HF
 refine wl_ne ?_
 refine wp_seq ?_
 refine wp_sr ?_
 refine wl_mv HF rfl rfl rfl rfl rfl ?_; clear HF a; intro a HF
 refine wl_y rfl HF rfl rfl (yl_lenS rfl (HF.ev rfl) (by kernel_rfl)) ?_; clear HF a; intro a HF
 refine wl_mv HF rfl rfl rfl rfl rfl ?_; clear HF a; intro a HF
 refine wl_ne ?_
 refine wp_block ?_
 refine wc_loop (ι := Nat) (fun k a w => (k ≤ s.size) ∧ Fr 28 a [(0, .string s), (3, .int .i64 ((sumF s k).1)), (4, .int .i64 ((sumF s k).2)), (7, .int .i64 (s.size : Int)), (8, .int .i64 (k : Int))] ∧ St w0 ([]) w) (fun k => s.size - k) 0 ⟨(Nat.zero_le _), HF.less _ ⟨rfl, rfl, rfl, rfl, rfl, trivial⟩, HS.out⟩ ?_
 clear HF HS; clear a
 rintro k a w1 ⟨hk, HF, HS⟩
 replace HS := Bx.mk HS
 have hb := sumF_le s k
 have hbyte := byte_le s k
 refine wp_sr ?_
 refine wl_y rfl HF rfl rfl (yl_lssI rfl (HF.ev rfl) (HF.ev rfl)) ?_; clear HF a; intro a HF
 refine wl_ne ?_
 refine wp_seq ?_
 refine HF.cases 9 rfl (fun cc1 HF1 => ?_) (fun cc1 HF1 => ?_)
 ·clear HF; have HF := HF1; clear HF1
  have cc1 := of_decide_eq_true cc1
  refine wc_true HF rfl ?_
  refine wp_skip ?_
  refine ex_then ?_
  refine wp_seq ?_
  refine wp_block ?_
  refine wp_sr ?_
  refine wl_mv HF rfl rfl rfl rfl rfl ?_; clear HF a; intro a HF
  refine wl_as HF rfl rfl rfl rfl rfl ?_; clear HF a; intro a HF
  refine wl_ne ?_
  refine wp_sr ?_
  refine wl_mv HF rfl rfl rfl rfl rfl ?_; clear HF a; intro a HF
  refine wl_mv HF rfl rfl rfl rfl rfl ?_; clear HF a; intro a HF
  refine wl_mv HF rfl rfl rfl rfl rfl ?_; clear HF a; intro a HF
  refine wl_y rfl HF rfl rfl (yl_indexS (i := k) rfl (HF.ev rfl) (HF.ev rfl) (by kernel_rfl) rfl (by omega)) ?_; clear HF a; intro a HF
  refine wl_y rfl HF rfl rfl (yl_convU8 rfl (HF.ev rfl) (byte_le _ _) (by kernel_rfl) (by kernel_rfl)) ?_; clear HF a; intro a HF
  refine wl_y rfl HF rfl rfl (yl_addI rfl (HF.ev rfl) (HF.ev rfl) (i64w (by omega))) ?_; clear HF a; intro a HF
  refine wl_y rfl HF rfl rfl (yl_addI rfl (HF.ev rfl) (HF.ev rfl) (i64w (by omega))) ?_; clear HF a; intro a HF
  refine wl_y rfl HF rfl rfl (yl_remI rfl (HF.ev rfl) (HF.ev rfl) (by omega) (rem_pos (by omega) (by omega))) ?_; clear HF a; intro a HF
  refine wl_as HF rfl rfl rfl rfl rfl ?_; clear HF a; intro a HF
  refine wl_ne ?_
  refine wp_region_lit ?_
  refine wl_mv HF rfl rfl rfl rfl rfl ?_; clear HF a; intro a HF
  refine wl_mv HF rfl rfl rfl rfl rfl ?_; clear HF a; intro a HF
  refine wl_y rfl HF rfl rfl (yl_addI rfl (HF.ev rfl) (HF.ev rfl) (i64w (by omega))) ?_; clear HF a; intro a HF
  refine wl_y rfl HF rfl rfl (yl_remI rfl (HF.ev rfl) (HF.ev rfl) (by omega) (rem_pos (by omega) (by omega))) ?_; clear HF a; intro a HF
  refine wl_as HF rfl rfl rfl rfl rfl ?_; clear HF a; intro a HF
  refine wpList_nil ?_
  refine ex_block ?_
  refine ex_then ?_
  refine wp_region_lit ?_
  refine wl_y rfl HF rfl rfl (yl_addI rfl (HF.ev rfl) (HF.ev rfl) (i64w (by omega))) ?_; clear HF a; intro a HF
  refine wl_mv HF rfl rfl rfl rfl rfl ?_; clear HF a; intro a HF
  refine wl_ne ?_
  exact ⟨k + 1, ⟨(by omega), HF.less _ ⟨rfl, rfl, (congrArg (fun x => some (Value.int .i64 x)) (by rw [show (sumF s (k + 1)).2 = ((sumF s k).2 + ((sumF s k).1 + ((s.get! k).toNat : Int) + 1) % 9973) % 9973 from rfl, Int.add_comm])), rfl, rfl, trivial⟩, HS.out⟩, (by omega)⟩
 ·clear HF; have HF := HF1; clear HF1
  have cc1 := of_decide_eq_false cc1
  obtain rfl : k = s.size := by omega
  refine wc_false HF rfl ?_
  refine wp_exit ?_
  refine ex_then_exit ?_
  refine ex_then_exit ?_
  refine ex_block_hit ?_
  refine ex_then ?_
  refine wp_sr ?_
  refine wl_mv HF rfl rfl rfl rfl rfl ?_; clear HF a; intro a HF
  refine wl_y rfl HF rfl rfl (yl_mulI rfl (HF.ev rfl) (HF.ev rfl) (i64w (by omega))) ?_; clear HF a; intro a HF
  refine wl_mv HF rfl rfl rfl rfl rfl ?_; clear HF a; intro a HF
  refine wl_y rfl HF rfl rfl (yl_addI rfl (HF.ev rfl) (HF.ev rfl) (i64w (by omega))) ?_; clear HF a; intro a HF
  refine wl_as HF rfl rfl rfl rfl rfl ?_; clear HF a; intro a HF
  refine wl_ne ?_
  refine wp_ret ?_
  refine bp_ret1 HF Try.results58 (HF.res rfl) ?_
  exact ⟨rfl, HS.out.bel⟩

theorem sumOfS_any (s : ByteArray) (w0 : World) (hs : s.size ≤ 9223372036854775806) : Calls Try.prog 159 #[.string s] w0 fun e w' => e = .returned (.int .i64 (sumOf s)) ∧ Below w0.heap.size w0 w' := by
 have HS := Bx.mk (St.start w0)
 refine wc_enter Try.func159 rfl Try.ntmps159 [(0, .string s)] ⟨rfl, trivial⟩ rfl ?_; intro a HF
 refine wp_sr ?_
 refine wl_as HF rfl rfl rfl rfl rfl ?_; clear HF a; intro a HF
 refine wl_ne ?_
 refine wp_sr ?_
 refine wl_as HF rfl rfl rfl rfl rfl ?_; clear HF a; intro a HF
 refine wl_ne ?_
 refine wp_sr ?_
 refine wl_as HF rfl rfl rfl rfl rfl ?_; clear HF a; intro a HF
 refine wl_ne ?_
 refine wp_seq ?_
 refine wp_sr ?_
 refine wl_as HF rfl rfl rfl rfl rfl ?_; clear HF a; intro a HF
 refine wl_ne ?_
 refine wp_block ?_
 refine wc_loop (ι := Nat) (fun k a w => (k ≤ s.size) ∧ Fr 28 a [(0, .string s), (3, .int .i64 ((sumF s k).1)), (4, .int .i64 ((sumF s k).2)), (5, .int .i64 (k : Int))] ∧ St w0 ([]) w) (fun k => s.size - k) 0 ⟨(Nat.zero_le _), HF.less _ ⟨rfl, rfl, rfl, rfl, trivial⟩, HS.out⟩ ?_
 clear HF HS; clear a
 rintro k a w1 ⟨hk, HF, HS⟩
 replace HS := Bx.mk HS
 have hb := sumF_le s k
 have hbyte := byte_le s k
 refine wp_seq ?_
 refine wp_sr ?_
 refine wl_mv HF rfl rfl rfl rfl rfl ?_; clear HF a; intro a HF
 refine wl_mv HF rfl rfl rfl rfl rfl ?_; clear HF a; intro a HF
 refine wl_y rfl HF rfl rfl (yl_lenS rfl (HF.ev rfl) (by kernel_rfl)) ?_; clear HF a; intro a HF
 refine wl_y rfl HF rfl rfl (yl_lssI rfl (HF.ev rfl) (HF.ev rfl)) ?_; clear HF a; intro a HF
 refine wl_ne ?_
 refine HF.cases 9 rfl (fun cc1 HF1 => ?_) (fun cc1 HF1 => ?_)
 ·clear HF; have HF := HF1; clear HF1
  have cc1 := of_decide_eq_true cc1
  refine wc_true HF rfl ?_
  refine wp_skip ?_
  refine ex_then ?_
  refine wp_seq ?_
  refine wp_block ?_
  refine wp_sr ?_
  refine wl_mv HF rfl rfl rfl rfl rfl ?_; clear HF a; intro a HF
  refine wl_mv HF rfl rfl rfl rfl rfl ?_; clear HF a; intro a HF
  refine wl_mv HF rfl rfl rfl rfl rfl ?_; clear HF a; intro a HF
  refine wl_y rfl HF rfl rfl (yl_indexS (i := k) rfl (HF.ev rfl) (HF.ev rfl) (by kernel_rfl) rfl (by omega)) ?_; clear HF a; intro a HF
  refine wl_y rfl HF rfl rfl (yl_convU8 rfl (HF.ev rfl) (byte_le _ _) (by kernel_rfl) (by kernel_rfl)) ?_; clear HF a; intro a HF
  refine wl_y rfl HF rfl rfl (yl_addI rfl (HF.ev rfl) (HF.ev rfl) (i64w (by omega))) ?_; clear HF a; intro a HF
  refine wl_y rfl HF rfl rfl (yl_addI rfl (HF.ev rfl) (HF.ev rfl) (i64w (by omega))) ?_; clear HF a; intro a HF
  refine wl_y rfl HF rfl rfl (yl_remI rfl (HF.ev rfl) (HF.ev rfl) (by omega) (rem_pos (by omega) (by omega))) ?_; clear HF a; intro a HF
  refine wl_as HF rfl rfl rfl rfl rfl ?_; clear HF a; intro a HF
  refine wl_ne ?_
  refine wp_region_lit ?_
  refine wl_mv HF rfl rfl rfl rfl rfl ?_; clear HF a; intro a HF
  refine wl_mv HF rfl rfl rfl rfl rfl ?_; clear HF a; intro a HF
  refine wl_y rfl HF rfl rfl (yl_addI rfl (HF.ev rfl) (HF.ev rfl) (i64w (by omega))) ?_; clear HF a; intro a HF
  refine wl_y rfl HF rfl rfl (yl_remI rfl (HF.ev rfl) (HF.ev rfl) (by omega) (rem_pos (by omega) (by omega))) ?_; clear HF a; intro a HF
  refine wl_as HF rfl rfl rfl rfl rfl ?_; clear HF a; intro a HF
  refine wpList_nil ?_
  refine ex_block ?_
  refine ex_then ?_
  refine wp_region_lit ?_
  refine wl_mv HF rfl rfl rfl rfl rfl ?_; clear HF a; intro a HF
  refine wl_y rfl HF rfl rfl (yl_addI rfl (HF.ev rfl) (HF.ev rfl) (i64w (by omega))) ?_; clear HF a; intro a HF
  refine wl_as HF rfl rfl rfl rfl rfl ?_; clear HF a; intro a HF
  refine wl_ne ?_
  exact ⟨k + 1, ⟨(by omega), HF.less _ ⟨rfl, rfl, rfl, rfl, trivial⟩, HS.out⟩, (by omega)⟩
 ·clear HF; have HF := HF1; clear HF1
  have cc1 := of_decide_eq_false cc1
  obtain rfl : k = s.size := by omega
  refine wc_false HF rfl ?_
  refine wp_exit ?_
  refine ex_then_exit ?_
  refine ex_then_exit ?_
  refine ex_block_hit ?_
  refine ex_then ?_
  refine wp_sr ?_
  refine wl_mv HF rfl rfl rfl rfl rfl ?_; clear HF a; intro a HF
  refine wl_y rfl HF rfl rfl (yl_mulI rfl (HF.ev rfl) (HF.ev rfl) (i64w (by omega))) ?_; clear HF a; intro a HF
  refine wl_mv HF rfl rfl rfl rfl rfl ?_; clear HF a; intro a HF
  refine wl_y rfl HF rfl rfl (yl_addI rfl (HF.ev rfl) (HF.ev rfl) (i64w (by omega))) ?_; clear HF a; intro a HF
  refine wl_as HF rfl rfl rfl rfl rfl ?_; clear HF a; intro a HF
  refine wl_ne ?_
  refine wp_ret ?_
  refine bp_ret1 HF Try.results159 (HF.res rfl) ?_
  exact ⟨rfl, HS.out.bel⟩

theorem isBlock_any (s : ByteArray) (w0 : World) (hs : s.size ≤ 9223372036854775806) : Calls Try.prog 59 #[.string s] w0 fun e w' => e = .returned (.bool (inB (s.size : Int) 1 128)) ∧ Below w0.heap.size w0 w' := by
 have HS := Bx.mk (St.start w0)
 refine wc_enter Try.func59 rfl Try.ntmps59 [(0, .string s)] ⟨rfl, trivial⟩ rfl ?_; intro a HF
 refine wp_sr ?_
 refine wl_as HF rfl rfl rfl rfl rfl ?_; clear HF a; intro a HF
 refine wl_ne ?_
 refine wp_sr ?_
 refine wl_mv HF rfl rfl rfl rfl rfl ?_; clear HF a; intro a HF
 refine wl_y rfl HF rfl rfl (yl_lenS rfl (HF.ev rfl) (by kernel_rfl)) ?_; clear HF a; intro a HF
 refine wl_callB rfl HF rfl (enter_of Try.func65 (by kernel_rfl) rfl) (args := #[.int .i64 (s.size : Int), .int .i64 1, .int .i64 128]) rfl (v := .bool (inB (s.size : Int) 1 128)) (((within_any (s.size : Int) 1 128 _).mono fun _ _ h => ⟨h.1, h.2 ▸ Below.refl _ _⟩)) rfl rfl HS.out ?_; clear HF HS a; intro w1 a HS HF; replace HS := Bx.mk HS
 refine wl_as HF rfl rfl rfl rfl rfl ?_; clear HF a; intro a HF
 refine wl_ne ?_
 refine wp_ret ?_
 refine bp_ret1 HF Try.results59 (HF.res rfl) ?_
 exact ⟨rfl, HS.out.bel⟩

theorem l2Block_any (s : ByteArray) (w0 : World) (hs : s.size ≤ 9223372036854775806) : Calls Try.prog 53 #[.string s] w0 fun e w' => e = .returned (.bool (inB (s.size : Int) 1 128)) ∧ Below w0.heap.size w0 w' := by
 have HS := Bx.mk (St.start w0)
 refine wc_enter Try.func53 rfl Try.ntmps53 [(0, .string s)] ⟨rfl, trivial⟩ rfl ?_; intro a HF
 refine wp_sr ?_
 refine wl_as HF rfl rfl rfl rfl rfl ?_; clear HF a; intro a HF
 refine wl_ne ?_
 refine wp_sr ?_
 refine wl_mv HF rfl rfl rfl rfl rfl ?_; clear HF a; intro a HF
 refine wl_y rfl HF rfl rfl (yl_lenS rfl (HF.ev rfl) (by kernel_rfl)) ?_; clear HF a; intro a HF
 refine wl_callB rfl HF rfl (enter_of Try.func82 (by kernel_rfl) rfl) (args := #[.int .i64 (s.size : Int), .int .i64 1, .int .i64 128]) rfl (v := .bool (inB (s.size : Int) 1 128)) (((l6In_any (s.size : Int) 1 128 _).mono fun _ _ h => ⟨h.1, h.2 ▸ Below.refl _ _⟩)) rfl rfl HS.out ?_; clear HF HS a; intro w1 a HS HF; replace HS := Bx.mk HS
 refine wl_as HF rfl rfl rfl rfl rfl ?_; clear HF a; intro a HF
 refine wl_ne ?_
 refine wp_ret ?_
 refine bp_ret1 HF Try.results53 (HF.res rfl) ?_
 exact ⟨rfl, HS.out.bel⟩

theorem ptrOfI_any (at_ birth level : Int) (s : ByteArray) (w0 : World) (hs : s.size ≤ 9223372036854775806) : Calls Try.prog 14 #[.int .i64 at_, .int .i64 birth, .int .i64 level, .string s] w0 fun e w' => e = .returned (.tuple #[.agg #[.int .i64 (ptrOf at_ birth level s).fAt, .int .i64 (ptrOf at_ birth level s).fBirth, .int .i64 (ptrOf at_ birth level s).fSize, .int .i64 (ptrOf at_ birth level s).fSum, .int .i64 (ptrOf at_ birth level s).fLevel], .bool (ptrOk at_ birth level s)]) ∧ Below w0.heap.size w0 w' := by
 have HS := Bx.mk (St.start w0)
 refine wc_enter Try.func14 rfl Try.ntmps14 [(0, .int .i64 at_), (1, .int .i64 birth), (2, .int .i64 level), (3, .string s)] ⟨rfl, rfl, rfl, rfl, trivial⟩ rfl ?_; intro a HF
 refine wp_sr ?_
 refine wl_alloc rfl HF rfl rfl rfl (Z := [.int .i64 0, .int .i64 0, .int .i64 0, .int .i64 0, .int .i64 0]) (by kernel_rfl) rfl HS.out ?_; clear HF HS a; intro a w1 b1 HF HS; replace HS := Bx.mk HS
 refine wl_as HF rfl rfl rfl rfl rfl ?_; clear HF a; intro a HF
 refine wl_ne ?_
 refine wp_sr ?_
 refine wl_mv HF rfl rfl rfl rfl rfl ?_; clear HF a; intro a HF
 refine wl_mv HF rfl rfl rfl rfl rfl ?_; clear HF a; intro a HF
 refine wl_mv HF rfl rfl rfl rfl rfl ?_; clear HF a; intro a HF
 refine wl_y rfl HF rfl rfl (yl_lenS rfl (HF.ev rfl) (by kernel_rfl)) ?_; clear HF a; intro a HF
 refine wl_mv HF rfl rfl rfl rfl rfl ?_; clear HF a; intro a HF
 refine wl_callB rfl HF rfl (enter_of Try.func58 (by kernel_rfl) rfl) (args := #[.string s]) rfl (v := .int .i64 (sumOf s)) (sumOfI_any s _ (by omega)) rfl rfl HS.out ?_; clear HF HS a; intro w2 a HS HF; replace HS := Bx.mk HS
 refine wl_mv HF rfl rfl rfl rfl rfl ?_; clear HF a; intro a HF
 refine wl_y rfl HF rfl rfl (yl_build HF rfl (ps := [(0, .int .i64 at_), (1, .int .i64 birth), (2, .int .i64 (s.size : Int)), (3, .int .i64 (sumOf s)), (4, .int .i64 level)]) rfl (cs := #[.int .i64 at_, .int .i64 birth, .int .i64 (s.size : Int), .int .i64 (sumOf s), .int .i64 level]) (by kernel_rfl)) ?_; clear HF a; intro a HF
 refine wl_alloc rfl HF rfl rfl rfl (Z := [.int .i64 0, .int .i64 0, .int .i64 0, .int .i64 0, .int .i64 0]) (by kernel_rfl) rfl HS.out ?_; clear HF HS a; intro a w3 b2 HF HS; replace HS := Bx.mk HS
 refine wl_storeBox rfl HF rfl rfl (HF.ev rfl) (HF.ev rfl) HS.out 0 rfl (cells_lit [.int .i64 at_, .int .i64 birth, .int .i64 (s.size : Int), .int .i64 (sumOf s), .int .i64 level] rfl rfl) (by kernel_rfl) ?_; clear HS; intro w4 HS; replace HS := Bx.mk HS
 have HS : Bx (St w0 ([boxA b2 5 33 (.agg #[.int .i64 at_, .int .i64 birth, .int .i64 (s.size : Int), .int .i64 (sumOf s), .int .i64 level]), boxA b1 5 33 (.agg #[.int .i64 0, .int .i64 0, .int .i64 0, .int .i64 0, .int .i64 0])]) _) := HS
 refine wl_ne ?_
 refine wp_seq ?_
 refine wp_sr ?_
 refine wl_mv HF rfl rfl rfl rfl rfl ?_; clear HF a; intro a HF
 refine wl_callB rfl HF rfl (enter_of Try.func59 (by kernel_rfl) rfl) (args := #[.string s]) rfl (v := .bool (inB (s.size : Int) 1 128)) (isBlock_any s _ (by omega)) rfl rfl HS.out ?_; clear HF HS a; intro w5 a HS HF; replace HS := Bx.mk HS
 refine wl_y rfl HF rfl rfl (yl_not rfl (HF.ev rfl)) ?_; clear HF a; intro a HF
 refine wl_mv HF rfl rfl rfl rfl rfl ?_; clear HF a; intro a HF
 refine HF.cases 22 rfl (fun cc1 HF1 => ?_) (fun cc1 HF1 => ?_)
 ·clear HF; have HF := HF1; clear HF1
  -- !(inB (s.size : Int) 1 128)
  refine wl_skip HF rfl rfl rfl rfl rfl rfl ?_; clear HF a; intro a HF
  refine wl_skip HF rfl rfl rfl rfl rfl rfl ?_; clear HF a; intro a HF
  refine wl_skip HF rfl rfl rfl rfl rfl rfl ?_; clear HF a; intro a HF
  refine wl_y rfl HF rfl rfl (yl_pick_t rfl (HF.ev rfl) (HF.ev rfl)) ?_; clear HF a; intro a HF
  refine wl_ne ?_
  refine wc_true HF rfl ?_
  refine wp_sr ?_
  refine wl_y rfl HF rfl rfl (yl_build HF rfl (ps := []) rfl (cs := #[.int .i64 0, .int .i64 0, .int .i64 0, .int .i64 0, .int .i64 0]) (by kernel_rfl)) ?_; clear HF a; intro a HF
  refine wl_storeBox rfl HF rfl rfl (HF.ev rfl) (HF.ev rfl) HS.out 1 rfl (cells_lit [.int .i64 0, .int .i64 0, .int .i64 0, .int .i64 0, .int .i64 0] rfl rfl) (by kernel_rfl) ?_; clear HS; intro w6 HS; replace HS := Bx.mk HS
  have HS : Bx (St w0 ([boxA b2 5 33 (.agg #[.int .i64 at_, .int .i64 birth, .int .i64 (s.size : Int), .int .i64 (sumOf s), .int .i64 level]), boxA b1 5 33 (.agg #[.int .i64 0, .int .i64 0, .int .i64 0, .int .i64 0, .int .i64 0])]) _) := HS
  refine wl_as HF rfl rfl rfl rfl rfl ?_; clear HF a; intro a HF
  refine wl_ne ?_
  refine wp_ret ?_
  refine ex_then_ret ?_
  refine bp_ret2 HF Try.results14 (HF.resBox rfl (HS.out.box 1 rfl) (by kernel_rfl)) (HF.res rfl) ?_
  have cc1 := (Bool.not_eq_eq_eq_not.1 cc1)
  have hk : ptrOk at_ birth level s = false := by
   unfold ptrOk ptrAt
   rw [cc1]; rfl
  refine ⟨?_, HS.out.bel⟩
  rw [ptrOf_no hk, hk]; rfl
 ·clear HF; have HF := HF1; clear HF1
  -- !(inB (s.size : Int) 1 128)
  refine wl_yg HF rfl rfl rfl rfl rfl (yl_loadR (cs := [.int .i64 at_, .int .i64 birth, .int .i64 (s.size : Int), .int .i64 (sumOf s), .int .i64 level]) rfl (HF.ev rfl) ((HS.out.box 0 rfl).sub 0 5) (by kernel_rfl)) ?_; clear HF a; intro a HF
  refine wl_callBg HF rfl rfl rfl rfl (enter_of Try.func60 (by kernel_rfl) rfl) (args := #[.agg #[.int .i64 at_, .int .i64 birth, .int .i64 (s.size : Int), .int .i64 (sumOf s), .int .i64 level]]) rfl (v := .bool (({ fAt := at_, fBirth := birth, fSize := (s.size : Int), fSum := sumOf s, fLevel := level } : PtrD).ok)) (implPtrOk_any ({ fAt := at_, fBirth := birth, fSize := (s.size : Int), fSum := sumOf s, fLevel := level } : PtrD) _) rfl rfl HS.out ?_; clear HF HS a; intro w7 a HS HF; replace HS := Bx.mk HS
  refine wl_yg HF rfl rfl rfl rfl rfl (yl_not rfl (HF.ev rfl)) ?_; clear HF a; intro a HF
  refine wl_y rfl HF rfl rfl (yl_pick_f rfl (HF.ev rfl) (HF.ev rfl)) ?_; clear HF a; intro a HF
  refine wl_ne ?_
  refine HF.cases 26 rfl (fun cc2 HF1 => ?_) (fun cc2 HF1 => ?_)
  ·clear HF; have HF := HF1; clear HF1
   -- !(({ fAt := at_, fBirth := birth, fSize := (s.size : Int), fSum := sumOf s, fLevel := level } : PtrD).ok)
   refine wc_true HF rfl ?_
   refine wp_sr ?_
   refine wl_y rfl HF rfl rfl (yl_build HF rfl (ps := []) rfl (cs := #[.int .i64 0, .int .i64 0, .int .i64 0, .int .i64 0, .int .i64 0]) (by kernel_rfl)) ?_; clear HF a; intro a HF
   refine wl_storeBox rfl HF rfl rfl (HF.ev rfl) (HF.ev rfl) HS.out 1 rfl (cells_lit [.int .i64 0, .int .i64 0, .int .i64 0, .int .i64 0, .int .i64 0] rfl rfl) (by kernel_rfl) ?_; clear HS; intro w8 HS; replace HS := Bx.mk HS
   have HS : Bx (St w0 ([boxA b2 5 33 (.agg #[.int .i64 at_, .int .i64 birth, .int .i64 (s.size : Int), .int .i64 (sumOf s), .int .i64 level]), boxA b1 5 33 (.agg #[.int .i64 0, .int .i64 0, .int .i64 0, .int .i64 0, .int .i64 0])]) _) := HS
   refine wl_as HF rfl rfl rfl rfl rfl ?_; clear HF a; intro a HF
   refine wl_ne ?_
   refine wp_ret ?_
   refine ex_then_ret ?_
   refine bp_ret2 HF Try.results14 (HF.resBox rfl (HS.out.box 1 rfl) (by kernel_rfl)) (HF.res rfl) ?_
   have cc1 := (Bool.not_eq_eq_eq_not.1 cc1)
   have cc2 := (Bool.not_eq_eq_eq_not.1 cc2)
   have hk : ptrOk at_ birth level s = false := by
    unfold ptrOk ptrAt
    rw [cc1, cc2]; rfl
   refine ⟨?_, HS.out.bel⟩
   rw [ptrOf_no hk, hk]; rfl
  ·clear HF; have HF := HF1; clear HF1
   -- !(({ fAt := at_, fBirth := birth, fSize := (s.size : Int), fSum := sumOf s, fLevel := level } : PtrD).ok)
   refine wc_false HF rfl ?_
   refine wp_skip ?_
   refine ex_then ?_
   refine wp_sr ?_
   refine wl_y rfl HF rfl rfl (yl_loadR (cs := [.int .i64 at_, .int .i64 birth, .int .i64 (s.size : Int), .int .i64 (sumOf s), .int .i64 level]) rfl (HF.ev rfl) ((HS.out.box 0 rfl).sub 0 5) (by kernel_rfl)) ?_; clear HF a; intro a HF
   refine wl_storeBox rfl HF rfl rfl (HF.ev rfl) (HF.ev rfl) HS.out 1 rfl (cells_lit [.int .i64 at_, .int .i64 birth, .int .i64 (s.size : Int), .int .i64 (sumOf s), .int .i64 level] rfl rfl) (by kernel_rfl) ?_; clear HS; intro w9 HS; replace HS := Bx.mk HS
   have HS : Bx (St w0 ([boxA b2 5 33 (.agg #[.int .i64 at_, .int .i64 birth, .int .i64 (s.size : Int), .int .i64 (sumOf s), .int .i64 level]), boxA b1 5 33 (.agg #[.int .i64 at_, .int .i64 birth, .int .i64 (s.size : Int), .int .i64 (sumOf s), .int .i64 level])]) _) := HS
   refine wl_as HF rfl rfl rfl rfl rfl ?_; clear HF a; intro a HF
   refine wl_ne ?_
   refine wp_ret ?_
   refine bp_ret2 HF Try.results14 (HF.resBox rfl (HS.out.box 1 rfl) (by kernel_rfl)) (HF.res rfl) ?_
   have cc1 := (Bool.not_eq_eq_eq_not.1 cc1)
   have cc2 := (Bool.not_eq_eq_eq_not.1 cc2)
   have hk : ptrOk at_ birth level s = true := by
    unfold ptrOk ptrAt
    rw [cc1, cc2]; rfl
   refine ⟨?_, HS.out.bel⟩
   rw [ptrOf_yes hk, hk]; rfl

theorem ptrOfS_any (at_ birth level : Int) (s : ByteArray) (w0 : World) (hs : s.size ≤ 9223372036854775806) : Calls Try.prog 112 #[.int .i64 at_, .int .i64 birth, .int .i64 level, .string s] w0 fun e w' => e = .returned (.tuple #[.agg #[.int .i64 (ptrOf at_ birth level s).fAt, .int .i64 (ptrOf at_ birth level s).fBirth, .int .i64 (ptrOf at_ birth level s).fSize, .int .i64 (ptrOf at_ birth level s).fSum, .int .i64 (ptrOf at_ birth level s).fLevel], .bool (ptrOk at_ birth level s)]) ∧ Below w0.heap.size w0 w' := by
 have HS := Bx.mk (St.start w0)
 refine wc_enter Try.func112 rfl Try.ntmps112 [(0, .int .i64 at_), (1, .int .i64 birth), (2, .int .i64 level), (3, .string s)] ⟨rfl, rfl, rfl, rfl, trivial⟩ rfl ?_; intro a HF
 refine wp_sr ?_
 refine wl_alloc rfl HF rfl rfl rfl (Z := [.int .i64 0, .int .i64 0, .int .i64 0, .int .i64 0, .int .i64 0]) (by kernel_rfl) rfl HS.out ?_; clear HF HS a; intro a w1 b1 HF HS; replace HS := Bx.mk HS
 refine wl_as HF rfl rfl rfl rfl rfl ?_; clear HF a; intro a HF
 refine wl_ne ?_
 refine wp_sr ?_
 refine wl_mv HF rfl rfl rfl rfl rfl ?_; clear HF a; intro a HF
 refine wl_mv HF rfl rfl rfl rfl rfl ?_; clear HF a; intro a HF
 refine wl_mv HF rfl rfl rfl rfl rfl ?_; clear HF a; intro a HF
 refine wl_y rfl HF rfl rfl (yl_lenS rfl (HF.ev rfl) (by kernel_rfl)) ?_; clear HF a; intro a HF
 refine wl_mv HF rfl rfl rfl rfl rfl ?_; clear HF a; intro a HF
 refine wl_y rfl HF rfl rfl (yl_build HF rfl (ps := [(0, .int .i64 at_), (1, .int .i64 birth), (2, .int .i64 (s.size : Int)), (4, .int .i64 level)]) rfl (cs := #[.int .i64 at_, .int .i64 birth, .int .i64 (s.size : Int), .int .i64 0, .int .i64 level]) (by kernel_rfl)) ?_; clear HF a; intro a HF
 refine wl_alloc rfl HF rfl rfl rfl (Z := [.int .i64 0, .int .i64 0, .int .i64 0, .int .i64 0, .int .i64 0]) (by kernel_rfl) rfl HS.out ?_; clear HF HS a; intro a w2 b2 HF HS; replace HS := Bx.mk HS
 refine wl_storeBox rfl HF rfl rfl (HF.ev rfl) (HF.ev rfl) HS.out 0 rfl (cells_lit [.int .i64 at_, .int .i64 birth, .int .i64 (s.size : Int), .int .i64 0, .int .i64 level] rfl rfl) (by kernel_rfl) ?_; clear HS; intro w3 HS; replace HS := Bx.mk HS
 have HS : Bx (St w0 ([boxA b2 5 33 (.agg #[.int .i64 at_, .int .i64 birth, .int .i64 (s.size : Int), .int .i64 0, .int .i64 level]), boxA b1 5 33 (.agg #[.int .i64 0, .int .i64 0, .int .i64 0, .int .i64 0, .int .i64 0])]) _) := HS
 refine wl_ne ?_
 refine wp_seq ?_
 refine wp_sr ?_
 refine wl_mv HF rfl rfl rfl rfl rfl ?_; clear HF a; intro a HF
 refine wl_callB rfl HF rfl (enter_of Try.func53 (by kernel_rfl) rfl) (args := #[.string s]) rfl (v := .bool (inB (s.size : Int) 1 128)) (l2Block_any s _ (by omega)) rfl rfl HS.out ?_; clear HF HS a; intro w4 a HS HF; replace HS := Bx.mk HS
 refine wl_y rfl HF rfl rfl (yl_not rfl (HF.ev rfl)) ?_; clear HF a; intro a HF
 refine wl_ne ?_
 refine HF.cases 19 rfl (fun cc1 HF1 => ?_) (fun cc1 HF1 => ?_)
 ·clear HF; have HF := HF1; clear HF1
  -- !(inB (s.size : Int) 1 128)
  refine wc_true HF rfl ?_
  refine wp_sr ?_
  refine wl_y rfl HF rfl rfl (yl_build HF rfl (ps := []) rfl (cs := #[.int .i64 0, .int .i64 0, .int .i64 0, .int .i64 0, .int .i64 0]) (by kernel_rfl)) ?_; clear HF a; intro a HF
  refine wl_storeBox rfl HF rfl rfl (HF.ev rfl) (HF.ev rfl) HS.out 1 rfl (cells_lit [.int .i64 0, .int .i64 0, .int .i64 0, .int .i64 0, .int .i64 0] rfl rfl) (by kernel_rfl) ?_; clear HS; intro w5 HS; replace HS := Bx.mk HS
  have HS : Bx (St w0 ([boxA b2 5 33 (.agg #[.int .i64 at_, .int .i64 birth, .int .i64 (s.size : Int), .int .i64 0, .int .i64 level]), boxA b1 5 33 (.agg #[.int .i64 0, .int .i64 0, .int .i64 0, .int .i64 0, .int .i64 0])]) _) := HS
  refine wl_as HF rfl rfl rfl rfl rfl ?_; clear HF a; intro a HF
  refine wl_ne ?_
  refine wp_ret ?_
  refine ex_then_ret ?_
  refine bp_ret2 HF Try.results112 (HF.resBox rfl (HS.out.box 1 rfl) (by kernel_rfl)) (HF.res rfl) ?_
  have cc1 := (Bool.not_eq_eq_eq_not.1 cc1)
  have hk : ptrOk at_ birth level s = false := by
   unfold ptrOk ptrAt
   rw [cc1]; rfl
  refine ⟨?_, HS.out.bel⟩
  rw [ptrOf_no hk, hk]; rfl
 ·clear HF; have HF := HF1; clear HF1
  -- !(inB (s.size : Int) 1 128)
  refine wc_false HF rfl ?_
  refine wp_skip ?_
  refine ex_then ?_
  refine wp_sr ?_
  refine wl_mv HF rfl rfl rfl rfl rfl ?_; clear HF a; intro a HF
  refine wl_callB rfl HF rfl (enter_of Try.func159 (by kernel_rfl) rfl) (args := #[.string s]) rfl (v := .int .i64 (sumOf s)) (sumOfS_any s _ (by omega)) rfl rfl HS.out ?_; clear HF HS a; intro w6 a HS HF; replace HS := Bx.mk HS
  refine wl_y rfl HF rfl rfl (yl_fieldAddr (j := 3) rfl (HF.ev rfl) (by kernel_rfl)) ?_; clear HF a; intro a HF
  refine wl_storeF rfl rfl rfl (HF.ev rfl) (HF.ev rfl) (by kernel_rfl) HS.out 0 rfl rfl rfl ?_; clear HS; intro w7 HS; replace HS := Bx.mk HS
  have HS : Bx (St w0 ([boxA b2 5 33 (.agg #[.int .i64 at_, .int .i64 birth, .int .i64 (s.size : Int), .int .i64 (sumOf s), .int .i64 level]), boxA b1 5 33 (.agg #[.int .i64 0, .int .i64 0, .int .i64 0, .int .i64 0, .int .i64 0])]) _) := HS
  refine wl_ne ?_
  refine wp_seq ?_
  refine wp_sr ?_
  refine wl_y rfl HF rfl rfl (yl_loadR (cs := [.int .i64 at_, .int .i64 birth, .int .i64 (s.size : Int), .int .i64 (sumOf s), .int .i64 level]) rfl (HF.ev rfl) ((HS.out.box 0 rfl).sub 0 5) (by kernel_rfl)) ?_; clear HF a; intro a HF
  refine wl_callB rfl HF rfl (enter_of Try.func101 (by kernel_rfl) rfl) (args := #[.agg #[.int .i64 at_, .int .i64 birth, .int .i64 (s.size : Int), .int .i64 (sumOf s), .int .i64 level]]) rfl (v := .bool (({ fAt := at_, fBirth := birth, fSize := (s.size : Int), fSum := sumOf s, fLevel := level } : PtrD).ok)) (specPtrOk_any ({ fAt := at_, fBirth := birth, fSize := (s.size : Int), fSum := sumOf s, fLevel := level } : PtrD) _) rfl rfl HS.out ?_; clear HF HS a; intro w8 a HS HF; replace HS := Bx.mk HS
  refine wl_y rfl HF rfl rfl (yl_not rfl (HF.ev rfl)) ?_; clear HF a; intro a HF
  refine wl_ne ?_
  refine HF.cases 26 rfl (fun cc2 HF1 => ?_) (fun cc2 HF1 => ?_)
  ·clear HF; have HF := HF1; clear HF1
   -- !(({ fAt := at_, fBirth := birth, fSize := (s.size : Int), fSum := sumOf s, fLevel := level } : PtrD).ok)
   refine wc_true HF rfl ?_
   refine wp_sr ?_
   refine wl_y rfl HF rfl rfl (yl_build HF rfl (ps := []) rfl (cs := #[.int .i64 0, .int .i64 0, .int .i64 0, .int .i64 0, .int .i64 0]) (by kernel_rfl)) ?_; clear HF a; intro a HF
   refine wl_storeBox rfl HF rfl rfl (HF.ev rfl) (HF.ev rfl) HS.out 1 rfl (cells_lit [.int .i64 0, .int .i64 0, .int .i64 0, .int .i64 0, .int .i64 0] rfl rfl) (by kernel_rfl) ?_; clear HS; intro w9 HS; replace HS := Bx.mk HS
   have HS : Bx (St w0 ([boxA b2 5 33 (.agg #[.int .i64 at_, .int .i64 birth, .int .i64 (s.size : Int), .int .i64 (sumOf s), .int .i64 level]), boxA b1 5 33 (.agg #[.int .i64 0, .int .i64 0, .int .i64 0, .int .i64 0, .int .i64 0])]) _) := HS
   refine wl_as HF rfl rfl rfl rfl rfl ?_; clear HF a; intro a HF
   refine wl_ne ?_
   refine wp_ret ?_
   refine ex_then_ret ?_
   refine bp_ret2 HF Try.results112 (HF.resBox rfl (HS.out.box 1 rfl) (by kernel_rfl)) (HF.res rfl) ?_
   have cc1 := (Bool.not_eq_eq_eq_not.1 cc1)
   have cc2 := (Bool.not_eq_eq_eq_not.1 cc2)
   have hk : ptrOk at_ birth level s = false := by
    unfold ptrOk ptrAt
    rw [cc1, cc2]; rfl
   refine ⟨?_, HS.out.bel⟩
   rw [ptrOf_no hk, hk]; rfl
  ·clear HF; have HF := HF1; clear HF1
   -- !(({ fAt := at_, fBirth := birth, fSize := (s.size : Int), fSum := sumOf s, fLevel := level } : PtrD).ok)
   refine wc_false HF rfl ?_
   refine wp_skip ?_
   refine ex_then ?_
   refine wp_sr ?_
   refine wl_y rfl HF rfl rfl (yl_loadR (cs := [.int .i64 at_, .int .i64 birth, .int .i64 (s.size : Int), .int .i64 (sumOf s), .int .i64 level]) rfl (HF.ev rfl) ((HS.out.box 0 rfl).sub 0 5) (by kernel_rfl)) ?_; clear HF a; intro a HF
   refine wl_storeBox rfl HF rfl rfl (HF.ev rfl) (HF.ev rfl) HS.out 1 rfl (cells_lit [.int .i64 at_, .int .i64 birth, .int .i64 (s.size : Int), .int .i64 (sumOf s), .int .i64 level] rfl rfl) (by kernel_rfl) ?_; clear HS; intro w10 HS; replace HS := Bx.mk HS
   have HS : Bx (St w0 ([boxA b2 5 33 (.agg #[.int .i64 at_, .int .i64 birth, .int .i64 (s.size : Int), .int .i64 (sumOf s), .int .i64 level]), boxA b1 5 33 (.agg #[.int .i64 at_, .int .i64 birth, .int .i64 (s.size : Int), .int .i64 (sumOf s), .int .i64 level])]) _) := HS
   refine wl_as HF rfl rfl rfl rfl rfl ?_; clear HF a; intro a HF
   refine wl_ne ?_
   refine wp_ret ?_
   refine bp_ret2 HF Try.results112 (HF.resBox rfl (HS.out.box 1 rfl) (by kernel_rfl)) (HF.res rfl) ?_
   have cc1 := (Bool.not_eq_eq_eq_not.1 cc1)
   have cc2 := (Bool.not_eq_eq_eq_not.1 cc2)
   have hk : ptrOk at_ birth level s = true := by
    unfold ptrOk ptrAt
    rw [cc1, cc2]; rfl
   refine ⟨?_, HS.out.bel⟩
   rw [ptrOf_yes hk, hk]; rfl

end Go.Proofs.Ytfijfjjleelphaa

/- Columns of blocks, walked. -/
namespace Go.Proofs.Ytfijfjjleelphaa
set_option maxHeartbeats 1000000
set_option maxRecDepth 100000
open Go.RowKit

theorem elemB : ElemT Try.prog 22 5 1 1 := by
  obtain ⟨i0, hi, hz0, hz1, hz2⟩ := info_parts (P := Try.prog) (e := 5) (z := .int .u8 0) (size := 1) (bytes := 1) (by kernel_rfl)
  exact ⟨Try.underlying22, ⟨i0, _, hi, hz0, hz1, hz2, rfl⟩, by decide⟩
/-- The exclusive or, so far. -/
def xorTo (a b : List UInt8) (n k : Nat) : List UInt8 := (List.range n).map fun i => if i < k then a.getD i 0 ^^^ b.getD i 0 else a.getD i 0
theorem xorTo_len (a b : List UInt8) (n k : Nat) : (xorTo a b n k).length = n := by simp [xorTo]
theorem xorTo_get (a b : List UInt8) (n k i : Nat) (hi : i < n) : (xorTo a b n k).getD i 0 = if i < k then a.getD i 0 ^^^ b.getD i 0 else a.getD i 0 := by
  simp [xorTo, List.getD, hi]
theorem getD_ext {xs ys : List UInt8} (hl : xs.length = ys.length) (h : ∀ i, i < xs.length → xs.getD i 0 = ys.getD i 0) : xs = ys := by
  apply List.ext_getElem hl
  intro i h1 h2
  have := h i h1
  simpa [List.getD, h1, h2] using this
theorem xorTo_zero (a b : List UInt8) (n m : Nat) (hm : m = a.length) : a.take n ++ (List.replicate n (0 : UInt8)).drop m = xorTo a b n 0 := by
  subst hm
  apply getD_ext
  · rw [xorTo_len, List.length_append, List.length_take, List.length_drop, List.length_replicate]; omega
  · intro i hi
    have hi' : i < n := by rw [List.length_append, List.length_take, List.length_drop, List.length_replicate] at hi; omega
    rw [xorTo_get _ _ _ _ _ hi', if_neg (by omega)]
    simp only [List.getD_eq_getElem?_getD]
    by_cases h : i < a.length
    · rw [List.getElem?_append_left (by rw [List.length_take]; omega), List.getElem?_take, if_pos hi']
    · rw [List.getElem?_append_right (by rw [List.length_take]; omega), List.getElem?_drop, List.getElem?_replicate, List.getElem?_eq_none (l := a) (by omega)]
      split <;> rfl
theorem xorTo_step (a b : List UInt8) (n k : Nat) (hk : k < n) (x : UInt8) (hx : x = b.getD k 0) : (xorTo a b n k).set k ((xorTo a b n k).getD k 0 ^^^ x) = xorTo a b n (k + 1) := by
  apply getD_ext
  · rw [List.length_set, xorTo_len, xorTo_len]
  · intro i hi
    rw [List.length_set, xorTo_len] at hi
    rw [xorTo_get _ _ _ _ _ hi]
    by_cases h : i = k
    · subst h
      rw [if_pos (by omega), xorTo_get _ _ _ _ _ hk, if_neg (by omega), hx]
      simp [List.getD, xorTo_len, hi]
    · have e1 : ((xorTo a b n k).set k ((xorTo a b n k).getD k 0 ^^^ x)).getD i 0 = (xorTo a b n k).getD i 0 := by
        simp only [List.getD_eq_getElem?_getD]
        rw [List.getElem?_set_ne (by omega)]
      rw [e1, xorTo_get _ _ _ _ _ hi]
      by_cases h2 : i < k
      · rw [if_pos h2, if_pos (by omega)]
      · rw [if_neg h2, if_neg (by omega)]
theorem xorTo_end (a b : List UInt8) (n k : Nat) (hk : n ≤ k ∨ b.length ≤ k) : xorTo a b n k = xorL a b n := by
  apply getD_ext
  · rw [xorTo_len, xorL_len]
  · intro i hi
    rw [xorTo_len] at hi
    rw [xorTo_get _ _ _ _ _ hi, xorL_get _ _ _ _ hi]
    split
    · rfl
    · have : b.getD i 0 = 0 := by simp only [List.getD_eq_getElem?_getD]; rw [List.getElem?_eq_none (by omega)]; rfl
      rw [this, UInt8.xor_zero]

theorem halfI_any (n : Nat) (w0 : World) (hn : n ≤ 1048576) : Calls Try.prog 70 #[.int .i64 (n : Int)] w0 fun e w' => e = .returned (.int .i64 ((half n : Nat) : Int)) ∧ Below w0.heap.size w0 w' := by
 have HS := Bx.mk (St.start w0)
 refine wc_enter Try.func70 rfl Try.ntmps70 [(0, .int .i64 (n : Int))] ⟨rfl, trivial⟩ rfl ?_; intro a HF
 refine wp_sr ?_
 refine wl_as HF rfl rfl rfl rfl rfl ?_; clear HF a; intro a HF
 refine wl_ne ?_
 refine wp_sr ?_
 refine wl_mv HF rfl rfl rfl rfl rfl ?_; clear HF a; intro a HF
 refine wl_y rfl HF rfl rfl (yl_addI rfl (HF.ev rfl) (HF.ev rfl) (i64w (by omega))) ?_; clear HF a; intro a HF
 refine wl_y rfl HF rfl rfl (yl_quoI rfl (HF.ev rfl) (HF.ev rfl) (by omega) (quo_pos (by omega) (by omega) (by omega))) ?_; clear HF a; intro a HF
 refine wl_as HF rfl rfl rfl rfl rfl ?_; clear HF a; intro a HF
 refine wl_ne ?_
 refine wp_ret ?_
 refine bp_ret1 HF Try.results70 (HF.res rfl) ?_
 exact ⟨by rw [show ((half n : Nat) : Int) = ((n : Int) + 1) / 2 by unfold half; omega], HS.out.bel⟩

theorem halfS_any (n : Nat) (w0 : World) (hn : n ≤ 1048576) : Calls Try.prog 125 #[.int .i64 (n : Int)] w0 fun e w' => e = .returned (.int .i64 ((half n : Nat) : Int)) ∧ Below w0.heap.size w0 w' := by
 have HS := Bx.mk (St.start w0)
 refine wc_enter Try.func125 rfl Try.ntmps125 [(0, .int .i64 (n : Int))] ⟨rfl, trivial⟩ rfl ?_; intro a HF
 refine wp_sr ?_
 refine wl_as HF rfl rfl rfl rfl rfl ?_; clear HF a; intro a HF
 refine wl_ne ?_
 refine wp_sr ?_
 refine wl_mv HF rfl rfl rfl rfl rfl ?_; clear HF a; intro a HF
 refine wl_y rfl HF rfl rfl (yl_addI rfl (HF.ev rfl) (HF.ev rfl) (i64w (by omega))) ?_; clear HF a; intro a HF
 refine wl_y rfl HF rfl rfl (yl_quoI rfl (HF.ev rfl) (HF.ev rfl) (by omega) (quo_pos (by omega) (by omega) (by omega))) ?_; clear HF a; intro a HF
 refine wl_as HF rfl rfl rfl rfl rfl ?_; clear HF a; intro a HF
 refine wl_ne ?_
 refine wp_ret ?_
 refine bp_ret1 HF Try.results125 (HF.res rfl) ?_
 exact ⟨by rw [show ((half n : Nat) : Int) = ((n : Int) + 1) / 2 by unfold half; omega], HS.out.bel⟩

theorem xor_any (p q : ByteArray) (n : Nat) (w0 : World) (hn : 0 < n) (hl : n ≤ 1048576) (hq : q.size ≤ 9223372036854775806) : Calls Try.prog 71 #[.string p, .string q, .int .i64 (n : Int)] w0 fun e w' => e = .returned (.string (xorB p q n)) ∧ Below w0.heap.size w0 w' := by
 have HS := Bx.mk (St.start w0)
 refine wc_enter Try.func71 rfl Try.ntmps71 [(0, .string p), (1, .string q), (2, .int .i64 (n : Int))] ⟨rfl, rfl, rfl, trivial⟩ rfl ?_; intro a HF
 refine wp_sr ?_
 refine wl_as HF rfl rfl rfl rfl rfl ?_; clear HF a; intro a HF
 refine wl_ne ?_
 refine wp_sr ?_
 refine wl_mv HF rfl rfl rfl rfl rfl ?_; clear HF a; intro a HF
 refine wl_makeS (enc := encB) (n := n) rfl HF rfl rfl rfl elemB (HF.ev rfl) (HF.ev rfl) (by omega) (by omega) (by omega) (by unfold maxLen; omega) (0 : UInt8) (by kernel_rfl) rfl rfl HS.out ?_; clear HF HS a; intro b1 a w1 HF HS; replace HS := Bx.mk HS
 refine wl_as HF rfl rfl rfl rfl rfl ?_; clear HF a; intro a HF
 refine wl_ne ?_
 refine wp_sr ?_
 refine wl_mv HF rfl rfl rfl rfl rfl ?_; clear HF a; intro a HF
 refine wl_mv HF rfl rfl rfl rfl rfl ?_; clear HF a; intro a HF
 refine wl_copyBS rfl HF rfl rfl rfl (HF.ev rfl) (HF.ev rfl) (by kernel_rfl) HS.out 0 rfl (by omega) ?_; clear HF HS a; intro w2 a HF HS; replace HS := Bx.mk HS
 replace HS : Bx (St w0 ([rowA encB 1 5 (.slice (some ⟨b1, 0, none⟩) n n) (p.data.toList.take n ++ (List.replicate n (0 : UInt8)).drop p.size)]) _) := ⟨HS.out⟩
 refine wl_ne ?_
 refine wp_seq ?_
 refine wp_sr ?_
 refine wl_mv HF rfl rfl rfl rfl rfl ?_; clear HF a; intro a HF
 refine wl_mv HF rfl rfl rfl rfl rfl ?_; clear HF a; intro a HF
 refine wl_y rfl HF rfl rfl (yl_lenS rfl (HF.ev rfl) (by kernel_rfl)) ?_; clear HF a; intro a HF
 refine wl_y rfl HF rfl rfl (yl_minI rfl (HF.ev rfl) (HF.ev rfl)) ?_; clear HF a; intro a HF
 refine wl_mv HF rfl rfl rfl rfl rfl ?_; clear HF a; intro a HF
 refine wl_ne ?_
 refine wp_block ?_
 rw [xorTo_zero _ q.data.toList _ _ (size_list p)] at HS
 refine wc_loop (ι := Nat) (fun k a w => (k ≤ n ∧ k ≤ q.size) ∧ Fr 33 a [(1, .string q), (7, .slice (some ⟨b1, 0, none⟩) n n), (17, .int .i64 (min (n : Int) (q.size : Int))), (18, .int .i64 (k : Int))] ∧ St w0 ([rowA encB 1 5 (.slice (some ⟨b1, 0, none⟩) n n) (xorTo p.data.toList q.data.toList n k)]) w) (fun k => n - k) 0 ⟨⟨by omega, by omega⟩, HF.less _ ⟨rfl, rfl, rfl, rfl, trivial⟩, HS.out⟩ ?_
 clear HF HS; clear a
 rintro k a w3 ⟨⟨hk, hk2⟩, HF, HS⟩
 replace HS := Bx.mk HS
 refine wp_sr ?_
 refine wl_y rfl HF rfl rfl (yl_lssI rfl (HF.ev rfl) (HF.ev rfl)) ?_; clear HF a; intro a HF
 refine wl_ne ?_
 refine wp_seq ?_
 refine HF.cases 19 rfl (fun cc1 HF1 => ?_) (fun cc1 HF1 => ?_)
 ·clear HF; have HF := HF1; clear HF1
  have cc1 := of_decide_eq_true cc1
  have hxl := xorTo_len p.data.toList q.data.toList n k
  refine wc_true HF rfl ?_
  refine wp_skip ?_
  refine ex_then ?_
  refine wp_seq ?_
  refine wp_block ?_
  refine wp_sr ?_
  refine wl_mv HF rfl rfl rfl rfl rfl ?_; clear HF a; intro a HF
  refine wl_as HF rfl rfl rfl rfl rfl ?_; clear HF a; intro a HF
  refine wl_ne ?_
  refine wr_tail 9 (by kernel_rfl) (by kernel_rfl) HS.out ?_
  simp only [List.take_succ_cons, List.take_zero, List.drop_succ_cons, List.drop_zero]
  intro w4 HS
  replace HS := Bx.mk HS
  refine ws_y rfl HF rfl rfl (yl_move rfl (HF.ev rfl)) ?_; clear HF a; intro a HF
  refine ws_y rfl HF rfl rfl (yl_move rfl (HF.ev rfl)) ?_; clear HF a; intro a HF
  refine ws_y rfl HF rfl rfl (yl_indexAddr (e := 5) (i := k) (size := 1) rfl (HF.ev rfl) (HF.ev rfl) (by kernel_rfl) rfl (by omega)) ?_; clear HF a; intro a HF
  refine ws_y rfl HF rfl rfl (yl_load (v := .int .u8 (((xorTo p.data.toList q.data.toList n k).getD k 0).toNat : Int)) rfl (HF.ev rfl) (HS.out.elem1 encB_len 0 rfl (get_getD (xs := xorTo p.data.toList q.data.toList n k) (j := k) (d := 0) (by omega)) rfl) (by kernel_rfl)) ?_; clear HF a; intro a HF
  refine ws_y rfl HF rfl rfl (yl_move rfl (HF.ev rfl)) ?_; clear HF a; intro a HF
  refine ws_y rfl HF rfl rfl (yl_move rfl (HF.ev rfl)) ?_; clear HF a; intro a HF
  refine ws_y rfl HF rfl rfl (yl_indexS (i := k) rfl (HF.ev rfl) (HF.ev rfl) (by kernel_rfl) (by omega) (by omega)) ?_; clear HF a; intro a HF
  refine ws_y rfl HF rfl rfl (yl_xorB rfl (HF.ev rfl) (HF.ev rfl)) ?_; clear HF a; intro a HF
  refine ws_y rfl HF rfl rfl (yl_indexAddr (e := 5) (i := k) (size := 1) rfl (HF.ev rfl) (HF.ev rfl) (by kernel_rfl) rfl (by omega)) ?_; clear HF a; intro a HF
  refine wpStill_nil ?_
  refine wl_storeE encB_len rfl rfl rfl (HF.ev rfl) (HF.ev rfl) (by kernel_rfl) HS.out 0 rfl (by omega) (z := (((xorTo p.data.toList q.data.toList n k).getD k 0) ^^^ (q.get! k))) rfl rfl ?_; clear HS; intro w5 HS; replace HS := Bx.mk HS
  refine wpList_nil ?_
  refine ex_block ?_
  refine ex_then ?_
  refine wp_region_lit ?_
  refine wl_y rfl HF rfl rfl (yl_addI rfl (HF.ev rfl) (HF.ev rfl) (i64w (by omega))) ?_; clear HF a; intro a HF
  refine wl_mv HF rfl rfl rfl rfl rfl ?_; clear HF a; intro a HF
  refine wl_ne ?_
  rw [xorTo_step _ _ _ _ (by omega) _ (get_list q k)] at HS
  exact ⟨k + 1, ⟨⟨by omega, by omega⟩, HF.less _ ⟨rfl, rfl, rfl, rfl, trivial⟩, HS.out⟩, (by omega)⟩
 ·clear HF; have HF := HF1; clear HF1
  have cc1 := of_decide_eq_false cc1
  refine wc_false HF rfl ?_
  refine wp_exit ?_
  refine ex_then_exit ?_
  refine ex_then_exit ?_
  refine ex_block_hit ?_
  refine ex_then ?_
  refine wp_sr ?_
  refine wl_mv HF rfl rfl rfl rfl rfl ?_; clear HF a; intro a HF
  refine wl_y rfl HF rfl rfl (yl_convBS (e1 := 5) rfl (HF.ev rfl) (by kernel_rfl) (by kernel_rfl) (by kernel_rfl) (xs := xorTo p.data.toList q.data.toList n k) (St.rdN HS.out encB_len 0 rfl)) ?_; clear HF a; intro a HF
  refine wl_as HF rfl rfl rfl rfl rfl ?_; clear HF a; intro a HF
  refine wl_ne ?_
  refine wp_ret ?_
  refine bp_ret1 HF Try.results71 (HF.res rfl) ?_
  have hx : xorTo p.data.toList q.data.toList n k = xorL p.data.toList q.data.toList n := xorTo_end _ _ _ _ (by rw [← size_list]; omega)
  exact ⟨by rw [hx]; rfl, HS.out.bel⟩

theorem half_b (n : Nat) : half n ≤ n + 1 ∧ n ≤ 2 * half n ∧ (1 ≤ n → half n ≤ n ∧ 0 < half n) := by unfold half; omega

theorem stripeCut_any (t : ByteArray) (w0 : World) (hl : t.size ≤ 9223372036854775806) : Calls Try.prog 44 #[.string t] w0 fun e w' => (inB (t.size : Int) 1 128 = false ∧ e = .returned (.tuple #[.slice none 0 0, .bool false]) ∧ Below w0.heap.size w0 w') ∨ (inB (t.size : Int) 1 128 = true ∧ ∃ b, e = .returned (.tuple #[.slice (some ⟨b, 0, none⟩) 3 3, .bool true]) ∧ St w0 [rowA encS 1 9 (.slice (some ⟨b, 0, none⟩) 3 3) [col0 t, col1 t, col2 t]] w') := by
 have HS := Bx.mk (St.start w0)
 refine wc_enter Try.func44 rfl Try.ntmps44 [(0, .string t)] ⟨rfl, trivial⟩ rfl ?_; intro a HF
 refine wp_sr ?_
 refine wl_as HF rfl rfl rfl rfl rfl ?_; clear HF a; intro a HF
 refine wl_as HF rfl rfl rfl rfl rfl ?_; clear HF a; intro a HF
 refine wl_ne ?_
 refine wp_seq ?_
 refine wp_sr ?_
 refine wl_mv HF rfl rfl rfl rfl rfl ?_; clear HF a; intro a HF
 refine wl_callB rfl HF rfl (enter_of Try.func59 (by kernel_rfl) rfl) (args := #[.string t]) rfl (v := .bool (inB (t.size : Int) 1 128)) (isBlock_any t _ (by omega)) rfl rfl HS.out ?_; clear HF HS a; intro w1 a HS HF; replace HS := Bx.mk HS
 refine wl_y rfl HF rfl rfl (yl_not rfl (HF.ev rfl)) ?_; clear HF a; intro a HF
 refine wl_ne ?_
 refine HF.cases 7 rfl (fun cc1 HF1 => ?_) (fun cc1 HF1 => ?_)
 ·clear HF; have HF := HF1; clear HF1
  have hb : inB (t.size : Int) 1 128 = false := by simpa using cc1
  refine wc_true HF rfl ?_
  refine wp_sr ?_
  refine wl_as HF rfl rfl rfl rfl rfl ?_; clear HF a; intro a HF
  refine wl_as HF rfl rfl rfl rfl rfl ?_; clear HF a; intro a HF
  refine wl_ne ?_
  refine wp_ret ?_
  refine ex_then_ret ?_
  refine bp_ret2 HF Try.results44 (HF.res rfl) (HF.res rfl) ?_
  exact .inl ⟨hb, rfl, HS.out.bel⟩
 ·clear HF; have HF := HF1; clear HF1
  have hb : inB (t.size : Int) 1 128 = true := by simpa using cc1
  have hbb := inB_true hb; have hp : 1 ≤ t.size := by omega
  have hh := half_b t.size
  refine wc_false HF rfl ?_
  refine wp_skip ?_
  refine ex_then ?_
  refine wp_sr ?_
  refine wl_mv HF rfl rfl rfl rfl rfl ?_; clear HF a; intro a HF
  refine wl_y rfl HF rfl rfl (yl_lenS rfl (HF.ev rfl) (by kernel_rfl)) ?_; clear HF a; intro a HF
  refine wl_callB rfl HF rfl (enter_of Try.func70 (by kernel_rfl) rfl) (args := #[.int .i64 (t.size : Int)]) rfl (v := .int .i64 ((half t.size : Nat) : Int)) (halfI_any t.size _ (by omega)) rfl rfl HS.out ?_; clear HF HS a; intro w2 a HS HF; replace HS := Bx.mk HS
  refine wl_as HF rfl rfl rfl rfl rfl ?_; clear HF a; intro a HF
  refine wl_ne ?_
  refine wp_seq ?_
  refine wr_heldS (s := []) (by kernel_rfl) (St.drew (HS.out)) ?_
  have HS2 := Bx.mk HS.out.drew; replace HS := Bx.mk (show St w0 ([]) _ from HS.out.drew)
  generalize World.drew _ = w3 at HS HS2 ⊢
  refine wh_y 0 rfl (by kernel_rfl) (by kernel_rfl) (by kernel_rfl) (fun _ _ _ h => h) rfl HF rfl rfl (fun _ HS => (yl_move rfl (HF.ev rfl))) HS.out ?_; clear HF a; intro a HF
  refine wh_y 1 rfl (by kernel_rfl) (by kernel_rfl) (by kernel_rfl) (fun _ _ _ h => h) rfl HF rfl rfl (fun _ HS => (yl_move rfl (HF.ev rfl))) HS.out ?_; clear HF a; intro a HF
  refine wh_y 2 rfl (by kernel_rfl) (by kernel_rfl) (by kernel_rfl) (fun _ _ _ h => h) rfl HF rfl rfl (fun _ HS => (yl_sliceSh (k := half t.size) rfl (HF.ev rfl) (HF.ev rfl) (by kernel_rfl) (by omega) (by omega))) HS.out ?_; clear HF a; intro a HF
  refine wh_y 3 rfl (by kernel_rfl) (by kernel_rfl) (by kernel_rfl) (fun _ _ _ h => h) rfl HF rfl rfl (fun _ HS => (yl_move rfl (HF.ev rfl))) HS.out ?_; clear HF a; intro a HF
  refine wh_y 4 rfl (by kernel_rfl) (by kernel_rfl) (by kernel_rfl) (fun _ _ _ h => h) rfl HF rfl rfl (fun _ HS => (yl_move rfl (HF.ev rfl))) HS.out ?_; clear HF a; intro a HF
  refine wh_y 5 rfl (by kernel_rfl) (by kernel_rfl) (by kernel_rfl) (fun _ _ _ h => h) rfl HF rfl rfl (fun _ HS => (yl_sliceSl (k := half t.size) rfl (HF.ev rfl) (HF.ev rfl) (by kernel_rfl) (by omega) (by omega))) HS.out ?_; clear HF a; intro a HF
  refine wh_y 6 rfl (by kernel_rfl) (by kernel_rfl) (by kernel_rfl) (fun _ _ _ h => h) rfl HF rfl rfl (fun _ HS => (yl_move rfl (HF.ev rfl))) HS.out ?_; clear HF a; intro a HF
  refine wh_y 7 rfl (by kernel_rfl) (by kernel_rfl) (by kernel_rfl) (fun _ _ _ h => h) rfl HF rfl rfl (fun _ HS => (yl_move rfl (HF.ev rfl))) HS.out ?_; clear HF a; intro a HF
  refine wh_y 8 rfl (by kernel_rfl) (by kernel_rfl) (by kernel_rfl) (fun _ _ _ h => h) rfl HF rfl rfl (fun _ HS => (yl_sliceSh (k := half t.size) rfl (HF.ev rfl) (HF.ev rfl) (by kernel_rfl) (by omega) (by omega))) HS.out ?_; clear HF a; intro a HF
  refine wh_y 9 rfl (by kernel_rfl) (by kernel_rfl) (by kernel_rfl) (fun _ _ _ h => h) rfl HF rfl rfl (fun _ HS => (yl_move rfl (HF.ev rfl))) HS.out ?_; clear HF a; intro a HF
  refine wh_y 10 rfl (by kernel_rfl) (by kernel_rfl) (by kernel_rfl) (fun _ _ _ h => h) rfl HF rfl rfl (fun _ HS => (yl_move rfl (HF.ev rfl))) HS.out ?_; clear HF a; intro a HF
  refine wh_y 11 rfl (by kernel_rfl) (by kernel_rfl) (by kernel_rfl) (fun _ _ _ h => h) rfl HF rfl rfl (fun _ HS => (yl_sliceSl (k := half t.size) rfl (HF.ev rfl) (HF.ev rfl) (by kernel_rfl) (by omega) (by omega))) HS.out ?_; clear HF a; intro a HF
  refine wh_y 12 rfl (by kernel_rfl) (by kernel_rfl) (by kernel_rfl) (fun _ _ _ h => h) rfl HF rfl rfl (fun _ HS => (yl_move rfl (HF.ev rfl))) HS.out ?_; clear HF a; intro a HF
  refine wh_one 13 (by kernel_rfl) ?_
  refine wo_callB rfl rfl HF rfl (enter_of Try.func71 (by kernel_rfl) rfl) (args := #[.string (t.extract 0 (half t.size)), .string (t.extract (half t.size) t.size), .int .i64 ((half t.size : Nat) : Int)]) rfl (v := .string (xorB (t.extract 0 (half t.size)) (t.extract (half t.size) t.size) (half t.size))) (xor_any (t.extract 0 (half t.size)) (t.extract (half t.size) t.size) (half t.size) _ (by omega) (by omega) (by have := col1_size t hp; unfold col1 at this; omega)) rfl rfl ?_
  intro w4 hb; replace HS := Bx.mk (HS.out.later hb); replace HS2 := Bx.mk (HS2.out.later hb); clear hb HF; clear a; intro a HF; refine ⟨HS.out, ?_⟩
  refine wh_one 14 (by kernel_rfl) ?_
  refine wo_buildS (enc := encS) (e := 9) (size := 1) rfl rfl HF rfl rfl rfl (ps := [(0, .string (t.extract 0 (half t.size))), (1, .string (t.extract (half t.size) t.size)), (2, .string (xorB (t.extract 0 (half t.size)) (t.extract (half t.size) t.size) (half t.size)))]) rfl (cells := [.string (t.extract 0 (half t.size)), .string (t.extract (half t.size) t.size), .string (xorB (t.extract 0 (half t.size)) (t.extract (half t.size) t.size) (half t.size))]) (by kernel_rfl) [t.extract 0 (half t.size), t.extract (half t.size) t.size, xorB (t.extract 0 (half t.size)) (t.extract (half t.size) t.size) (half t.size)] rfl rfl (by unfold maxLen; omega) rfl HS2.out HS.out ?_; clear HF HS HS2 a; intro b1 a w6 HF HS2 HS; replace HS := Bx.mk HS; replace HS2 := Bx.mk HS2; refine ⟨HS.out, ?_⟩
  refine wh_y 15 rfl (by kernel_rfl) (by kernel_rfl) (by kernel_rfl) (fun _ _ _ h => h) rfl HF rfl rfl (fun _ HS => (yl_assign rfl (HF.ev rfl))) HS.out ?_; clear HF a; intro a HF
  refine wh_y 16 rfl (by kernel_rfl) (by kernel_rfl) (by kernel_rfl) (fun _ _ _ h => h) rfl HF rfl rfl (fun _ HS => (yl_assign rfl (HF.ev rfl))) HS.out ?_; clear HF a; intro a HF
  refine wh_done (by kernel_rfl) ?_
  replace HS := HS2; clear HS2
  refine ex_then ?_
  refine wp_ret ?_
  refine bp_ret2 HF Try.results44 (HF.res rfl) (HF.res rfl) ?_
  exact .inr ⟨hb, _, rfl, HS.out⟩

/-- The parity, so far. -/
def parAt (t : ByteArray) (i : Nat) : UInt8 := if half t.size + i < t.size then t.get! i ^^^ t.get! (half t.size + i) else t.get! i
def parTo (t : ByteArray) (k : Nat) : List UInt8 := (List.range k).map (parAt t)
theorem parTo_len (t : ByteArray) (k : Nat) : (parTo t k).length = k := by simp [parTo]
theorem parTo_step (t : ByteArray) (k : Nat) : parTo t (k + 1) = parTo t k ++ [parAt t k] := by
  unfold parTo; rw [List.range_succ, List.map_append]; rfl
theorem parTo_end (t : ByteArray) (hp : 1 ≤ t.size) : (⟨(parTo t (half t.size)).toArray⟩ : ByteArray) = col2 t := by
  have hb := half_bounds t.size hp
  apply ba_ext
  unfold col2
  rw [xorB_list]
  show (parTo t (half t.size)).toArray.toList = _
  rw [List.toList_toArray]
  apply getD_ext
  · rw [parTo_len, xorL_len]
  · intro i hi
    rw [parTo_len] at hi
    have e0 : (parTo t (half t.size)).getD i 0 = parAt t i := by simp [parTo, List.getD, hi]
    rw [e0, xorL_get _ _ _ _ hi]
    unfold col0 col1 parAt
    rw [list_extract, list_extract, get_list, get_list]
    simp only [List.getD_eq_getElem?_getD, List.getElem?_take, List.getElem?_drop, List.drop_zero, Nat.sub_zero]
    rw [if_pos (show i < half t.size from hi)]
    by_cases h : half t.size + i < t.size
    · rw [if_pos h, if_pos (show i < t.size - half t.size by omega)]
    · rw [if_neg h, if_neg (show ¬ i < t.size - half t.size by omega)]
      simp

theorem l4Cut_any (t : ByteArray) (w0 : World) (hp : 1 ≤ t.size) (hl : t.size ≤ 128) : Calls Try.prog 56 #[.string t] w0 fun e w' => ∃ b, e = .returned (.slice (some ⟨b, 0, none⟩) 3 3) ∧ St w0 [rowA encS 1 9 (.slice (some ⟨b, 0, none⟩) 3 3) [col0 t, col1 t, col2 t]] w' := by
 have hh := half_b t.size
 have HS := Bx.mk (St.start w0)
 refine wc_enter Try.func56 rfl Try.ntmps56 [(0, .string t)] ⟨rfl, trivial⟩ rfl ?_; intro a HF
 refine wp_sr ?_
 refine wl_as HF rfl rfl rfl rfl rfl ?_; clear HF a; intro a HF
 refine wl_ne ?_
 refine wp_sr ?_
 refine wl_mv HF rfl rfl rfl rfl rfl ?_; clear HF a; intro a HF
 refine wl_y rfl HF rfl rfl (yl_lenS rfl (HF.ev rfl) (by kernel_rfl)) ?_; clear HF a; intro a HF
 refine wl_callB rfl HF rfl (enter_of Try.func125 (by kernel_rfl) rfl) (args := #[.int .i64 (t.size : Int)]) rfl (v := .int .i64 ((half t.size : Nat) : Int)) (halfS_any t.size _ (by omega)) rfl rfl HS.out ?_; clear HF HS a; intro w1 a HS HF; replace HS := Bx.mk HS
 refine wl_as HF rfl rfl rfl rfl rfl ?_; clear HF a; intro a HF
 refine wl_ne ?_
 refine wp_sr ?_
 refine wl_empty (e := 5) (size := 1) rfl HF rfl rfl rfl (by kernel_rfl) HS.out ?_; clear HF HS a; intro a w2 b1 HF HS; replace HS := Bx.mk HS
 refine wl_as HF rfl rfl rfl rfl rfl ?_; clear HF a; intro a HF
 refine wl_ne ?_
 refine wp_seq ?_
 refine wp_sr ?_
 refine wl_as HF rfl rfl rfl rfl rfl ?_; clear HF a; intro a HF
 refine wl_ne ?_
 refine wp_block ?_
 replace HS := Bx.mk (HS.out.nilRow encB 1 5 (some ⟨b1, 0, none⟩))
 refine wc_loop (ι := Nat) (fun k a w => ∃ (ao1 : Option Addr) (cp1 : Nat), (k ≤ half t.size) ∧ Fr 45 a [(0, .string t), (3, .int .i64 ((half t.size : Nat) : Int)), (5, .int .i64 (k : Int)), (4, .slice ao1 ((parTo t k).length) cp1)] ∧ St w0 ([rowA encB 1 5 (.slice ao1 ((parTo t k).length) cp1) (parTo t k)]) w) (fun k => half t.size - k) 0 ⟨_, _, Nat.zero_le _, HF.less _ ⟨rfl, rfl, rfl, rfl, trivial⟩, HS.out⟩ ?_
 clear HF HS; clear a
 rintro k a w3 ⟨ao1, cp1, hk, HF, HS⟩
 replace HS := Bx.mk HS; have hle := parTo_len t k
 refine wp_seq ?_
 refine wp_sr ?_
 refine wl_mv HF rfl rfl rfl rfl rfl ?_; clear HF a; intro a HF
 refine wl_mv HF rfl rfl rfl rfl rfl ?_; clear HF a; intro a HF
 refine wl_y rfl HF rfl rfl (yl_lssI rfl (HF.ev rfl) (HF.ev rfl)) ?_; clear HF a; intro a HF
 refine wl_ne ?_
 refine HF.cases 13 rfl (fun cc1 HF1 => ?_) (fun cc1 HF1 => ?_)
 ·clear HF; have HF := HF1; clear HF1
  have cc1 := of_decide_eq_true cc1
  refine wc_true HF rfl ?_
  refine wp_skip ?_
  refine ex_then ?_
  refine wp_seq ?_
  refine wp_block ?_
  refine wp_sr ?_
  refine wl_mv HF rfl rfl rfl rfl rfl ?_; clear HF a; intro a HF
  refine wl_mv HF rfl rfl rfl rfl rfl ?_; clear HF a; intro a HF
  refine wl_y rfl HF rfl rfl (yl_indexS (i := k) rfl (HF.ev rfl) (HF.ev rfl) (by kernel_rfl) (by omega) (by omega)) ?_; clear HF a; intro a HF
  refine wl_as HF rfl rfl rfl rfl rfl ?_; clear HF a; intro a HF
  refine wl_ne ?_
  refine wp_seq ?_
  refine wp_sr ?_
  refine wl_mv HF rfl rfl rfl rfl rfl ?_; clear HF a; intro a HF
  refine wl_mv HF rfl rfl rfl rfl rfl ?_; clear HF a; intro a HF
  refine wl_y rfl HF rfl rfl (yl_addI rfl (HF.ev rfl) (HF.ev rfl) (i64w (by omega))) ?_; clear HF a; intro a HF
  refine wl_mv HF rfl rfl rfl rfl rfl ?_; clear HF a; intro a HF
  refine wl_y rfl HF rfl rfl (yl_lenS rfl (HF.ev rfl) (by kernel_rfl)) ?_; clear HF a; intro a HF
  refine wl_y rfl HF rfl rfl (yl_lssI rfl (HF.ev rfl) (HF.ev rfl)) ?_; clear HF a; intro a HF
  refine wl_ne ?_
  refine HF.cases 24 rfl (fun cc2 HF1 => ?_) (fun cc2 HF1 => ?_)
  ·clear HF; have HF := HF1; clear HF1
   have cc2 := of_decide_eq_true cc2
   refine wc_true HF rfl ?_
   refine wp_region_lit ?_
   refine wl_mv HF rfl rfl rfl rfl rfl ?_; clear HF a; intro a HF
   refine wl_mv HF rfl rfl rfl rfl rfl ?_; clear HF a; intro a HF
   refine wl_mv HF rfl rfl rfl rfl rfl ?_; clear HF a; intro a HF
   refine wl_mv HF rfl rfl rfl rfl rfl ?_; clear HF a; intro a HF
   refine wl_y rfl HF rfl rfl (yl_addI rfl (HF.ev rfl) (HF.ev rfl) (i64w (by omega))) ?_; clear HF a; intro a HF
   refine wl_y rfl HF rfl rfl (yl_indexS (i := (half t.size) + k) rfl (HF.ev rfl) (HF.ev rfl) (by kernel_rfl) (by omega) (by omega)) ?_; clear HF a; intro a HF
   refine wl_y rfl HF rfl rfl (yl_xorB rfl (HF.ev rfl) (HF.ev rfl)) ?_; clear HF a; intro a HF
   refine wl_as HF rfl rfl rfl rfl rfl ?_; clear HF a; intro a HF
   refine wl_ne ?_
   refine wp_region_lit ?_
   refine wl_mv HF rfl rfl rfl rfl rfl ?_; clear HF a; intro a HF
   refine wl_mv HF rfl rfl rfl rfl rfl ?_; clear HF a; intro a HF
   refine wl_buildS (enc := encB) (e := 5) (size := 1) rfl HF rfl rfl rfl (ps := [(0, .int .u8 (((t.get! k) ^^^ (t.get! ((half t.size) + k))).toNat : Int))]) rfl (cells := [.int .u8 (((t.get! k) ^^^ (t.get! ((half t.size) + k))).toNat : Int)]) (by kernel_rfl) [(t.get! k) ^^^ (t.get! ((half t.size) + k))] rfl rfl (by unfold maxLen; omega) rfl HS.out ?_; clear HF HS a; intro b2 a w4 HF HS; replace HS := Bx.mk HS
   refine wl_appL rfl HF rfl rfl rfl (HF.ev rfl) (HF.ev rfl) elemB encB_len HS.out 1 (xs := parTo t k) rfl (ys := [(t.get! k) ^^^ (t.get! ((half t.size) + k))]) (St.rdN HS.out encB_len 0 rfl) (cells_one_B _) (by unfold maxLen; simp only [List.length_cons, List.length_nil]; omega) (by simp only [List.length_cons, List.length_nil]; omega) ?_; clear HF HS a; intro ao3 cp4 w5 a HF HS; replace HS := Bx.mk HS
   replace HS : Bx (St w0 ([rowA encB 1 5 (.slice (some ⟨b2, 0, none⟩) 1 1) ([(t.get! k) ^^^ (t.get! ((half t.size) + k))]), rowA encB 1 5 (.slice ao3 ((parTo t k).length + ([(t.get! k) ^^^ (t.get! ((half t.size) + k))]).length) cp4) ((parTo t k) ++ ([(t.get! k) ^^^ (t.get! ((half t.size) + k))]))]) _) := ⟨HS.out⟩
   refine wl_as HF rfl rfl rfl rfl rfl ?_; clear HF a; intro a HF
   refine wpList_nil ?_
   refine ex_block ?_
   refine ex_then ?_
   refine wp_region_lit ?_
   refine wl_mv HF rfl rfl rfl rfl rfl ?_; clear HF a; intro a HF
   refine wl_y rfl HF rfl rfl (yl_addI rfl (HF.ev rfl) (HF.ev rfl) (i64w (by omega))) ?_; clear HF a; intro a HF
   refine wl_as HF rfl rfl rfl rfl rfl ?_; clear HF a; intro a HF
   refine wl_ne ?_
   replace HS : Bx (St w0 ([rowA encB 1 5 (.slice ao3 ((parTo t k).length + ([(t.get! k) ^^^ (t.get! ((half t.size) + k))]).length) cp4) ((parTo t k) ++ ([(t.get! k) ^^^ (t.get! ((half t.size) + k))])), rowA encB 1 5 (.slice (some ⟨b2, 0, none⟩) 1 1) ([(t.get! k) ^^^ (t.get! ((half t.size) + k))])]) _) := ⟨(HS.out).pick 1 rfl⟩
   have hst : parTo t (k + 1) = parTo t k ++ [t.get! k ^^^ t.get! (half t.size + k)] := by rw [parTo_step]; unfold parAt; rw [if_pos (by omega)]
   exact ⟨k + 1, ⟨ao3, cp4, by omega, by rw [hst, List.length_append]; exact HF.less _ ⟨rfl, rfl, rfl, rfl, trivial⟩, by rw [hst, List.length_append]; exact HS.out.erase 1⟩, by omega⟩
  ·clear HF; have HF := HF1; clear HF1
   have cc2 := of_decide_eq_false cc2
   refine wc_false HF rfl ?_
   refine wp_skip ?_
   refine ex_then ?_
   refine wp_region_lit ?_
   refine wl_mv HF rfl rfl rfl rfl rfl ?_; clear HF a; intro a HF
   refine wl_mv HF rfl rfl rfl rfl rfl ?_; clear HF a; intro a HF
   refine wl_buildS (enc := encB) (e := 5) (size := 1) rfl HF rfl rfl rfl (ps := [(0, .int .u8 ((t.get! k).toNat : Int))]) rfl (cells := [.int .u8 ((t.get! k).toNat : Int)]) (by kernel_rfl) [t.get! k] rfl rfl (by unfold maxLen; omega) rfl HS.out ?_; clear HF HS a; intro b5 a w6 HF HS; replace HS := Bx.mk HS
   refine wl_appL rfl HF rfl rfl rfl (HF.ev rfl) (HF.ev rfl) elemB encB_len HS.out 1 (xs := parTo t k) rfl (ys := [t.get! k]) (St.rdN HS.out encB_len 0 rfl) (cells_one_B _) (by unfold maxLen; simp only [List.length_cons, List.length_nil]; omega) (by simp only [List.length_cons, List.length_nil]; omega) ?_; clear HF HS a; intro ao6 cp7 w7 a HF HS; replace HS := Bx.mk HS
   replace HS : Bx (St w0 ([rowA encB 1 5 (.slice (some ⟨b5, 0, none⟩) 1 1) ([t.get! k]), rowA encB 1 5 (.slice ao6 ((parTo t k).length + ([t.get! k]).length) cp7) ((parTo t k) ++ ([t.get! k]))]) _) := ⟨HS.out⟩
   refine wl_as HF rfl rfl rfl rfl rfl ?_; clear HF a; intro a HF
   refine wpList_nil ?_
   refine ex_block ?_
   refine ex_then ?_
   refine wp_region_lit ?_
   refine wl_mv HF rfl rfl rfl rfl rfl ?_; clear HF a; intro a HF
   refine wl_y rfl HF rfl rfl (yl_addI rfl (HF.ev rfl) (HF.ev rfl) (i64w (by omega))) ?_; clear HF a; intro a HF
   refine wl_as HF rfl rfl rfl rfl rfl ?_; clear HF a; intro a HF
   refine wl_ne ?_
   replace HS : Bx (St w0 ([rowA encB 1 5 (.slice ao6 ((parTo t k).length + ([t.get! k]).length) cp7) ((parTo t k) ++ ([t.get! k])), rowA encB 1 5 (.slice (some ⟨b5, 0, none⟩) 1 1) ([t.get! k])]) _) := ⟨(HS.out).pick 1 rfl⟩
   have hst : parTo t (k + 1) = parTo t k ++ [t.get! k] := by rw [parTo_step]; unfold parAt; rw [if_neg (by omega)]
   exact ⟨k + 1, ⟨ao6, cp7, by omega, by rw [hst, List.length_append]; exact HF.less _ ⟨rfl, rfl, rfl, rfl, trivial⟩, by rw [hst, List.length_append]; exact HS.out.erase 1⟩, by omega⟩
 ·clear HF; have HF := HF1; clear HF1
  have cc1 := of_decide_eq_false cc1
  refine wc_false HF rfl ?_
  refine wp_exit ?_
  refine ex_then_exit ?_
  refine ex_then_exit ?_
  refine ex_block_hit ?_
  refine ex_then ?_
  refine wp_seq ?_
  refine wr_tail 8 (by kernel_rfl) (by kernel_rfl) HS.out ?_
  simp only [List.take_succ_cons, List.take_zero, List.drop_succ_cons, List.drop_zero]
  intro w8 HS
  replace HS := Bx.mk HS
  refine ws_y rfl HF rfl rfl (yl_move rfl (HF.ev rfl)) ?_; clear HF a; intro a HF
  refine ws_y rfl HF rfl rfl (yl_move rfl (HF.ev rfl)) ?_; clear HF a; intro a HF
  refine ws_y rfl HF rfl rfl (yl_sliceSh (k := half t.size) rfl (HF.ev rfl) (HF.ev rfl) (by kernel_rfl) (by omega) (by omega)) ?_; clear HF a; intro a HF
  refine ws_y rfl HF rfl rfl (yl_move rfl (HF.ev rfl)) ?_; clear HF a; intro a HF
  refine ws_y rfl HF rfl rfl (yl_move rfl (HF.ev rfl)) ?_; clear HF a; intro a HF
  refine ws_y rfl HF rfl rfl (yl_sliceSl (k := half t.size) rfl (HF.ev rfl) (HF.ev rfl) (by kernel_rfl) (by omega) (by omega)) ?_; clear HF a; intro a HF
  refine ws_y rfl HF rfl rfl (yl_move rfl (HF.ev rfl)) ?_; clear HF a; intro a HF
  refine ws_y rfl HF rfl rfl (yl_convBS (e1 := 5) rfl (HF.ev rfl) (by kernel_rfl) (by kernel_rfl) (by kernel_rfl) (xs := parTo t k) (St.rdOf HS.out encB_len 0 rfl)) ?_; clear HF a; intro a HF
  refine wpStill_nil ?_
  refine wl_buildS (enc := encS) (e := 9) (size := 1) rfl HF rfl rfl rfl (ps := [(0, .string (t.extract 0 (half t.size))), (1, .string (t.extract (half t.size) t.size)), (2, .string (⟨(parTo t k).toArray⟩ : ByteArray))]) rfl (cells := [.string (t.extract 0 (half t.size)), .string (t.extract (half t.size) t.size), .string (⟨(parTo t k).toArray⟩ : ByteArray)]) (by kernel_rfl) [t.extract 0 (half t.size), t.extract (half t.size) t.size, (⟨(parTo t k).toArray⟩ : ByteArray)] rfl rfl (by unfold maxLen; omega) rfl HS.out ?_; clear HF HS a; intro b8 a w9 HF HS; replace HS := Bx.mk HS
  refine wl_as HF rfl rfl rfl rfl rfl ?_; clear HF a; intro a HF
  refine wl_ne ?_
  refine wp_ret ?_
  refine bp_ret1 HF Try.results56 (HF.res rfl) ?_
  have hkl : k = half t.size := by omega
  rw [hkl, parTo_end t hp] at HS
  exact ⟨_, rfl, HS.out.erase 1⟩

end Go.Proofs.Ytfijfjjleelphaa
