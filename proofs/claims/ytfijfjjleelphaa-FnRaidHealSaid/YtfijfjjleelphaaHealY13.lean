/- A part of the proof in YtfijfjjleelphaaHealY17. -/
import Derived.ArgAppend
import Derived.BigQuiet
import Derived.BigRegion
import Derived.Deep.AppendLies
import Derived.Deep.MidRow
import Derived.Deep.Quiet
import Derived.Deep.QuietTactic
import Derived.Deep.RegionHeld3
import Derived.Deep.RegionWith
import Derived.IntWalk
import Derived.Laws.BytesArg
import Derived.Lib.Hide
import Derived.Lib.LazyBuf
import Derived.LoopIn
import Derived.LoopN
import Derived.LoopNIn
import Derived.Orders
import Derived.OrdersHeld
import Derived.OwnWalkIn
import Derived.RangeFuncLeaves
import Derived.RangeFuncNested
import Derived.Shelf.Abstract
import Derived.Still
import Derived.StillTail
import Derived.StillTailTactics
import Derived.TacticsInMore
import Derived.Test.YtfijfjjleelphaaRows
import Derived.WalkKit
import Derived.WalkLawsBesides
import Derived.WalkSpells
import Derived.Test.YtfijfjjleelphaaHealY12
/- Reading a set of disks, by the reference. -/
namespace Go.Proofs.Ytfijfjjleelphaa
set_option maxHeartbeats 1000000
set_option maxRecDepth 100000
open Go.RowKit

def PtrD.fits (p : PtrD) (t : ByteArray) : Bool := (bif p.ok then (bif !p.hole then (bif (p.fSize == (t.size : Int)) then (p.fSum == (sumOf t)) else false) else false) else false)

theorem implFits_any (p : PtrD) (t : ByteArray) (w0 : World) (ht : t.size ≤ 9223372036854775806) : Calls Try.prog 20 #[.agg #[.int .i64 p.fAt, .int .i64 p.fBirth, .int .i64 p.fSize, .int .i64 p.fSum, .int .i64 p.fLevel], .string t] w0 fun e w' => e = .returned (.bool (p.fits t)) ∧ Below w0.heap.size w0 w' := by
 have HS := Bx.mk (St.start w0)
 refine wc_enter Try.func20 rfl Try.ntmps20 [(0, .agg #[.int .i64 p.fAt, .int .i64 p.fBirth, .int .i64 p.fSize, .int .i64 p.fSum, .int .i64 p.fLevel]), (1, .string t)] ⟨rfl, rfl, trivial⟩ rfl ?_; intro a HF
 refine wp_sr ?_
 refine wl_box rfl HF rfl (HF.ev rfl) (Z := [.int .i64 p.fAt, .int .i64 p.fBirth, .int .i64 p.fSize, .int .i64 p.fSum, .int .i64 p.fLevel]) rfl rfl rfl rfl HS.out ?_; clear HF HS a; intro a w1 b1 HF HS; replace HS := Bx.mk HS
 refine wl_as HF rfl rfl rfl rfl rfl ?_; clear HF a; intro a HF
 refine wl_ne ?_
 refine wp_seq ?_
 refine wr_quiet (by kernel_rfl) (by kernel_rfl) HS.out ?_
 refine wq_y rfl HF rfl rfl (fun _ HS => (yl_loadR (cs := [.int .i64 p.fAt, .int .i64 p.fBirth, .int .i64 p.fSize, .int .i64 p.fSum, .int .i64 p.fLevel]) rfl (HF.ev rfl) ((HS.box 0 rfl).sub 0 5) (by kernel_rfl))) ?_; clear HF a; intro a HF
 refine wq_call rfl HF rfl (enter_of Try.func60 (by kernel_rfl) rfl) (args := #[.agg #[.int .i64 p.fAt, .int .i64 p.fBirth, .int .i64 p.fSize, .int .i64 p.fSum, .int .i64 p.fLevel]]) rfl (v := .bool p.ok) (fun _ HS => implPtrOk_any p _) rfl rfl ?_; clear HF a; intro a HF
 refine wq_y rfl HF rfl rfl (fun _ HS => (yl_move rfl (HF.ev rfl))) ?_; clear HF a; intro a HF
 refine HF.cases 7 rfl (fun cc1 HF1 => ?_) (fun cc1 HF1 => ?_)
 ·clear HF; have HF := HF1; clear HF1
  refine wq_yg HF rfl rfl rfl rfl rfl (fun _ HS => (yl_loadR (cs := [.int .i64 p.fAt, .int .i64 p.fBirth, .int .i64 p.fSize, .int .i64 p.fSum, .int .i64 p.fLevel]) rfl (HF.ev rfl) ((HS.box 0 rfl).sub 0 5) (by kernel_rfl))) ?_; clear HF a; intro a HF
  refine wq_callg HF rfl rfl rfl rfl (enter_of Try.func63 (by kernel_rfl) rfl) (args := #[.agg #[.int .i64 p.fAt, .int .i64 p.fBirth, .int .i64 p.fSize, .int .i64 p.fSum, .int .i64 p.fLevel]]) rfl (v := .bool p.hole) (fun _ HS => implHole_any p _) rfl rfl ?_; clear HF a; intro a HF
  refine wq_yg HF rfl rfl rfl rfl rfl (fun _ HS => (yl_not rfl (HF.ev rfl))) ?_; clear HF a; intro a HF
  refine wq_y rfl HF rfl rfl (fun _ HS => (yl_pick_t rfl (HF.ev rfl) (HF.ev rfl))) ?_; clear HF a; intro a HF
  refine wq_y rfl HF rfl rfl (fun _ HS => (yl_move rfl (HF.ev rfl))) ?_; clear HF a; intro a HF
  refine HF.cases 12 rfl (fun cc2 HF1 => ?_) (fun cc2 HF1 => ?_)
  ·clear HF; have HF := HF1; clear HF1
   refine wq_yg HF rfl rfl rfl rfl rfl (fun _ HS => (yl_fieldAddr (j := 2) rfl (HF.ev rfl) (by kernel_rfl))) ?_; clear HF a; intro a HF
   refine wq_yg HF rfl rfl rfl rfl rfl (fun _ HS => (yl_load (v := .int .i64 p.fSize) rfl (HF.ev rfl) (((HS.box 0 rfl).cell 2).trans rfl) (by kernel_rfl))) ?_; clear HF a; intro a HF
   refine wq_yg HF rfl rfl rfl rfl rfl (fun _ HS => (yl_move rfl (HF.ev rfl))) ?_; clear HF a; intro a HF
   refine wq_yg HF rfl rfl rfl rfl rfl (fun _ HS => (yl_lenS rfl (HF.ev rfl) (by kernel_rfl))) ?_; clear HF a; intro a HF
   refine wq_yg HF rfl rfl rfl rfl rfl (fun _ HS => (yl_eqlI rfl (HF.ev rfl) (HF.ev rfl))) ?_; clear HF a; intro a HF
   refine wq_y rfl HF rfl rfl (fun _ HS => (yl_pick_t rfl (HF.ev rfl) (HF.ev rfl))) ?_; clear HF a; intro a HF
   refine wq_y rfl HF rfl rfl (fun _ HS => (yl_move rfl (HF.ev rfl))) ?_; clear HF a; intro a HF
   refine HF.cases 19 rfl (fun cc3 HF1 => ?_) (fun cc3 HF1 => ?_)
   ·clear HF; have HF := HF1; clear HF1
    have dcc3 := eq_of_beq cc3
    refine wq_yg HF rfl rfl rfl rfl rfl (fun _ HS => (yl_fieldAddr (j := 3) rfl (HF.ev rfl) (by kernel_rfl))) ?_; clear HF a; intro a HF
    refine wq_yg HF rfl rfl rfl rfl rfl (fun _ HS => (yl_load (v := .int .i64 p.fSum) rfl (HF.ev rfl) (((HS.box 0 rfl).cell 3).trans rfl) (by kernel_rfl))) ?_; clear HF a; intro a HF
    refine wq_yg HF rfl rfl rfl rfl rfl (fun _ HS => (yl_move rfl (HF.ev rfl))) ?_; clear HF a; intro a HF
    refine wq_callg HF rfl rfl rfl rfl (enter_of Try.func58 (by kernel_rfl) rfl) (args := #[.string t]) rfl (v := .int .i64 (sumOf t)) (fun _ HS => sumOfI_any t _ (by omega)) rfl rfl ?_; clear HF a; intro a HF
    refine wq_yg HF rfl rfl rfl rfl rfl (fun _ HS => (yl_eqlI rfl (HF.ev rfl) (HF.ev rfl))) ?_; clear HF a; intro a HF
    refine wq_y rfl HF rfl rfl (fun _ HS => (yl_pick_t rfl (HF.ev rfl) (HF.ev rfl))) ?_; clear HF a; intro a HF
    refine wq_y rfl HF rfl rfl (fun _ HS => (yl_assign rfl (HF.ev rfl))) ?_; clear HF a; intro a HF
    refine wpQuiet_nil ?_; intro w2 HS; replace HS := Bx.mk HS
    refine ex_then ?_
    refine wp_ret ?_
    refine bp_ret1 HF Try.results20 (HF.res rfl) ?_
    have hfn : PtrD.fits p t = (p.fSum == (sumOf t)) := by simp only [PtrD.fits, cc1, cc2, cc3, cond_true, cond_false]
    exact ⟨by rw [hfn] <;> rfl, HS.out.bel⟩
   ·clear HF; have HF := HF1; clear HF1
    have dcc3 := ne_of_beq_false cc3
    refine wq_skip HF rfl rfl rfl rfl rfl rfl ?_; clear HF a; intro a HF
    refine wq_skip HF rfl rfl rfl rfl rfl rfl ?_; clear HF a; intro a HF
    refine wq_skip HF rfl rfl rfl rfl rfl rfl ?_; clear HF a; intro a HF
    refine wq_skip HF rfl rfl rfl rfl rfl rfl ?_; clear HF a; intro a HF
    refine wq_skip HF rfl rfl rfl rfl rfl rfl ?_; clear HF a; intro a HF
    refine wq_y rfl HF rfl rfl (fun _ HS => (yl_pick_f rfl (HF.ev rfl) (HF.ev rfl))) ?_; clear HF a; intro a HF
    refine wq_y rfl HF rfl rfl (fun _ HS => (yl_assign rfl (HF.ev rfl))) ?_; clear HF a; intro a HF
    refine wpQuiet_nil ?_; intro w3 HS; replace HS := Bx.mk HS
    refine ex_then ?_
    refine wp_ret ?_
    refine bp_ret1 HF Try.results20 (HF.res rfl) ?_
    have hfn : PtrD.fits p t = false := by simp only [PtrD.fits, cc1, cc2, cc3, cond_true, cond_false]
    exact ⟨by rw [hfn] <;> rfl, HS.out.bel⟩
  ·clear HF; have HF := HF1; clear HF1
   refine wq_skip HF rfl rfl rfl rfl rfl rfl ?_; clear HF a; intro a HF
   refine wq_skip HF rfl rfl rfl rfl rfl rfl ?_; clear HF a; intro a HF
   refine wq_skip HF rfl rfl rfl rfl rfl rfl ?_; clear HF a; intro a HF
   refine wq_skip HF rfl rfl rfl rfl rfl rfl ?_; clear HF a; intro a HF
   refine wq_skip HF rfl rfl rfl rfl rfl rfl ?_; clear HF a; intro a HF
   refine wq_y rfl HF rfl rfl (fun _ HS => (yl_pick_f rfl (HF.ev rfl) (HF.ev rfl))) ?_; clear HF a; intro a HF
   refine wq_y rfl HF rfl rfl (fun _ HS => (yl_move rfl (HF.ev rfl))) ?_; clear HF a; intro a HF
   refine wq_skip HF rfl rfl rfl rfl rfl rfl ?_; clear HF a; intro a HF
   refine wq_skip HF rfl rfl rfl rfl rfl rfl ?_; clear HF a; intro a HF
   refine wq_skip HF rfl rfl rfl rfl rfl rfl ?_; clear HF a; intro a HF
   refine wq_skip HF rfl rfl rfl rfl rfl rfl ?_; clear HF a; intro a HF
   refine wq_skip HF rfl rfl rfl rfl rfl rfl ?_; clear HF a; intro a HF
   refine wq_y rfl HF rfl rfl (fun _ HS => (yl_pick_f rfl (HF.ev rfl) (HF.ev rfl))) ?_; clear HF a; intro a HF
   refine wq_y rfl HF rfl rfl (fun _ HS => (yl_assign rfl (HF.ev rfl))) ?_; clear HF a; intro a HF
   refine wpQuiet_nil ?_; intro w4 HS; replace HS := Bx.mk HS
   refine ex_then ?_
   refine wp_ret ?_
   refine bp_ret1 HF Try.results20 (HF.res rfl) ?_
   have hfn : PtrD.fits p t = false := by simp only [PtrD.fits, cc1, cc2, cond_true, cond_false]
   exact ⟨by rw [hfn] <;> rfl, HS.out.bel⟩
 ·clear HF; have HF := HF1; clear HF1
  refine wq_skip HF rfl rfl rfl rfl rfl rfl ?_; clear HF a; intro a HF
  refine wq_skip HF rfl rfl rfl rfl rfl rfl ?_; clear HF a; intro a HF
  refine wq_skip HF rfl rfl rfl rfl rfl rfl ?_; clear HF a; intro a HF
  refine wq_y rfl HF rfl rfl (fun _ HS => (yl_pick_f rfl (HF.ev rfl) (HF.ev rfl))) ?_; clear HF a; intro a HF
  refine wq_y rfl HF rfl rfl (fun _ HS => (yl_move rfl (HF.ev rfl))) ?_; clear HF a; intro a HF
  refine wq_skip HF rfl rfl rfl rfl rfl rfl ?_; clear HF a; intro a HF
  refine wq_skip HF rfl rfl rfl rfl rfl rfl ?_; clear HF a; intro a HF
  refine wq_skip HF rfl rfl rfl rfl rfl rfl ?_; clear HF a; intro a HF
  refine wq_skip HF rfl rfl rfl rfl rfl rfl ?_; clear HF a; intro a HF
  refine wq_skip HF rfl rfl rfl rfl rfl rfl ?_; clear HF a; intro a HF
  refine wq_y rfl HF rfl rfl (fun _ HS => (yl_pick_f rfl (HF.ev rfl) (HF.ev rfl))) ?_; clear HF a; intro a HF
  refine wq_y rfl HF rfl rfl (fun _ HS => (yl_move rfl (HF.ev rfl))) ?_; clear HF a; intro a HF
  refine wq_skip HF rfl rfl rfl rfl rfl rfl ?_; clear HF a; intro a HF
  refine wq_skip HF rfl rfl rfl rfl rfl rfl ?_; clear HF a; intro a HF
  refine wq_skip HF rfl rfl rfl rfl rfl rfl ?_; clear HF a; intro a HF
  refine wq_skip HF rfl rfl rfl rfl rfl rfl ?_; clear HF a; intro a HF
  refine wq_skip HF rfl rfl rfl rfl rfl rfl ?_; clear HF a; intro a HF
  refine wq_y rfl HF rfl rfl (fun _ HS => (yl_pick_f rfl (HF.ev rfl) (HF.ev rfl))) ?_; clear HF a; intro a HF
  refine wq_y rfl HF rfl rfl (fun _ HS => (yl_assign rfl (HF.ev rfl))) ?_; clear HF a; intro a HF
  refine wpQuiet_nil ?_; intro w5 HS; replace HS := Bx.mk HS
  refine ex_then ?_
  refine wp_ret ?_
  refine bp_ret1 HF Try.results20 (HF.res rfl) ?_
  have hfn : PtrD.fits p t = false := by simp only [PtrD.fits, cc1, cond_true, cond_false]
  exact ⟨by rw [hfn] <;> rfl, HS.out.bel⟩

theorem specFits_any (p : PtrD) (t : ByteArray) (w0 : World) (ht : t.size ≤ 9223372036854775806) : Calls Try.prog 167 #[.agg #[.int .i64 p.fAt, .int .i64 p.fBirth, .int .i64 p.fSize, .int .i64 p.fSum, .int .i64 p.fLevel], .string t] w0 fun e w' => e = .returned (.bool (p.fits t)) ∧ Below w0.heap.size w0 w' := by
 have HS := Bx.mk (St.start w0)
 refine wc_enter Try.func167 rfl Try.ntmps167 [(0, .agg #[.int .i64 p.fAt, .int .i64 p.fBirth, .int .i64 p.fSize, .int .i64 p.fSum, .int .i64 p.fLevel]), (1, .string t)] ⟨rfl, rfl, trivial⟩ rfl ?_; intro a HF
 refine wp_sr ?_
 refine wl_box rfl HF rfl (HF.ev rfl) (Z := [.int .i64 p.fAt, .int .i64 p.fBirth, .int .i64 p.fSize, .int .i64 p.fSum, .int .i64 p.fLevel]) rfl rfl rfl rfl HS.out ?_; clear HF HS a; intro a w1 b1 HF HS; replace HS := Bx.mk HS
 refine wl_as HF rfl rfl rfl rfl rfl ?_; clear HF a; intro a HF
 refine wl_ne ?_
 refine wp_seq ?_
 refine wr_quiet (by kernel_rfl) (by kernel_rfl) HS.out ?_
 refine wq_y rfl HF rfl rfl (fun _ HS => (yl_loadR (cs := [.int .i64 p.fAt, .int .i64 p.fBirth, .int .i64 p.fSize, .int .i64 p.fSum, .int .i64 p.fLevel]) rfl (HF.ev rfl) ((HS.box 0 rfl).sub 0 5) (by kernel_rfl))) ?_; clear HF a; intro a HF
 refine wq_call rfl HF rfl (enter_of Try.func101 (by kernel_rfl) rfl) (args := #[.agg #[.int .i64 p.fAt, .int .i64 p.fBirth, .int .i64 p.fSize, .int .i64 p.fSum, .int .i64 p.fLevel]]) rfl (v := .bool p.ok) (fun _ HS => specPtrOk_any p _) rfl rfl ?_; clear HF a; intro a HF
 refine wq_y rfl HF rfl rfl (fun _ HS => (yl_move rfl (HF.ev rfl))) ?_; clear HF a; intro a HF
 refine HF.cases 7 rfl (fun cc1 HF1 => ?_) (fun cc1 HF1 => ?_)
 ·clear HF; have HF := HF1; clear HF1
  refine wq_yg HF rfl rfl rfl rfl rfl (fun _ HS => (yl_loadR (cs := [.int .i64 p.fAt, .int .i64 p.fBirth, .int .i64 p.fSize, .int .i64 p.fSum, .int .i64 p.fLevel]) rfl (HF.ev rfl) ((HS.box 0 rfl).sub 0 5) (by kernel_rfl))) ?_; clear HF a; intro a HF
  refine wq_callg HF rfl rfl rfl rfl (enter_of Try.func102 (by kernel_rfl) rfl) (args := #[.agg #[.int .i64 p.fAt, .int .i64 p.fBirth, .int .i64 p.fSize, .int .i64 p.fSum, .int .i64 p.fLevel]]) rfl (v := .bool p.hole) (fun _ HS => specHole_any p _) rfl rfl ?_; clear HF a; intro a HF
  refine wq_yg HF rfl rfl rfl rfl rfl (fun _ HS => (yl_not rfl (HF.ev rfl))) ?_; clear HF a; intro a HF
  refine wq_y rfl HF rfl rfl (fun _ HS => (yl_pick_t rfl (HF.ev rfl) (HF.ev rfl))) ?_; clear HF a; intro a HF
  refine wq_y rfl HF rfl rfl (fun _ HS => (yl_move rfl (HF.ev rfl))) ?_; clear HF a; intro a HF
  refine HF.cases 12 rfl (fun cc2 HF1 => ?_) (fun cc2 HF1 => ?_)
  ·clear HF; have HF := HF1; clear HF1
   refine wq_yg HF rfl rfl rfl rfl rfl (fun _ HS => (yl_fieldAddr (j := 2) rfl (HF.ev rfl) (by kernel_rfl))) ?_; clear HF a; intro a HF
   refine wq_yg HF rfl rfl rfl rfl rfl (fun _ HS => (yl_load (v := .int .i64 p.fSize) rfl (HF.ev rfl) (((HS.box 0 rfl).cell 2).trans rfl) (by kernel_rfl))) ?_; clear HF a; intro a HF
   refine wq_yg HF rfl rfl rfl rfl rfl (fun _ HS => (yl_move rfl (HF.ev rfl))) ?_; clear HF a; intro a HF
   refine wq_yg HF rfl rfl rfl rfl rfl (fun _ HS => (yl_lenS rfl (HF.ev rfl) (by kernel_rfl))) ?_; clear HF a; intro a HF
   refine wq_yg HF rfl rfl rfl rfl rfl (fun _ HS => (yl_eqlI rfl (HF.ev rfl) (HF.ev rfl))) ?_; clear HF a; intro a HF
   refine wq_y rfl HF rfl rfl (fun _ HS => (yl_pick_t rfl (HF.ev rfl) (HF.ev rfl))) ?_; clear HF a; intro a HF
   refine wq_y rfl HF rfl rfl (fun _ HS => (yl_move rfl (HF.ev rfl))) ?_; clear HF a; intro a HF
   refine HF.cases 19 rfl (fun cc3 HF1 => ?_) (fun cc3 HF1 => ?_)
   ·clear HF; have HF := HF1; clear HF1
    have dcc3 := eq_of_beq cc3
    refine wq_yg HF rfl rfl rfl rfl rfl (fun _ HS => (yl_fieldAddr (j := 3) rfl (HF.ev rfl) (by kernel_rfl))) ?_; clear HF a; intro a HF
    refine wq_yg HF rfl rfl rfl rfl rfl (fun _ HS => (yl_load (v := .int .i64 p.fSum) rfl (HF.ev rfl) (((HS.box 0 rfl).cell 3).trans rfl) (by kernel_rfl))) ?_; clear HF a; intro a HF
    refine wq_yg HF rfl rfl rfl rfl rfl (fun _ HS => (yl_move rfl (HF.ev rfl))) ?_; clear HF a; intro a HF
    refine wq_callg HF rfl rfl rfl rfl (enter_of Try.func159 (by kernel_rfl) rfl) (args := #[.string t]) rfl (v := .int .i64 (sumOf t)) (fun _ HS => sumOfS_any t _ (by omega)) rfl rfl ?_; clear HF a; intro a HF
    refine wq_yg HF rfl rfl rfl rfl rfl (fun _ HS => (yl_eqlI rfl (HF.ev rfl) (HF.ev rfl))) ?_; clear HF a; intro a HF
    refine wq_y rfl HF rfl rfl (fun _ HS => (yl_pick_t rfl (HF.ev rfl) (HF.ev rfl))) ?_; clear HF a; intro a HF
    refine wq_y rfl HF rfl rfl (fun _ HS => (yl_assign rfl (HF.ev rfl))) ?_; clear HF a; intro a HF
    refine wpQuiet_nil ?_; intro w2 HS; replace HS := Bx.mk HS
    refine ex_then ?_
    refine wp_ret ?_
    refine bp_ret1 HF Try.results167 (HF.res rfl) ?_
    have hfn : PtrD.fits p t = (p.fSum == (sumOf t)) := by simp only [PtrD.fits, cc1, cc2, cc3, cond_true, cond_false]
    exact ⟨by rw [hfn] <;> rfl, HS.out.bel⟩
   ·clear HF; have HF := HF1; clear HF1
    have dcc3 := ne_of_beq_false cc3
    refine wq_skip HF rfl rfl rfl rfl rfl rfl ?_; clear HF a; intro a HF
    refine wq_skip HF rfl rfl rfl rfl rfl rfl ?_; clear HF a; intro a HF
    refine wq_skip HF rfl rfl rfl rfl rfl rfl ?_; clear HF a; intro a HF
    refine wq_skip HF rfl rfl rfl rfl rfl rfl ?_; clear HF a; intro a HF
    refine wq_skip HF rfl rfl rfl rfl rfl rfl ?_; clear HF a; intro a HF
    refine wq_y rfl HF rfl rfl (fun _ HS => (yl_pick_f rfl (HF.ev rfl) (HF.ev rfl))) ?_; clear HF a; intro a HF
    refine wq_y rfl HF rfl rfl (fun _ HS => (yl_assign rfl (HF.ev rfl))) ?_; clear HF a; intro a HF
    refine wpQuiet_nil ?_; intro w3 HS; replace HS := Bx.mk HS
    refine ex_then ?_
    refine wp_ret ?_
    refine bp_ret1 HF Try.results167 (HF.res rfl) ?_
    have hfn : PtrD.fits p t = false := by simp only [PtrD.fits, cc1, cc2, cc3, cond_true, cond_false]
    exact ⟨by rw [hfn] <;> rfl, HS.out.bel⟩
  ·clear HF; have HF := HF1; clear HF1
   refine wq_skip HF rfl rfl rfl rfl rfl rfl ?_; clear HF a; intro a HF
   refine wq_skip HF rfl rfl rfl rfl rfl rfl ?_; clear HF a; intro a HF
   refine wq_skip HF rfl rfl rfl rfl rfl rfl ?_; clear HF a; intro a HF
   refine wq_skip HF rfl rfl rfl rfl rfl rfl ?_; clear HF a; intro a HF
   refine wq_skip HF rfl rfl rfl rfl rfl rfl ?_; clear HF a; intro a HF
   refine wq_y rfl HF rfl rfl (fun _ HS => (yl_pick_f rfl (HF.ev rfl) (HF.ev rfl))) ?_; clear HF a; intro a HF
   refine wq_y rfl HF rfl rfl (fun _ HS => (yl_move rfl (HF.ev rfl))) ?_; clear HF a; intro a HF
   refine wq_skip HF rfl rfl rfl rfl rfl rfl ?_; clear HF a; intro a HF
   refine wq_skip HF rfl rfl rfl rfl rfl rfl ?_; clear HF a; intro a HF
   refine wq_skip HF rfl rfl rfl rfl rfl rfl ?_; clear HF a; intro a HF
   refine wq_skip HF rfl rfl rfl rfl rfl rfl ?_; clear HF a; intro a HF
   refine wq_skip HF rfl rfl rfl rfl rfl rfl ?_; clear HF a; intro a HF
   refine wq_y rfl HF rfl rfl (fun _ HS => (yl_pick_f rfl (HF.ev rfl) (HF.ev rfl))) ?_; clear HF a; intro a HF
   refine wq_y rfl HF rfl rfl (fun _ HS => (yl_assign rfl (HF.ev rfl))) ?_; clear HF a; intro a HF
   refine wpQuiet_nil ?_; intro w4 HS; replace HS := Bx.mk HS
   refine ex_then ?_
   refine wp_ret ?_
   refine bp_ret1 HF Try.results167 (HF.res rfl) ?_
   have hfn : PtrD.fits p t = false := by simp only [PtrD.fits, cc1, cc2, cond_true, cond_false]
   exact ⟨by rw [hfn] <;> rfl, HS.out.bel⟩
 ·clear HF; have HF := HF1; clear HF1
  refine wq_skip HF rfl rfl rfl rfl rfl rfl ?_; clear HF a; intro a HF
  refine wq_skip HF rfl rfl rfl rfl rfl rfl ?_; clear HF a; intro a HF
  refine wq_skip HF rfl rfl rfl rfl rfl rfl ?_; clear HF a; intro a HF
  refine wq_y rfl HF rfl rfl (fun _ HS => (yl_pick_f rfl (HF.ev rfl) (HF.ev rfl))) ?_; clear HF a; intro a HF
  refine wq_y rfl HF rfl rfl (fun _ HS => (yl_move rfl (HF.ev rfl))) ?_; clear HF a; intro a HF
  refine wq_skip HF rfl rfl rfl rfl rfl rfl ?_; clear HF a; intro a HF
  refine wq_skip HF rfl rfl rfl rfl rfl rfl ?_; clear HF a; intro a HF
  refine wq_skip HF rfl rfl rfl rfl rfl rfl ?_; clear HF a; intro a HF
  refine wq_skip HF rfl rfl rfl rfl rfl rfl ?_; clear HF a; intro a HF
  refine wq_skip HF rfl rfl rfl rfl rfl rfl ?_; clear HF a; intro a HF
  refine wq_y rfl HF rfl rfl (fun _ HS => (yl_pick_f rfl (HF.ev rfl) (HF.ev rfl))) ?_; clear HF a; intro a HF
  refine wq_y rfl HF rfl rfl (fun _ HS => (yl_move rfl (HF.ev rfl))) ?_; clear HF a; intro a HF
  refine wq_skip HF rfl rfl rfl rfl rfl rfl ?_; clear HF a; intro a HF
  refine wq_skip HF rfl rfl rfl rfl rfl rfl ?_; clear HF a; intro a HF
  refine wq_skip HF rfl rfl rfl rfl rfl rfl ?_; clear HF a; intro a HF
  refine wq_skip HF rfl rfl rfl rfl rfl rfl ?_; clear HF a; intro a HF
  refine wq_skip HF rfl rfl rfl rfl rfl rfl ?_; clear HF a; intro a HF
  refine wq_y rfl HF rfl rfl (fun _ HS => (yl_pick_f rfl (HF.ev rfl) (HF.ev rfl))) ?_; clear HF a; intro a HF
  refine wq_y rfl HF rfl rfl (fun _ HS => (yl_assign rfl (HF.ev rfl))) ?_; clear HF a; intro a HF
  refine wpQuiet_nil ?_; intro w5 HS; replace HS := Bx.mk HS
  refine ex_then ?_
  refine wp_ret ?_
  refine bp_ret1 HF Try.results167 (HF.res rfl) ?_
  have hfn : PtrD.fits p t = false := by simp only [PtrD.fits, cc1, cond_true, cond_false]
  exact ⟨by rw [hfn] <;> rfl, HS.out.bel⟩

theorem PtrD.fits_size {p : PtrD} {t : ByteArray} (h : p.fits t = true) : p.ok = true ∧ p.hole = false ∧ p.fSize = (t.size : Int) ∧ p.fSum = sumOf t := by
  unfold PtrD.fits at h
  cases h1 : p.ok with
  | false => rw [h1] at h; cases h
  | true =>
    cases h2 : p.hole with
    | true => rw [h1, h2] at h; cases h
    | false =>
      cases h3 : (p.fSize == (t.size : Int)) with
      | false => rw [h1, h2, h3] at h; cases h
      | true => rw [h1, h2, h3] at h; exact ⟨rfl, rfl, eq_of_beq h3, eq_of_beq h⟩
theorem PtrD.ok_bounds {p : PtrD} (h : p.ok = true) (h2 : p.hole = false) : 8 ≤ p.fAt ∧ p.fAt ≤ 63 ∧ 1 ≤ p.fSize ∧ p.fSize ≤ 128 := by
  unfold PtrD.ok at h
  rw [h2, Bool.false_or] at h
  simp only [Bool.and_eq_true] at h
  have h1 := inB_true h.1.1.1.1
  have h3 := inB_true h.1.1.2
  omega
/-- A text, so many times. -/
def manyB (s : ByteArray) : Nat → ByteArray
  | 0 => ByteArray.empty
  | n + 1 => s ++ manyB s n
theorem manyB_size (s : ByteArray) (n : Nat) : (manyB s n).size = n * s.size := by
  induction n with
  | zero => simp [manyB]
  | succ n ih => unfold manyB; rw [ByteArray.size_append, ih, Nat.succ_mul]; omega
theorem manyB_two (s : ByteArray) (n : Nat) : manyB (s ++ s) n = manyB s (2 * n) := by
  induction n with
  | zero => rfl
  | succ n ih =>
    rw [show 2 * (n + 1) = 2 * n + 1 + 1 by omega]
    unfold manyB
    rw [ih]
    conv => rhs; rw [show manyB s (2 * n + 1) = s ++ manyB s (2 * n) from rfl]
    apply ba_ext
    simp [list_append]
theorem many_odd (o s : ByteArray) (n : Nat) (h : n % 2 = 1) : o ++ manyB s n = (o ++ s) ++ manyB (s ++ s) (n / 2) := by
  rw [manyB_two]
  obtain ⟨m, rfl⟩ : ∃ m, n = 2 * m + 1 := ⟨n / 2, by omega⟩
  rw [show (2 * m + 1) / 2 = m by omega]
  conv => lhs; rw [show manyB s (2 * m + 1) = s ++ manyB s (2 * m) from rfl]
  apply ba_ext
  simp [list_append]
theorem many_even (o s : ByteArray) (n : Nat) (h : ¬ n % 2 = 1) : o ++ manyB s n = o ++ manyB (s ++ s) (n / 2) := by
  rw [manyB_two, show 2 * (n / 2) = n by omega]

theorem l6Many_any (s : ByteArray) (n : Nat) (w0 : World) (hn : n ≤ 1000000) (hs : n * s.size ≤ 1000000000) (hs2 : s.size ≤ 1000000000) : Calls Try.prog 117 #[.string s, .int .i64 (n : Int)] w0 fun e w' => e = .returned (.string (manyB s n)) ∧ Below w0.heap.size w0 w' := by
 have HS := Bx.mk (St.start w0)
 refine wc_enter Try.func117 rfl Try.ntmps117 [(0, .string s), (1, .int .i64 (n : Int))] ⟨rfl, rfl, trivial⟩ rfl ?_; intro a HF
 refine wp_sr ?_
 refine wl_as HF rfl rfl rfl rfl rfl ?_; clear HF a; intro a HF
 refine wl_ne ?_
 refine wp_sr ?_
 refine wl_as HF rfl rfl rfl rfl rfl ?_; clear HF a; intro a HF
 refine wl_ne ?_
 refine wp_seq ?_
 refine wp_block ?_
 refine wc_loop (ι := Nat) (fun m a w => ∃ (t o : ByteArray), (m ≤ n ∧ o ++ manyB t m = manyB s n ∧ o.size + m * t.size = n * s.size ∧ t.size ≤ 2 * (n * s.size) + s.size) ∧ Fr 20 a [(0, .string t), (1, .int .i64 (m : Int)), (5, .string o)] ∧ St w0 ([]) w) (fun m => m) n ⟨s, ByteArray.empty, ⟨Nat.le_refl _, rfl, by simp, by omega⟩, HF.less _ ⟨rfl, rfl, rfl, trivial⟩, HS.out⟩ ?_
 clear HF HS; clear a
 rintro m a w1 ⟨t, o, ⟨hm, hq, hz, ht⟩, HF, HS⟩
 replace HS := Bx.mk HS
 refine wp_seq ?_
 refine wp_sr ?_
 refine wl_mv HF rfl rfl rfl rfl rfl ?_; clear HF a; intro a HF
 refine wl_y rfl HF rfl rfl (yl_gtrI rfl (HF.ev rfl) (HF.ev rfl)) ?_; clear HF a; intro a HF
 refine wl_ne ?_
 refine HF.cases 7 rfl (fun cc1 HF1 => ?_) (fun cc1 HF1 => ?_)
 ·clear HF; have HF := HF1; clear HF1
  have dcc1 := of_decide_eq_true cc1
  refine wc_true HF rfl ?_
  refine wp_skip ?_
  refine ex_then ?_
  refine wp_block ?_
  refine wp_seq ?_
  refine wp_seq ?_
  have hm1 : 1 * t.size ≤ m * t.size := Nat.mul_le_mul_right _ (by omega)
  refine wp_region_lit ?_
  refine wl_mv HF rfl rfl rfl rfl rfl ?_; clear HF a; intro a HF
  refine wl_y rfl HF rfl rfl (yl_remI rfl (HF.ev rfl) (HF.ev rfl) (by omega) (rem_pos (by omega) (by omega))) ?_; clear HF a; intro a HF
  refine wl_y rfl HF rfl rfl (yl_eqlI rfl (HF.ev rfl) (HF.ev rfl)) ?_; clear HF a; intro a HF
  refine wl_ne ?_
  refine HF.cases 10 rfl (fun cc2 HF1 => ?_) (fun cc2 HF1 => ?_)
  ·clear HF; have HF := HF1; clear HF1
   have dcc2 := eq_of_beq cc2
   refine wc_true HF rfl ?_
   refine wp_region_lit ?_
   refine wl_mv HF rfl rfl rfl rfl rfl ?_; clear HF a; intro a HF
   refine wl_mv HF rfl rfl rfl rfl rfl ?_; clear HF a; intro a HF
   refine wl_y rfl HF rfl rfl (yl_addS rfl (HF.ev rfl) (HF.ev rfl) (by omega)) ?_; clear HF a; intro a HF
   refine wl_as HF rfl rfl rfl rfl rfl ?_; clear HF a; intro a HF
   refine wl_ne ?_
   refine wp_sr ?_
   refine wl_mv HF rfl rfl rfl rfl rfl ?_; clear HF a; intro a HF
   refine wl_mv HF rfl rfl rfl rfl rfl ?_; clear HF a; intro a HF
   refine wl_y rfl HF rfl rfl (yl_addS rfl (HF.ev rfl) (HF.ev rfl) (by omega)) ?_; clear HF a; intro a HF
   refine wl_as HF rfl rfl rfl rfl rfl ?_; clear HF a; intro a HF
   refine wl_ne ?_
   refine wp_region_lit ?_
   refine wl_mv HF rfl rfl rfl rfl rfl ?_; clear HF a; intro a HF
   refine wl_y rfl HF rfl rfl (yl_quoI rfl (HF.ev rfl) (HF.ev rfl) (by omega) (quo_pos (by omega) (by omega) (by omega))) ?_; clear HF a; intro a HF
   refine wl_as HF rfl rfl rfl rfl rfl ?_; clear HF a; intro a HF
   refine wpList_nil ?_
   refine ex_block ?_
   refine ex_then ?_
   have hmm : m / 2 + m / 2 + m % 2 = m := by omega
   have ho : m % 2 = 1 := by omega
   rw [many_odd o t m ho] at hq
   have hts : (t ++ t).size = t.size + t.size := ByteArray.size_append
   have hos : (o ++ t).size = o.size + t.size := ByteArray.size_append
   have hmt : (m / 2) * (t.size + t.size) + (m % 2) * t.size = m * t.size := by rw [Nat.mul_add, ← Nat.add_mul, ← Nat.add_mul, hmm]
   have hm1 : 1 * t.size ≤ m * t.size := Nat.mul_le_mul_right _ (by omega)
   rw [ho, Nat.one_mul] at hmt
   exact ⟨m / 2, ⟨_, _, ⟨by omega, hq, by rw [hts, hos]; omega, by rw [hts]; omega⟩, HF.less _ ⟨rfl, (by show _ = some (Value.int .i64 ((m / 2 : Nat) : Int)); rw [show ((m / 2 : Nat) : Int) = (m : Int) / 2 by omega]; rfl), rfl, trivial⟩, HS.out⟩, (by omega)⟩
  ·clear HF; have HF := HF1; clear HF1
   have dcc2 := ne_of_beq_false cc2
   refine wc_false HF rfl ?_
   refine wp_skip ?_
   refine ex_then ?_
   refine wp_sr ?_
   refine wl_mv HF rfl rfl rfl rfl rfl ?_; clear HF a; intro a HF
   refine wl_mv HF rfl rfl rfl rfl rfl ?_; clear HF a; intro a HF
   refine wl_y rfl HF rfl rfl (yl_addS rfl (HF.ev rfl) (HF.ev rfl) (by omega)) ?_; clear HF a; intro a HF
   refine wl_as HF rfl rfl rfl rfl rfl ?_; clear HF a; intro a HF
   refine wl_ne ?_
   refine wp_region_lit ?_
   refine wl_mv HF rfl rfl rfl rfl rfl ?_; clear HF a; intro a HF
   refine wl_y rfl HF rfl rfl (yl_quoI rfl (HF.ev rfl) (HF.ev rfl) (by omega) (quo_pos (by omega) (by omega) (by omega))) ?_; clear HF a; intro a HF
   refine wl_as HF rfl rfl rfl rfl rfl ?_; clear HF a; intro a HF
   refine wpList_nil ?_
   refine ex_block ?_
   refine ex_then ?_
   have hmm : m / 2 + m / 2 + m % 2 = m := by omega
   have ho : ¬ m % 2 = 1 := by omega
   rw [many_even o t m ho] at hq
   have hts : (t ++ t).size = t.size + t.size := ByteArray.size_append
   have hmt : (m / 2) * (t.size + t.size) + (m % 2) * t.size = m * t.size := by rw [Nat.mul_add, ← Nat.add_mul, ← Nat.add_mul, hmm]
   have hm1 : 1 * t.size ≤ m * t.size := Nat.mul_le_mul_right _ (by omega)
   rw [show m % 2 = 0 by omega, Nat.zero_mul] at hmt
   exact ⟨m / 2, ⟨_, _, ⟨by omega, hq, by rw [hts]; omega, by rw [hts]; omega⟩, HF.less _ ⟨rfl, (by show _ = some (Value.int .i64 ((m / 2 : Nat) : Int)); rw [show ((m / 2 : Nat) : Int) = (m : Int) / 2 by omega]; rfl), rfl, trivial⟩, HS.out⟩, (by omega)⟩
 ·clear HF; have HF := HF1; clear HF1
  have dcc1 := of_decide_eq_false cc1
  refine wc_false HF rfl ?_
  refine wp_exit ?_
  refine ex_then_exit ?_
  refine ex_then_exit ?_
  refine ex_block_hit ?_
  refine ex_then ?_
  refine wp_sr ?_
  refine wl_mv HF rfl rfl rfl rfl rfl ?_; clear HF a; intro a HF
  refine wl_as HF rfl rfl rfl rfl rfl ?_; clear HF a; intro a HF
  refine wl_ne ?_
  refine wp_ret ?_
  refine bp_ret1 HF Try.results117 (HF.res rfl) ?_
  obtain rfl : m = 0 := by omega
  have ho : o = manyB s n := by rw [← hq]; apply ba_ext; simp [list_append, manyB]
  exact ⟨by rw [ho], HS.out.bel⟩

def goneX : ByteArray := manyB (⟨#[120]⟩ : ByteArray) 200
def colS (d : DiskD) (m : Nat) : ByteArray := bif d.fGone then goneX else d.look m
def colsS (ps : List HD) (m : Nat) : List ByteArray := ps.map fun p => colS p.d m
theorem colsS_succ (ps : List HD) (m k : Nat) (hk : k < ps.length) : colsS (ps.take (k + 1)) m = colsS (ps.take k) m ++ [colS (ps.getD k default).d m] := by
  unfold colsS
  rw [List.take_succ_eq_append_getElem hk, List.map_append, getD_get hk]; rfl

theorem l4Cols_any (a0 : Option Addr) (c0 : Nat) (ps : List HD) (w0 : World) (hl : ps.length ≤ 1048576) (hok : ∀ k, k < ps.length → (ps.getD k default).d.ok = true) (hR : Rd HD.cells 3 w0 a0 ps.length ps) (hP : ∀ k, k < ps.length → (ps.getD k default).reads w0) (m : Nat) (hm : m < 64) : Calls Try.prog 152 #[.agg #[.slice a0 ps.length c0], .int .i64 (m : Int)] w0 fun e w' => ∃ ao cp, e = .returned (.slice ao ps.length cp) ∧ St w0 [rowA encS 1 9 (.slice ao ps.length cp) (colsS ps m)] w' := by
 have HR := Bx.mk hR; have HP := Bx.mk hP; clear hR hP
 have HS := Bx.mk (St.start w0)
 refine wc_enter Try.func152 rfl Try.ntmps152 [(0, .agg #[.slice a0 ps.length c0]), (1, .int .i64 (m : Int))] ⟨rfl, rfl, trivial⟩ rfl ?_; intro a HF
 refine wp_sr ?_
 refine wl_box rfl HF rfl (HF.ev rfl) (Z := [.slice a0 ps.length c0]) rfl rfl rfl rfl HS.out ?_; clear HF HS a; intro a w1 b1 HF HS; replace HS := Bx.mk HS
 refine wl_as HF rfl rfl rfl rfl rfl ?_; clear HF a; intro a HF
 refine wl_ne ?_
 refine wp_sr ?_
 refine wl_empty (e := 9) (size := 1) rfl HF rfl rfl rfl (by kernel_rfl) HS.out ?_; clear HF HS a; intro a w2 b2 HF HS; replace HS := Bx.mk HS
 refine wl_as HF rfl rfl rfl rfl rfl ?_; clear HF a; intro a HF
 refine wl_ne ?_
 refine wp_seq ?_
 refine wp_sr ?_
 refine wl_as HF rfl rfl rfl rfl rfl ?_; clear HF a; intro a HF
 refine wl_ne ?_
 refine wp_block ?_
 replace HS := Bx.mk (HS.out.nilRow encS 1 9 (some ⟨b2, 0, none⟩))
 refine wc_loop (ι := Nat) (fun k a w => ∃ (ao : Option Addr) (cp : Nat) (xs : List ByteArray), (k ≤ ps.length ∧ xs = colsS (ps.take k) m) ∧ Fr 36 a [(1, .int .i64 (m : Int)), (2, .pointer (some ⟨b1, 0, none⟩)), (5, .slice ao xs.length cp), (6, .int .i64 (k : Int))] ∧ St w0 ([rowA encS 1 9 (.slice ao xs.length cp) xs, boxA b1 1 25 (.agg #[.slice a0 ps.length c0])]) w) (fun k => ps.length - k) 0 ⟨_, _, [], ⟨Nat.zero_le _, rfl⟩, HF.less _ ⟨rfl, rfl, rfl, rfl, trivial⟩, HS.out⟩ ?_
 clear HF HS; clear a
 rintro k a w3 ⟨ao, cp, xs, ⟨hk, hq⟩, HF, HS⟩
 replace HS := Bx.mk HS
 have hxl : xs.length = k := by rw [hq]; unfold colsS; rw [List.length_map, List.length_take]; omega
 refine wp_seq ?_
 refine wp_sr ?_
 refine wl_mv HF rfl rfl rfl rfl rfl ?_; clear HF a; intro a HF
 refine wl_y rfl HF rfl rfl (yl_fieldAddr (j := 0) rfl (HF.ev rfl) (by kernel_rfl)) ?_; clear HF a; intro a HF
 refine wl_y rfl HF rfl rfl (yl_load (v := .slice a0 ps.length c0) rfl (HF.ev rfl) (((HS.out.box 1 rfl).cell 0).trans rfl) (by kernel_rfl)) ?_; clear HF a; intro a HF
 refine wl_y rfl HF rfl rfl (yl_lenL (e := 44) (size := 3) rfl (HF.ev rfl) (by kernel_rfl)) ?_; clear HF a; intro a HF
 refine wl_y rfl HF rfl rfl (yl_lssI rfl (HF.ev rfl) (HF.ev rfl)) ?_; clear HF a; intro a HF
 refine wl_ne ?_
 refine HF.cases 12 rfl (fun cc1 HF1 => ?_) (fun cc1 HF1 => ?_)
 ·clear HF; have HF := HF1; clear HF1
  have dcc1 := of_decide_eq_true cc1
  refine wc_true HF rfl ?_
  refine wp_skip ?_
  refine ex_then ?_
  refine wp_seq ?_
  refine wp_block ?_
  refine wp_seq ?_
  refine wp_seq ?_
  obtain ⟨g0, o0, r0⟩ := HR.out.opn; have R0 := Bx.mk r0; clear r0
  have hok2 := ok_waits (hok k (by omega))
  refine wp_region_lit ?_
  refine wl_y rfl HF rfl rfl (yl_fieldAddr (j := 0) rfl (HF.ev rfl) (by kernel_rfl)) ?_; clear HF a; intro a HF
  refine wl_y rfl HF rfl rfl (yl_load (v := .slice a0 ps.length c0) rfl (HF.ev rfl) (((HS.out.box 1 rfl).cell 0).trans rfl) (by kernel_rfl)) ?_; clear HF a; intro a HF
  refine wl_mv HF rfl rfl rfl rfl rfl ?_; clear HF a; intro a HF
  refine wl_y rfl HF rfl rfl (yl_indexAddrR (e := 44) (i := k) (size := 3) rfl (HF.ev rfl) (HF.ev rfl) (by kernel_rfl) rfl (by omega) (R0.out.ao k (by omega))) ?_; clear HF a; intro a HF
  refine wl_y rfl HF rfl rfl (yl_fieldAddr (j := 2) rfl (HF.ev rfl) (by kernel_rfl)) ?_; clear HF a; intro a HF
  refine wl_y rfl HF rfl rfl (yl_load (v := .bool ((ps.getD k default).d.fGone)) rfl (HF.ev rfl) (R0.out.elem HS.out (get_getD (xs := ps) (j := k) (d := default) (by omega)) 2 _ rfl) (by kernel_rfl)) ?_; clear HF a; intro a HF
  refine wl_ne ?_
  refine HF.cases 20 rfl (fun cc2 HF1 => ?_) (fun cc2 HF1 => ?_)
  ·clear HF; have HF := HF1; clear HF1
   refine wc_true HF rfl ?_
   refine wp_sr ?_
   refine wl_mv HF rfl rfl rfl rfl rfl ?_; clear HF a; intro a HF
   refine wl_callB rfl HF rfl (enter_of Try.func117 (by kernel_rfl) rfl) (args := #[.string (⟨#[120]⟩ : ByteArray), .int .i64 200]) rfl (v := .string goneX) (l6Many_any (⟨#[120]⟩ : ByteArray) 200 _ (by decide) (by decide) (by decide)) rfl rfl HS.out ?_; clear HF HS a; intro w4 a HS HF; replace HS := Bx.mk HS
   refine wl_buildS (enc := encS) (e := 9) (size := 1) rfl HF rfl rfl rfl (ps := [(0, .string goneX)]) rfl (cells := [.string goneX]) (by kernel_rfl) [goneX] rfl rfl (by unfold maxLen; omega) rfl HS.out ?_; clear HF HS a; intro b3 a w5 HF HS; replace HS := Bx.mk HS
   refine wl_appL rfl HF rfl rfl rfl (HF.ev rfl) (HF.ev rfl) elemS encS_len HS.out 1 (xs := xs) rfl (ys := [goneX]) (St.rdN HS.out encS_len 0 rfl) (cells_one_S _) (by unfold maxLen; simp only [List.length_cons, List.length_nil]; omega) (by simp only [List.length_cons, List.length_nil]; omega) ?_; clear HF HS a; intro ao4 cp5 w6 a HF HS; replace HS := Bx.mk HS
   replace HS : Bx (St w0 ([rowA encS 1 9 (.slice (some ⟨b3, 0, none⟩) 1 1) ([goneX]), rowA encS 1 9 (.slice ao4 (xs.length + ([goneX]).length) cp5) (xs ++ ([goneX])), boxA b1 1 25 (.agg #[.slice a0 ps.length c0])]) _) := ⟨HS.out⟩
   refine wl_as HF rfl rfl rfl rfl rfl ?_; clear HF a; intro a HF
   refine wl_ne ?_
   refine wp_exit ?_
   refine ex_then_exit ?_
   refine ex_block_hit ?_
   refine ex_then ?_
   refine wp_region_lit ?_
   refine wl_mv HF rfl rfl rfl rfl rfl ?_; clear HF a; intro a HF
   refine wl_y rfl HF rfl rfl (yl_addI rfl (HF.ev rfl) (HF.ev rfl) (i64w (by omega))) ?_; clear HF a; intro a HF
   refine wl_as HF rfl rfl rfl rfl rfl ?_; clear HF a; intro a HF
   refine wl_ne ?_
   have hz : xs.length + [goneX].length = (xs ++ [goneX]).length := (List.length_append ..).symm
   rw [hz] at HS HF
   have hnext : xs ++ [goneX] = colsS (ps.take (k + 1)) m := by rw [colsS_succ ps m k (by omega), ← hq]; unfold colS; rw [cc2]; rfl
   replace HS : Bx (St w0 ([rowA encS 1 9 (.slice ao4 ((xs ++ [goneX]).length) cp5) (xs ++ ([goneX])), boxA b1 1 25 (.agg #[.slice a0 ps.length c0]), rowA encS 1 9 (.slice (some ⟨b3, 0, none⟩) 1 1) ([goneX])]) _) := ⟨((HS.out).pick 2 rfl).pick 2 rfl⟩
   exact ⟨k + 1, ⟨_, _, xs ++ [goneX], ⟨by omega, hnext⟩, HF.less _ ⟨rfl, rfl, rfl, rfl, trivial⟩, (HS.out.erase 2)⟩, (by omega)⟩
  ·clear HF; have HF := HF1; clear HF1
   refine wc_false HF rfl ?_
   refine wp_skip ?_
   refine ex_then ?_
   refine wp_region_lit ?_
   refine wl_mv HF rfl rfl rfl rfl rfl ?_; clear HF a; intro a HF
   refine wl_y rfl HF rfl rfl (yl_fieldAddr (j := 0) rfl (HF.ev rfl) (by kernel_rfl)) ?_; clear HF a; intro a HF
   refine wl_y rfl HF rfl rfl (yl_load (v := .slice a0 ps.length c0) rfl (HF.ev rfl) (((HS.out.box 1 rfl).cell 0).trans rfl) (by kernel_rfl)) ?_; clear HF a; intro a HF
   refine wl_mv HF rfl rfl rfl rfl rfl ?_; clear HF a; intro a HF
   refine wl_y rfl HF rfl rfl (yl_indexAddrR (e := 44) (i := k) (size := 3) rfl (HF.ev rfl) (HF.ev rfl) (by kernel_rfl) rfl (by omega) (R0.out.ao k (by omega))) ?_; clear HF a; intro a HF
   refine wl_y rfl HF rfl rfl (yl_loadR (cs := [.slice ((ps.getD k default).a0) ((ps.getD k default).d.fCells.length) ((ps.getD k default).c0), .slice ((ps.getD k default).a1) ((ps.getD k default).d.fWaits.length) ((ps.getD k default).c1), .bool ((ps.getD k default).d.fGone)]) rfl (HF.ev rfl) (R0.out.elem HS.out (get_getD (xs := ps) (j := k) (d := default) (by omega))) (by kernel_rfl)) ?_; clear HF a; intro a HF
   refine wl_mv HF rfl rfl rfl rfl rfl ?_; clear HF a; intro a HF
   refine wl_callB rfl HF rfl (enter_of Try.func168 (by kernel_rfl) rfl) (args := #[.agg #[.slice ((ps.getD k default).a0) ((ps.getD k default).d.fCells.length) ((ps.getD k default).c0), .slice ((ps.getD k default).a1) ((ps.getD k default).d.fWaits.length) ((ps.getD k default).c1), .bool ((ps.getD k default).d.fGone)], .int .i64 (m : Int)]) rfl (v := .string ((ps.getD k default).d.look m)) (l3Read_any (ps.getD k default).a0 (ps.getD k default).c0 (ps.getD k default).a1 (ps.getD k default).c1 (ps.getD k default).d m _ (by rw [hok2.1]; exact hm) hok2.1 (by omega) ((HP.out k (by omega)).below HS.out.bel).rc ((HP.out k (by omega)).below HS.out.bel).rw) rfl rfl HS.out ?_; clear HF HS a; intro w7 a HS HF; replace HS := Bx.mk HS
   refine wl_buildS (enc := encS) (e := 9) (size := 1) rfl HF rfl rfl rfl (ps := [(0, .string ((ps.getD k default).d.look m))]) rfl (cells := [.string ((ps.getD k default).d.look m)]) (by kernel_rfl) [(ps.getD k default).d.look m] rfl rfl (by unfold maxLen; omega) rfl HS.out ?_; clear HF HS a; intro b6 a w8 HF HS; replace HS := Bx.mk HS
   refine wl_appL rfl HF rfl rfl rfl (HF.ev rfl) (HF.ev rfl) elemS encS_len HS.out 1 (xs := xs) rfl (ys := [(ps.getD k default).d.look m]) (St.rdN HS.out encS_len 0 rfl) (cells_one_S _) (by unfold maxLen; simp only [List.length_cons, List.length_nil]; omega) (by simp only [List.length_cons, List.length_nil]; omega) ?_; clear HF HS a; intro ao7 cp8 w9 a HF HS; replace HS := Bx.mk HS
   replace HS : Bx (St w0 ([rowA encS 1 9 (.slice (some ⟨b6, 0, none⟩) 1 1) ([(ps.getD k default).d.look m]), rowA encS 1 9 (.slice ao7 (xs.length + ([(ps.getD k default).d.look m]).length) cp8) (xs ++ ([(ps.getD k default).d.look m])), boxA b1 1 25 (.agg #[.slice a0 ps.length c0])]) _) := ⟨HS.out⟩
   refine wl_as HF rfl rfl rfl rfl rfl ?_; clear HF a; intro a HF
   refine wpList_nil ?_
   refine ex_block ?_
   refine ex_then ?_
   refine wp_region_lit ?_
   refine wl_mv HF rfl rfl rfl rfl rfl ?_; clear HF a; intro a HF
   refine wl_y rfl HF rfl rfl (yl_addI rfl (HF.ev rfl) (HF.ev rfl) (i64w (by omega))) ?_; clear HF a; intro a HF
   refine wl_as HF rfl rfl rfl rfl rfl ?_; clear HF a; intro a HF
   refine wl_ne ?_
   have hz : xs.length + [(ps.getD k default).d.look m].length = (xs ++ [(ps.getD k default).d.look m]).length := (List.length_append ..).symm
   rw [hz] at HS HF
   have hnext : xs ++ [(ps.getD k default).d.look m] = colsS (ps.take (k + 1)) m := by rw [colsS_succ ps m k (by omega), ← hq]; unfold colS; rw [cc2]; rfl
   replace HS : Bx (St w0 ([rowA encS 1 9 (.slice ao7 ((xs ++ [(ps.getD k default).d.look m]).length) cp8) (xs ++ ([(ps.getD k default).d.look m])), boxA b1 1 25 (.agg #[.slice a0 ps.length c0]), rowA encS 1 9 (.slice (some ⟨b6, 0, none⟩) 1 1) ([(ps.getD k default).d.look m])]) _) := ⟨((HS.out).pick 2 rfl).pick 2 rfl⟩
   exact ⟨k + 1, ⟨_, _, xs ++ [(ps.getD k default).d.look m], ⟨by omega, hnext⟩, HF.less _ ⟨rfl, rfl, rfl, rfl, trivial⟩, (HS.out.erase 2)⟩, (by omega)⟩
 ·clear HF; have HF := HF1; clear HF1
  have dcc1 := of_decide_eq_false cc1
  refine wc_false HF rfl ?_
  refine wp_exit ?_
  refine ex_then_exit ?_
  refine ex_then_exit ?_
  refine ex_block_hit ?_
  refine ex_then ?_
  refine wp_sr ?_
  refine wl_mv HF rfl rfl rfl rfl rfl ?_; clear HF a; intro a HF
  refine wl_as HF rfl rfl rfl rfl rfl ?_; clear HF a; intro a HF
  refine wl_ne ?_
  refine wp_ret ?_
  refine bp_ret1 HF Try.results152 (HF.res rfl) ?_
  replace HS : Bx (St w0 ([rowA encS 1 9 (.slice ao xs.length cp) xs, boxA b1 1 25 (.agg #[.slice a0 ps.length c0])]) _) := ⟨(HS.out).pick 0 rfl⟩
  obtain rfl : k = ps.length := by omega
  rw [List.take_length] at hq; subst hq
  exact ⟨_, _, by rw [hxl], by rw [← hxl]; exact (HS.out.erase 1)⟩

theorem joinB_le (c0 c1 c2 : ByteArray) (n : Nat) (l : Int) (hn : 1 ≤ n) : ((joinB c0 c1 c2 n l).getD ByteArray.empty).size ≤ n := by
  have hb := half_bounds n hn
  unfold joinB
  split
  · rename_i h; simp only [Option.getD_some, ByteArray.size_append]; omega
  · split
    · rename_i h; simp only [Option.getD_some, ByteArray.size_append, xorB_size]; omega
    · split
      · rename_i h
        simp only [Option.getD_some, ByteArray.size_append]
        rw [size_list (ByteArray.extract _ _ _), list_extract, List.length_take]
        omega
      · simp

def readF (x0 x1 x2 : ByteArray) (p : PtrD) (n : Nat) : ByteArray × Bool := (bif (joinB x0 x1 x2 n (-1)).isSome then (bif p.fits ((joinB x0 x1 x2 n (-1)).getD ByteArray.empty) then ((joinB x0 x1 x2 n (-1)).getD ByteArray.empty, true) else (bif (joinB x0 x1 x2 n (0)).isSome then (bif p.fits ((joinB x0 x1 x2 n (0)).getD ByteArray.empty) then ((joinB x0 x1 x2 n (0)).getD ByteArray.empty, true) else (bif (joinB x0 x1 x2 n (1)).isSome then (bif p.fits ((joinB x0 x1 x2 n (1)).getD ByteArray.empty) then ((joinB x0 x1 x2 n (1)).getD ByteArray.empty, true) else ((⟨#[]⟩ : ByteArray), false)) else ((⟨#[]⟩ : ByteArray), false))) else (bif (joinB x0 x1 x2 n (1)).isSome then (bif p.fits ((joinB x0 x1 x2 n (1)).getD ByteArray.empty) then ((joinB x0 x1 x2 n (1)).getD ByteArray.empty, true) else ((⟨#[]⟩ : ByteArray), false)) else ((⟨#[]⟩ : ByteArray), false)))) else (bif (joinB x0 x1 x2 n (0)).isSome then (bif p.fits ((joinB x0 x1 x2 n (0)).getD ByteArray.empty) then ((joinB x0 x1 x2 n (0)).getD ByteArray.empty, true) else (bif (joinB x0 x1 x2 n (1)).isSome then (bif p.fits ((joinB x0 x1 x2 n (1)).getD ByteArray.empty) then ((joinB x0 x1 x2 n (1)).getD ByteArray.empty, true) else ((⟨#[]⟩ : ByteArray), false)) else ((⟨#[]⟩ : ByteArray), false))) else (bif (joinB x0 x1 x2 n (1)).isSome then (bif p.fits ((joinB x0 x1 x2 n (1)).getD ByteArray.empty) then ((joinB x0 x1 x2 n (1)).getD ByteArray.empty, true) else ((⟨#[]⟩ : ByteArray), false)) else ((⟨#[]⟩ : ByteArray), false))))

theorem l4Read_any (a0 : Option Addr) (c0 : Nat) (ps : List HD) (w0 : World) (hl : ps.length = 3) (hok : ∀ k, k < ps.length → (ps.getD k default).d.ok = true) (hR : Rd HD.cells 3 w0 a0 ps.length ps) (hP : ∀ k, k < ps.length → (ps.getD k default).reads w0) (p : PtrD) (m n : Nat) (hpa : p.fAt = (m : Int)) (hps : p.fSize = (n : Int)) (hm : m < 64) (hn1 : 1 ≤ n) (hn2 : n ≤ 128) (x0 x1 x2 : ByteArray) (hz0 : x0.size ≤ 1048576) (hz1 : x1.size ≤ 1048576) (hz2 : x2.size ≤ 1048576) (hx : colsS ps m = [x0, x1, x2]) : Calls Try.prog 151 #[.agg #[.slice a0 3 c0], .agg #[.int .i64 p.fAt, .int .i64 p.fBirth, .int .i64 p.fSize, .int .i64 p.fSum, .int .i64 p.fLevel]] w0 fun e w' => e = .returned (.tuple #[.string (readF x0 x1 x2 p n).1, .bool (readF x0 x1 x2 p n).2]) ∧ Below w0.heap.size w0 w' := by
 have HR := Bx.mk hR; have HP := Bx.mk hP; clear hR hP
 have HS := Bx.mk (St.start w0)
 refine wc_enter Try.func151 rfl Try.ntmps151 [(0, .agg #[.slice a0 3 c0]), (1, .agg #[.int .i64 p.fAt, .int .i64 p.fBirth, .int .i64 p.fSize, .int .i64 p.fSum, .int .i64 p.fLevel])] ⟨rfl, rfl, trivial⟩ rfl ?_; intro a HF
 refine wp_sr ?_
 refine wl_box rfl HF rfl (HF.ev rfl) (Z := [.slice a0 3 c0]) rfl rfl rfl rfl HS.out ?_; clear HF HS a; intro a w1 b1 HF HS; replace HS := Bx.mk HS
 refine wl_box rfl HF rfl (HF.ev rfl) (Z := [.int .i64 p.fAt, .int .i64 p.fBirth, .int .i64 p.fSize, .int .i64 p.fSum, .int .i64 p.fLevel]) rfl rfl rfl rfl HS.out ?_; clear HF HS a; intro a w2 b2 HF HS; replace HS := Bx.mk HS
 refine wl_as HF rfl rfl rfl rfl rfl ?_; clear HF a; intro a HF
 refine wl_as HF rfl rfl rfl rfl rfl ?_; clear HF a; intro a HF
 refine wl_ne ?_
 refine wp_sr ?_
 refine wl_y rfl HF rfl rfl (yl_loadR (cs := [.slice a0 3 c0]) rfl (HF.ev rfl) ((HS.out.box 1 rfl).sub 0 1) (by kernel_rfl)) ?_; clear HF a; intro a HF
 refine wl_y rfl HF rfl rfl (yl_fieldAddr (j := 0) rfl (HF.ev rfl) (by kernel_rfl)) ?_; clear HF a; intro a HF
 refine wl_y rfl HF rfl rfl (yl_load (v := .int .i64 p.fAt) rfl (HF.ev rfl) (((HS.out.box 0 rfl).cell 0).trans rfl) (by kernel_rfl)) ?_; clear HF a; intro a HF
 refine wl_call rfl HF rfl (enter_of Try.func152 (by kernel_rfl) rfl) (args := #[.agg #[.slice a0 3 c0], .int .i64 p.fAt]) rfl (by have := l4Cols_any a0 c0 ps _ (by omega) hok (HR.out.below HS.out.bel) (fun k hk => (HP.out k hk).below HS.out.bel) m hm; rw [hx, hl, ← hpa] at this; exact this) rfl rfl ?_
 rintro _ w3 ⟨ao, cp, rfl, hs⟩
 refine ⟨_, rfl, ?_⟩; replace HS := Bx.mk (HS.out.add hs); clear hs HF; clear a; intro a HF
 replace HS : Bx (St w0 ([rowA encS 1 9 (.slice ao 3 cp) ([x0, x1, x2]), boxA b2 5 33 (.agg #[.int .i64 p.fAt, .int .i64 p.fBirth, .int .i64 p.fSize, .int .i64 p.fSum, .int .i64 p.fLevel]), boxA b1 1 25 (.agg #[.slice a0 3 c0])]) _) := ⟨HS.out⟩
 refine wl_as HF rfl rfl rfl rfl rfl ?_; clear HF a; intro a HF
 refine wl_ne ?_
 refine wp_seq ?_
 refine wp_sr ?_
 refine wl_as HF rfl rfl rfl rfl rfl ?_; clear HF a; intro a HF
 refine wl_ne ?_
 refine wp_block ?_
 refine wc_rounds 4 ?_
 refine wp_seq ?_
 refine wp_sr ?_
 refine wl_mv HF rfl rfl rfl rfl rfl ?_; clear HF a; intro a HF
 refine wl_y rfl HF rfl rfl (yl_leqI rfl (HF.ev rfl) (HF.ev rfl)) ?_; clear HF a; intro a HF
 refine wl_ne ?_
 replace HF := HF.know (k := 15) (c := true) rfl (by decide)
 refine wc_true HF rfl ?_
 refine wp_skip ?_
 refine ex_then ?_
 refine wp_seq ?_
 refine wp_block ?_
 refine wp_sr ?_
 refine wl_mv HF rfl rfl rfl rfl rfl ?_; clear HF a; intro a HF
 refine wl_y rfl HF rfl rfl (yl_fieldAddr (j := 2) rfl (HF.ev rfl) (by kernel_rfl)) ?_; clear HF a; intro a HF
 refine wl_y rfl HF rfl rfl (yl_load (v := .int .i64 p.fSize) rfl (HF.ev rfl) (((HS.out.box 1 rfl).cell 2).trans rfl) (by kernel_rfl)) ?_; clear HF a; intro a HF
 refine wl_mv HF rfl rfl rfl rfl rfl ?_; clear HF a; intro a HF
 refine wl_callB rfl HF rfl (enter_of Try.func166 (by kernel_rfl) rfl) (args := #[.slice ao 3 cp, .int .i64 p.fSize, .int .i64 (-1)]) rfl (v := .tuple #[.string ((joinB x0 x1 x2 n (-1)).getD ByteArray.empty), .bool ((joinB x0 x1 x2 n (-1)).isSome)]) ((by have := joinNS_any ao cp x0 x1 x2 n _ hn1 hn2 hz0 hz1 hz2 (St.rdN HS.out encS_len 0 rfl); rw [← hps] at this; exact this)) rfl rfl HS.out ?_; clear HF HS a; intro w4 a HS HF; replace HS := Bx.mk HS
 refine wl_mv HF rfl rfl rfl rfl rfl ?_; clear HF a; intro a HF
 refine wl_y rfl HF rfl rfl (yl_extract rfl (HF.ev rfl) rfl) ?_; clear HF a; intro a HF
 refine wl_y rfl HF rfl rfl (yl_extract rfl (HF.ev rfl) rfl) ?_; clear HF a; intro a HF
 refine wl_as HF rfl rfl rfl rfl rfl ?_; clear HF a; intro a HF
 refine wl_as HF rfl rfl rfl rfl rfl ?_; clear HF a; intro a HF
 refine wl_ne ?_
 refine wp_sr ?_
 refine wl_mv HF rfl rfl rfl rfl rfl ?_; clear HF a; intro a HF
 refine wl_mv HF rfl rfl rfl rfl rfl ?_; clear HF a; intro a HF
 refine HF.cases 27 rfl (fun cc1 HF1 => ?_) (fun cc1 HF1 => ?_)
 ·clear HF; have HF := HF1; clear HF1
  refine wl_yg HF rfl rfl rfl rfl rfl (yl_loadR (cs := [.int .i64 p.fAt, .int .i64 p.fBirth, .int .i64 p.fSize, .int .i64 p.fSum, .int .i64 p.fLevel]) rfl (HF.ev rfl) ((HS.out.box 1 rfl).sub 0 5) (by kernel_rfl)) ?_; clear HF a; intro a HF
  refine wl_yg HF rfl rfl rfl rfl rfl (yl_move rfl (HF.ev rfl)) ?_; clear HF a; intro a HF
  refine wl_callBg HF rfl rfl rfl rfl (enter_of Try.func167 (by kernel_rfl) rfl) (args := #[.agg #[.int .i64 p.fAt, .int .i64 p.fBirth, .int .i64 p.fSize, .int .i64 p.fSum, .int .i64 p.fLevel], .string ((joinB x0 x1 x2 n (-1)).getD ByteArray.empty)]) rfl (v := .bool (p.fits ((joinB x0 x1 x2 n (-1)).getD ByteArray.empty))) (specFits_any p ((joinB x0 x1 x2 n (-1)).getD ByteArray.empty) _ (by have := joinB_le x0 x1 x2 n (-1) hn1; omega)) rfl rfl HS.out ?_; clear HF HS a; intro w5 a HS HF; replace HS := Bx.mk HS
  refine wl_y rfl HF rfl rfl (yl_pick_t rfl (HF.ev rfl) (HF.ev rfl)) ?_; clear HF a; intro a HF
  refine wl_ne ?_
  refine HF.cases 31 rfl (fun cc2 HF1 => ?_) (fun cc2 HF1 => ?_)
  ·clear HF; have HF := HF1; clear HF1
   refine wc_true HF rfl ?_
   refine wp_sr ?_
   refine wl_mv HF rfl rfl rfl rfl rfl ?_; clear HF a; intro a HF
   refine wl_as HF rfl rfl rfl rfl rfl ?_; clear HF a; intro a HF
   refine wl_as HF rfl rfl rfl rfl rfl ?_; clear HF a; intro a HF
   refine wl_ne ?_
   refine wp_ret ?_
   refine ex_block_ret ?_
   refine ex_then_ret ?_
   refine ex_then_ret ?_
   refine ex_block_ret ?_
   refine ex_then_ret ?_
   refine bp_ret2 HF Try.results151 (HF.res rfl) (HF.res rfl) ?_
   have hfn : readF x0 x1 x2 p n = ((joinB x0 x1 x2 n (-1)).getD ByteArray.empty, true) := by simp only [readF, cc1, cc2, cond_true, cond_false]
   exact ⟨by rw [hfn] <;> rfl, HS.out.bel⟩
  ·clear HF; have HF := HF1; clear HF1
   refine wc_false HF rfl ?_
   refine wp_skip ?_
   refine ex_block ?_
   refine ex_then ?_
   refine wp_region_lit ?_
   refine wl_mv HF rfl rfl rfl rfl rfl ?_; clear HF a; intro a HF
   refine wl_y rfl HF rfl rfl (yl_addI (r := 0) rfl (HF.ev rfl) (HF.ev rfl) (by decide)) ?_; clear HF a; intro a HF
   refine wl_as HF rfl rfl rfl rfl rfl ?_; clear HF a; intro a HF
   refine wl_ne ?_
   refine wc_round 3 ?_
   refine wp_seq ?_
   refine wp_sr ?_
   refine wl_mv HF rfl rfl rfl rfl rfl ?_; clear HF a; intro a HF
   refine wl_y rfl HF rfl rfl (yl_leqI rfl (HF.ev rfl) (HF.ev rfl)) ?_; clear HF a; intro a HF
   refine wl_ne ?_
   replace HF := HF.know (k := 15) (c := true) rfl (by decide)
   refine wc_true HF rfl ?_
   refine wp_skip ?_
   refine ex_then ?_
   refine wp_seq ?_
   refine wp_block ?_
   refine wp_sr ?_
   refine wl_mv HF rfl rfl rfl rfl rfl ?_; clear HF a; intro a HF
   refine wl_y rfl HF rfl rfl (yl_fieldAddr (j := 2) rfl (HF.ev rfl) (by kernel_rfl)) ?_; clear HF a; intro a HF
   refine wl_y rfl HF rfl rfl (yl_load (v := .int .i64 p.fSize) rfl (HF.ev rfl) (((HS.out.box 1 rfl).cell 2).trans rfl) (by kernel_rfl)) ?_; clear HF a; intro a HF
   refine wl_mv HF rfl rfl rfl rfl rfl ?_; clear HF a; intro a HF
   refine wl_callB rfl HF rfl (enter_of Try.func166 (by kernel_rfl) rfl) (args := #[.slice ao 3 cp, .int .i64 p.fSize, .int .i64 0]) rfl (v := .tuple #[.string ((joinB x0 x1 x2 n (0)).getD ByteArray.empty), .bool ((joinB x0 x1 x2 n (0)).isSome)]) ((by have := joinZS_any ao cp x0 x1 x2 n _ hn1 hn2 hz0 hz1 hz2 (St.rdN HS.out encS_len 0 rfl); rw [← hps] at this; exact this)) rfl rfl HS.out ?_; clear HF HS a; intro w6 a HS HF; replace HS := Bx.mk HS
   refine wl_mv HF rfl rfl rfl rfl rfl ?_; clear HF a; intro a HF
   refine wl_y rfl HF rfl rfl (yl_extract rfl (HF.ev rfl) rfl) ?_; clear HF a; intro a HF
   refine wl_y rfl HF rfl rfl (yl_extract rfl (HF.ev rfl) rfl) ?_; clear HF a; intro a HF
   refine wl_as HF rfl rfl rfl rfl rfl ?_; clear HF a; intro a HF
   refine wl_as HF rfl rfl rfl rfl rfl ?_; clear HF a; intro a HF
   refine wl_ne ?_
   refine wp_sr ?_
   refine wl_mv HF rfl rfl rfl rfl rfl ?_; clear HF a; intro a HF
   refine wl_mv HF rfl rfl rfl rfl rfl ?_; clear HF a; intro a HF
   refine HF.cases 27 rfl (fun cc3 HF1 => ?_) (fun cc3 HF1 => ?_)
   ·clear HF; have HF := HF1; clear HF1
    refine wl_yg HF rfl rfl rfl rfl rfl (yl_loadR (cs := [.int .i64 p.fAt, .int .i64 p.fBirth, .int .i64 p.fSize, .int .i64 p.fSum, .int .i64 p.fLevel]) rfl (HF.ev rfl) ((HS.out.box 1 rfl).sub 0 5) (by kernel_rfl)) ?_; clear HF a; intro a HF
    refine wl_yg HF rfl rfl rfl rfl rfl (yl_move rfl (HF.ev rfl)) ?_; clear HF a; intro a HF
    refine wl_callBg HF rfl rfl rfl rfl (enter_of Try.func167 (by kernel_rfl) rfl) (args := #[.agg #[.int .i64 p.fAt, .int .i64 p.fBirth, .int .i64 p.fSize, .int .i64 p.fSum, .int .i64 p.fLevel], .string ((joinB x0 x1 x2 n (0)).getD ByteArray.empty)]) rfl (v := .bool (p.fits ((joinB x0 x1 x2 n (0)).getD ByteArray.empty))) (specFits_any p ((joinB x0 x1 x2 n (0)).getD ByteArray.empty) _ (by have := joinB_le x0 x1 x2 n (0) hn1; omega)) rfl rfl HS.out ?_; clear HF HS a; intro w7 a HS HF; replace HS := Bx.mk HS
    refine wl_y rfl HF rfl rfl (yl_pick_t rfl (HF.ev rfl) (HF.ev rfl)) ?_; clear HF a; intro a HF
    refine wl_ne ?_
    refine HF.cases 31 rfl (fun cc4 HF1 => ?_) (fun cc4 HF1 => ?_)
    ·clear HF; have HF := HF1; clear HF1
     refine wc_true HF rfl ?_
     refine wp_sr ?_
     refine wl_mv HF rfl rfl rfl rfl rfl ?_; clear HF a; intro a HF
     refine wl_as HF rfl rfl rfl rfl rfl ?_; clear HF a; intro a HF
     refine wl_as HF rfl rfl rfl rfl rfl ?_; clear HF a; intro a HF
     refine wl_ne ?_
     refine wp_ret ?_
     refine ex_block_ret ?_
     refine ex_then_ret ?_
     refine ex_then_ret ?_
     refine ex_block_ret ?_
     refine ex_then_ret ?_
     refine bp_ret2 HF Try.results151 (HF.res rfl) (HF.res rfl) ?_
     have hfn : readF x0 x1 x2 p n = ((joinB x0 x1 x2 n (0)).getD ByteArray.empty, true) := by simp only [readF, cc1, cc2, cc3, cc4, cond_true, cond_false]
     exact ⟨by rw [hfn] <;> rfl, HS.out.bel⟩
    ·clear HF; have HF := HF1; clear HF1
     refine wc_false HF rfl ?_
     refine wp_skip ?_
     refine ex_block ?_
     refine ex_then ?_
     refine wp_region_lit ?_
     refine wl_mv HF rfl rfl rfl rfl rfl ?_; clear HF a; intro a HF
     refine wl_y rfl HF rfl rfl (yl_addI (r := 1) rfl (HF.ev rfl) (HF.ev rfl) (by decide)) ?_; clear HF a; intro a HF
     refine wl_as HF rfl rfl rfl rfl rfl ?_; clear HF a; intro a HF
     refine wl_ne ?_
     refine wc_round 2 ?_
     refine wp_seq ?_
     refine wp_sr ?_
     refine wl_mv HF rfl rfl rfl rfl rfl ?_; clear HF a; intro a HF
     refine wl_y rfl HF rfl rfl (yl_leqI rfl (HF.ev rfl) (HF.ev rfl)) ?_; clear HF a; intro a HF
     refine wl_ne ?_
     replace HF := HF.know (k := 15) (c := true) rfl (by decide)
     refine wc_true HF rfl ?_
     refine wp_skip ?_
     refine ex_then ?_
     refine wp_seq ?_
     refine wp_block ?_
     refine wp_sr ?_
     refine wl_mv HF rfl rfl rfl rfl rfl ?_; clear HF a; intro a HF
     refine wl_y rfl HF rfl rfl (yl_fieldAddr (j := 2) rfl (HF.ev rfl) (by kernel_rfl)) ?_; clear HF a; intro a HF
     refine wl_y rfl HF rfl rfl (yl_load (v := .int .i64 p.fSize) rfl (HF.ev rfl) (((HS.out.box 1 rfl).cell 2).trans rfl) (by kernel_rfl)) ?_; clear HF a; intro a HF
     refine wl_mv HF rfl rfl rfl rfl rfl ?_; clear HF a; intro a HF
     refine wl_callB rfl HF rfl (enter_of Try.func166 (by kernel_rfl) rfl) (args := #[.slice ao 3 cp, .int .i64 p.fSize, .int .i64 1]) rfl (v := .tuple #[.string ((joinB x0 x1 x2 n (1)).getD ByteArray.empty), .bool ((joinB x0 x1 x2 n (1)).isSome)]) ((by have := joinOS_any ao cp x0 x1 x2 n _ hn1 hn2 hz0 hz1 hz2 (St.rdN HS.out encS_len 0 rfl); rw [← hps] at this; exact this)) rfl rfl HS.out ?_; clear HF HS a; intro w8 a HS HF; replace HS := Bx.mk HS
     refine wl_mv HF rfl rfl rfl rfl rfl ?_; clear HF a; intro a HF
     refine wl_y rfl HF rfl rfl (yl_extract rfl (HF.ev rfl) rfl) ?_; clear HF a; intro a HF
     refine wl_y rfl HF rfl rfl (yl_extract rfl (HF.ev rfl) rfl) ?_; clear HF a; intro a HF
     refine wl_as HF rfl rfl rfl rfl rfl ?_; clear HF a; intro a HF
     refine wl_as HF rfl rfl rfl rfl rfl ?_; clear HF a; intro a HF
     refine wl_ne ?_
     refine wp_sr ?_
     refine wl_mv HF rfl rfl rfl rfl rfl ?_; clear HF a; intro a HF
     refine wl_mv HF rfl rfl rfl rfl rfl ?_; clear HF a; intro a HF
     refine HF.cases 27 rfl (fun cc5 HF1 => ?_) (fun cc5 HF1 => ?_)
     ·clear HF; have HF := HF1; clear HF1
      refine wl_yg HF rfl rfl rfl rfl rfl (yl_loadR (cs := [.int .i64 p.fAt, .int .i64 p.fBirth, .int .i64 p.fSize, .int .i64 p.fSum, .int .i64 p.fLevel]) rfl (HF.ev rfl) ((HS.out.box 1 rfl).sub 0 5) (by kernel_rfl)) ?_; clear HF a; intro a HF
      refine wl_yg HF rfl rfl rfl rfl rfl (yl_move rfl (HF.ev rfl)) ?_; clear HF a; intro a HF
      refine wl_callBg HF rfl rfl rfl rfl (enter_of Try.func167 (by kernel_rfl) rfl) (args := #[.agg #[.int .i64 p.fAt, .int .i64 p.fBirth, .int .i64 p.fSize, .int .i64 p.fSum, .int .i64 p.fLevel], .string ((joinB x0 x1 x2 n (1)).getD ByteArray.empty)]) rfl (v := .bool (p.fits ((joinB x0 x1 x2 n (1)).getD ByteArray.empty))) (specFits_any p ((joinB x0 x1 x2 n (1)).getD ByteArray.empty) _ (by have := joinB_le x0 x1 x2 n (1) hn1; omega)) rfl rfl HS.out ?_; clear HF HS a; intro w9 a HS HF; replace HS := Bx.mk HS
      refine wl_y rfl HF rfl rfl (yl_pick_t rfl (HF.ev rfl) (HF.ev rfl)) ?_; clear HF a; intro a HF
      refine wl_ne ?_
      refine HF.cases 31 rfl (fun cc6 HF1 => ?_) (fun cc6 HF1 => ?_)
      ·clear HF; have HF := HF1; clear HF1
       refine wc_true HF rfl ?_
       refine wp_sr ?_
       refine wl_mv HF rfl rfl rfl rfl rfl ?_; clear HF a; intro a HF
       refine wl_as HF rfl rfl rfl rfl rfl ?_; clear HF a; intro a HF
       refine wl_as HF rfl rfl rfl rfl rfl ?_; clear HF a; intro a HF
       refine wl_ne ?_
       refine wp_ret ?_
       refine ex_block_ret ?_
       refine ex_then_ret ?_
       refine ex_then_ret ?_
       refine ex_block_ret ?_
       refine ex_then_ret ?_
       refine bp_ret2 HF Try.results151 (HF.res rfl) (HF.res rfl) ?_
       have hfn : readF x0 x1 x2 p n = ((joinB x0 x1 x2 n (1)).getD ByteArray.empty, true) := by simp only [readF, cc1, cc2, cc3, cc4, cc5, cc6, cond_true, cond_false]
       exact ⟨by rw [hfn] <;> rfl, HS.out.bel⟩
      ·clear HF; have HF := HF1; clear HF1
       refine wc_false HF rfl ?_
       refine wp_skip ?_
       refine ex_block ?_
       refine ex_then ?_
       refine wp_region_lit ?_
       refine wl_mv HF rfl rfl rfl rfl rfl ?_; clear HF a; intro a HF
       refine wl_y rfl HF rfl rfl (yl_addI (r := 2) rfl (HF.ev rfl) (HF.ev rfl) (by decide)) ?_; clear HF a; intro a HF
       refine wl_as HF rfl rfl rfl rfl rfl ?_; clear HF a; intro a HF
       refine wl_ne ?_
       refine wc_round 1 ?_
       refine wp_seq ?_
       refine wp_sr ?_
       refine wl_mv HF rfl rfl rfl rfl rfl ?_; clear HF a; intro a HF
       refine wl_y rfl HF rfl rfl (yl_leqI rfl (HF.ev rfl) (HF.ev rfl)) ?_; clear HF a; intro a HF
       refine wl_ne ?_
       replace HF := HF.know (k := 15) (c := false) rfl (by decide)
       refine wc_false HF rfl ?_
       refine wp_exit ?_
       refine ex_then_exit ?_
       refine ex_then_exit ?_
       refine ex_block_hit ?_
       refine ex_then ?_
       refine wp_sr ?_
       refine wl_as HF rfl rfl rfl rfl rfl ?_; clear HF a; intro a HF
       refine wl_as HF rfl rfl rfl rfl rfl ?_; clear HF a; intro a HF
       refine wl_ne ?_
       refine wp_ret ?_
       refine bp_ret2 HF Try.results151 (HF.res rfl) (HF.res rfl) ?_
       have hfn : readF x0 x1 x2 p n = ((⟨#[]⟩ : ByteArray), false) := by simp only [readF, cc1, cc2, cc3, cc4, cc5, cc6, cond_true, cond_false]
       exact ⟨by rw [hfn] <;> rfl, HS.out.bel⟩
     ·clear HF; have HF := HF1; clear HF1
      refine wl_skip HF rfl rfl rfl rfl rfl rfl ?_; clear HF a; intro a HF
      refine wl_skip HF rfl rfl rfl rfl rfl rfl ?_; clear HF a; intro a HF
      refine wl_skip HF rfl rfl rfl rfl rfl rfl ?_; clear HF a; intro a HF
      refine wl_y rfl HF rfl rfl (yl_pick_f rfl (HF.ev rfl) (HF.ev rfl)) ?_; clear HF a; intro a HF
      refine wl_ne ?_
      refine wc_false HF rfl ?_
      refine wp_skip ?_
      refine ex_block ?_
      refine ex_then ?_
      refine wp_region_lit ?_
      refine wl_mv HF rfl rfl rfl rfl rfl ?_; clear HF a; intro a HF
      refine wl_y rfl HF rfl rfl (yl_addI (r := 2) rfl (HF.ev rfl) (HF.ev rfl) (by decide)) ?_; clear HF a; intro a HF
      refine wl_as HF rfl rfl rfl rfl rfl ?_; clear HF a; intro a HF
      refine wl_ne ?_
      refine wc_round 1 ?_
      refine wp_seq ?_
      refine wp_sr ?_
      refine wl_mv HF rfl rfl rfl rfl rfl ?_; clear HF a; intro a HF
      refine wl_y rfl HF rfl rfl (yl_leqI rfl (HF.ev rfl) (HF.ev rfl)) ?_; clear HF a; intro a HF
      refine wl_ne ?_
      replace HF := HF.know (k := 15) (c := false) rfl (by decide)
      refine wc_false HF rfl ?_
      refine wp_exit ?_
      refine ex_then_exit ?_
      refine ex_then_exit ?_
      refine ex_block_hit ?_
      refine ex_then ?_
      refine wp_sr ?_
      refine wl_as HF rfl rfl rfl rfl rfl ?_; clear HF a; intro a HF
      refine wl_as HF rfl rfl rfl rfl rfl ?_; clear HF a; intro a HF
      refine wl_ne ?_
      refine wp_ret ?_
      refine bp_ret2 HF Try.results151 (HF.res rfl) (HF.res rfl) ?_
      have hfn : readF x0 x1 x2 p n = ((⟨#[]⟩ : ByteArray), false) := by simp only [readF, cc1, cc2, cc3, cc4, cc5, cond_true, cond_false]
      exact ⟨by rw [hfn] <;> rfl, HS.out.bel⟩
   ·clear HF; have HF := HF1; clear HF1
    refine wl_skip HF rfl rfl rfl rfl rfl rfl ?_; clear HF a; intro a HF
    refine wl_skip HF rfl rfl rfl rfl rfl rfl ?_; clear HF a; intro a HF
    refine wl_skip HF rfl rfl rfl rfl rfl rfl ?_; clear HF a; intro a HF
    refine wl_y rfl HF rfl rfl (yl_pick_f rfl (HF.ev rfl) (HF.ev rfl)) ?_; clear HF a; intro a HF
    refine wl_ne ?_
    refine wc_false HF rfl ?_
    refine wp_skip ?_
    refine ex_block ?_
    refine ex_then ?_
    refine wp_region_lit ?_
    refine wl_mv HF rfl rfl rfl rfl rfl ?_; clear HF a; intro a HF
    refine wl_y rfl HF rfl rfl (yl_addI (r := 1) rfl (HF.ev rfl) (HF.ev rfl) (by decide)) ?_; clear HF a; intro a HF
    refine wl_as HF rfl rfl rfl rfl rfl ?_; clear HF a; intro a HF
    refine wl_ne ?_
    refine wc_round 2 ?_
    refine wp_seq ?_
    refine wp_sr ?_
    refine wl_mv HF rfl rfl rfl rfl rfl ?_; clear HF a; intro a HF
    refine wl_y rfl HF rfl rfl (yl_leqI rfl (HF.ev rfl) (HF.ev rfl)) ?_; clear HF a; intro a HF
    refine wl_ne ?_
    replace HF := HF.know (k := 15) (c := true) rfl (by decide)
    refine wc_true HF rfl ?_
    refine wp_skip ?_
    refine ex_then ?_
    refine wp_seq ?_
    refine wp_block ?_
    refine wp_sr ?_
    refine wl_mv HF rfl rfl rfl rfl rfl ?_; clear HF a; intro a HF
    refine wl_y rfl HF rfl rfl (yl_fieldAddr (j := 2) rfl (HF.ev rfl) (by kernel_rfl)) ?_; clear HF a; intro a HF
    refine wl_y rfl HF rfl rfl (yl_load (v := .int .i64 p.fSize) rfl (HF.ev rfl) (((HS.out.box 1 rfl).cell 2).trans rfl) (by kernel_rfl)) ?_; clear HF a; intro a HF
    refine wl_mv HF rfl rfl rfl rfl rfl ?_; clear HF a; intro a HF
    refine wl_callB rfl HF rfl (enter_of Try.func166 (by kernel_rfl) rfl) (args := #[.slice ao 3 cp, .int .i64 p.fSize, .int .i64 1]) rfl (v := .tuple #[.string ((joinB x0 x1 x2 n (1)).getD ByteArray.empty), .bool ((joinB x0 x1 x2 n (1)).isSome)]) ((by have := joinOS_any ao cp x0 x1 x2 n _ hn1 hn2 hz0 hz1 hz2 (St.rdN HS.out encS_len 0 rfl); rw [← hps] at this; exact this)) rfl rfl HS.out ?_; clear HF HS a; intro w10 a HS HF; replace HS := Bx.mk HS
    refine wl_mv HF rfl rfl rfl rfl rfl ?_; clear HF a; intro a HF
    refine wl_y rfl HF rfl rfl (yl_extract rfl (HF.ev rfl) rfl) ?_; clear HF a; intro a HF
    refine wl_y rfl HF rfl rfl (yl_extract rfl (HF.ev rfl) rfl) ?_; clear HF a; intro a HF
    refine wl_as HF rfl rfl rfl rfl rfl ?_; clear HF a; intro a HF
    refine wl_as HF rfl rfl rfl rfl rfl ?_; clear HF a; intro a HF
    refine wl_ne ?_
    refine wp_sr ?_
    refine wl_mv HF rfl rfl rfl rfl rfl ?_; clear HF a; intro a HF
    refine wl_mv HF rfl rfl rfl rfl rfl ?_; clear HF a; intro a HF
    refine HF.cases 27 rfl (fun cc7 HF1 => ?_) (fun cc7 HF1 => ?_)
    ·clear HF; have HF := HF1; clear HF1
     refine wl_yg HF rfl rfl rfl rfl rfl (yl_loadR (cs := [.int .i64 p.fAt, .int .i64 p.fBirth, .int .i64 p.fSize, .int .i64 p.fSum, .int .i64 p.fLevel]) rfl (HF.ev rfl) ((HS.out.box 1 rfl).sub 0 5) (by kernel_rfl)) ?_; clear HF a; intro a HF
     refine wl_yg HF rfl rfl rfl rfl rfl (yl_move rfl (HF.ev rfl)) ?_; clear HF a; intro a HF
     refine wl_callBg HF rfl rfl rfl rfl (enter_of Try.func167 (by kernel_rfl) rfl) (args := #[.agg #[.int .i64 p.fAt, .int .i64 p.fBirth, .int .i64 p.fSize, .int .i64 p.fSum, .int .i64 p.fLevel], .string ((joinB x0 x1 x2 n (1)).getD ByteArray.empty)]) rfl (v := .bool (p.fits ((joinB x0 x1 x2 n (1)).getD ByteArray.empty))) (specFits_any p ((joinB x0 x1 x2 n (1)).getD ByteArray.empty) _ (by have := joinB_le x0 x1 x2 n (1) hn1; omega)) rfl rfl HS.out ?_; clear HF HS a; intro w11 a HS HF; replace HS := Bx.mk HS
     refine wl_y rfl HF rfl rfl (yl_pick_t rfl (HF.ev rfl) (HF.ev rfl)) ?_; clear HF a; intro a HF
     refine wl_ne ?_
     refine HF.cases 31 rfl (fun cc8 HF1 => ?_) (fun cc8 HF1 => ?_)
     ·clear HF; have HF := HF1; clear HF1
      refine wc_true HF rfl ?_
      refine wp_sr ?_
      refine wl_mv HF rfl rfl rfl rfl rfl ?_; clear HF a; intro a HF
      refine wl_as HF rfl rfl rfl rfl rfl ?_; clear HF a; intro a HF
      refine wl_as HF rfl rfl rfl rfl rfl ?_; clear HF a; intro a HF
      refine wl_ne ?_
      refine wp_ret ?_
      refine ex_block_ret ?_
      refine ex_then_ret ?_
      refine ex_then_ret ?_
      refine ex_block_ret ?_
      refine ex_then_ret ?_
      refine bp_ret2 HF Try.results151 (HF.res rfl) (HF.res rfl) ?_
      have hfn : readF x0 x1 x2 p n = ((joinB x0 x1 x2 n (1)).getD ByteArray.empty, true) := by simp only [readF, cc1, cc2, cc3, cc7, cc8, cond_true, cond_false]
      exact ⟨by rw [hfn] <;> rfl, HS.out.bel⟩
     ·clear HF; have HF := HF1; clear HF1
      refine wc_false HF rfl ?_
      refine wp_skip ?_
      refine ex_block ?_
      refine ex_then ?_
      refine wp_region_lit ?_
      refine wl_mv HF rfl rfl rfl rfl rfl ?_; clear HF a; intro a HF
      refine wl_y rfl HF rfl rfl (yl_addI (r := 2) rfl (HF.ev rfl) (HF.ev rfl) (by decide)) ?_; clear HF a; intro a HF
      refine wl_as HF rfl rfl rfl rfl rfl ?_; clear HF a; intro a HF
      refine wl_ne ?_
      refine wc_round 1 ?_
      refine wp_seq ?_
      refine wp_sr ?_
      refine wl_mv HF rfl rfl rfl rfl rfl ?_; clear HF a; intro a HF
      refine wl_y rfl HF rfl rfl (yl_leqI rfl (HF.ev rfl) (HF.ev rfl)) ?_; clear HF a; intro a HF
      refine wl_ne ?_
      replace HF := HF.know (k := 15) (c := false) rfl (by decide)
      refine wc_false HF rfl ?_
      refine wp_exit ?_
      refine ex_then_exit ?_
      refine ex_then_exit ?_
      refine ex_block_hit ?_
      refine ex_then ?_
      refine wp_sr ?_
      refine wl_as HF rfl rfl rfl rfl rfl ?_; clear HF a; intro a HF
      refine wl_as HF rfl rfl rfl rfl rfl ?_; clear HF a; intro a HF
      refine wl_ne ?_
      refine wp_ret ?_
      refine bp_ret2 HF Try.results151 (HF.res rfl) (HF.res rfl) ?_
      have hfn : readF x0 x1 x2 p n = ((⟨#[]⟩ : ByteArray), false) := by simp only [readF, cc1, cc2, cc3, cc7, cc8, cond_true, cond_false]
      exact ⟨by rw [hfn] <;> rfl, HS.out.bel⟩
    ·clear HF; have HF := HF1; clear HF1
     refine wl_skip HF rfl rfl rfl rfl rfl rfl ?_; clear HF a; intro a HF
     refine wl_skip HF rfl rfl rfl rfl rfl rfl ?_; clear HF a; intro a HF
     refine wl_skip HF rfl rfl rfl rfl rfl rfl ?_; clear HF a; intro a HF
     refine wl_y rfl HF rfl rfl (yl_pick_f rfl (HF.ev rfl) (HF.ev rfl)) ?_; clear HF a; intro a HF
     refine wl_ne ?_
     refine wc_false HF rfl ?_
     refine wp_skip ?_
     refine ex_block ?_
     refine ex_then ?_
     refine wp_region_lit ?_
     refine wl_mv HF rfl rfl rfl rfl rfl ?_; clear HF a; intro a HF
     refine wl_y rfl HF rfl rfl (yl_addI (r := 2) rfl (HF.ev rfl) (HF.ev rfl) (by decide)) ?_; clear HF a; intro a HF
     refine wl_as HF rfl rfl rfl rfl rfl ?_; clear HF a; intro a HF
     refine wl_ne ?_
     refine wc_round 1 ?_
     refine wp_seq ?_
     refine wp_sr ?_
     refine wl_mv HF rfl rfl rfl rfl rfl ?_; clear HF a; intro a HF
     refine wl_y rfl HF rfl rfl (yl_leqI rfl (HF.ev rfl) (HF.ev rfl)) ?_; clear HF a; intro a HF
     refine wl_ne ?_
     replace HF := HF.know (k := 15) (c := false) rfl (by decide)
     refine wc_false HF rfl ?_
     refine wp_exit ?_
     refine ex_then_exit ?_
     refine ex_then_exit ?_
     refine ex_block_hit ?_
     refine ex_then ?_
     refine wp_sr ?_
     refine wl_as HF rfl rfl rfl rfl rfl ?_; clear HF a; intro a HF
     refine wl_as HF rfl rfl rfl rfl rfl ?_; clear HF a; intro a HF
     refine wl_ne ?_
     refine wp_ret ?_
     refine bp_ret2 HF Try.results151 (HF.res rfl) (HF.res rfl) ?_
     have hfn : readF x0 x1 x2 p n = ((⟨#[]⟩ : ByteArray), false) := by simp only [readF, cc1, cc2, cc3, cc7, cond_true, cond_false]
     exact ⟨by rw [hfn] <;> rfl, HS.out.bel⟩
 ·clear HF; have HF := HF1; clear HF1
  refine wl_skip HF rfl rfl rfl rfl rfl rfl ?_; clear HF a; intro a HF
  refine wl_skip HF rfl rfl rfl rfl rfl rfl ?_; clear HF a; intro a HF
  refine wl_skip HF rfl rfl rfl rfl rfl rfl ?_; clear HF a; intro a HF
  refine wl_y rfl HF rfl rfl (yl_pick_f rfl (HF.ev rfl) (HF.ev rfl)) ?_; clear HF a; intro a HF
  refine wl_ne ?_
  refine wc_false HF rfl ?_
  refine wp_skip ?_
  refine ex_block ?_
  refine ex_then ?_
  refine wp_region_lit ?_
  refine wl_mv HF rfl rfl rfl rfl rfl ?_; clear HF a; intro a HF
  refine wl_y rfl HF rfl rfl (yl_addI (r := 0) rfl (HF.ev rfl) (HF.ev rfl) (by decide)) ?_; clear HF a; intro a HF
  refine wl_as HF rfl rfl rfl rfl rfl ?_; clear HF a; intro a HF
  refine wl_ne ?_
  refine wc_round 3 ?_
  refine wp_seq ?_
  refine wp_sr ?_
  refine wl_mv HF rfl rfl rfl rfl rfl ?_; clear HF a; intro a HF
  refine wl_y rfl HF rfl rfl (yl_leqI rfl (HF.ev rfl) (HF.ev rfl)) ?_; clear HF a; intro a HF
  refine wl_ne ?_
  replace HF := HF.know (k := 15) (c := true) rfl (by decide)
  refine wc_true HF rfl ?_
  refine wp_skip ?_
  refine ex_then ?_
  refine wp_seq ?_
  refine wp_block ?_
  refine wp_sr ?_
  refine wl_mv HF rfl rfl rfl rfl rfl ?_; clear HF a; intro a HF
  refine wl_y rfl HF rfl rfl (yl_fieldAddr (j := 2) rfl (HF.ev rfl) (by kernel_rfl)) ?_; clear HF a; intro a HF
  refine wl_y rfl HF rfl rfl (yl_load (v := .int .i64 p.fSize) rfl (HF.ev rfl) (((HS.out.box 1 rfl).cell 2).trans rfl) (by kernel_rfl)) ?_; clear HF a; intro a HF
  refine wl_mv HF rfl rfl rfl rfl rfl ?_; clear HF a; intro a HF
  refine wl_callB rfl HF rfl (enter_of Try.func166 (by kernel_rfl) rfl) (args := #[.slice ao 3 cp, .int .i64 p.fSize, .int .i64 0]) rfl (v := .tuple #[.string ((joinB x0 x1 x2 n (0)).getD ByteArray.empty), .bool ((joinB x0 x1 x2 n (0)).isSome)]) ((by have := joinZS_any ao cp x0 x1 x2 n _ hn1 hn2 hz0 hz1 hz2 (St.rdN HS.out encS_len 0 rfl); rw [← hps] at this; exact this)) rfl rfl HS.out ?_; clear HF HS a; intro w12 a HS HF; replace HS := Bx.mk HS
  refine wl_mv HF rfl rfl rfl rfl rfl ?_; clear HF a; intro a HF
  refine wl_y rfl HF rfl rfl (yl_extract rfl (HF.ev rfl) rfl) ?_; clear HF a; intro a HF
  refine wl_y rfl HF rfl rfl (yl_extract rfl (HF.ev rfl) rfl) ?_; clear HF a; intro a HF
  refine wl_as HF rfl rfl rfl rfl rfl ?_; clear HF a; intro a HF
  refine wl_as HF rfl rfl rfl rfl rfl ?_; clear HF a; intro a HF
  refine wl_ne ?_
  refine wp_sr ?_
  refine wl_mv HF rfl rfl rfl rfl rfl ?_; clear HF a; intro a HF
  refine wl_mv HF rfl rfl rfl rfl rfl ?_; clear HF a; intro a HF
  refine HF.cases 27 rfl (fun cc9 HF1 => ?_) (fun cc9 HF1 => ?_)
  ·clear HF; have HF := HF1; clear HF1
   refine wl_yg HF rfl rfl rfl rfl rfl (yl_loadR (cs := [.int .i64 p.fAt, .int .i64 p.fBirth, .int .i64 p.fSize, .int .i64 p.fSum, .int .i64 p.fLevel]) rfl (HF.ev rfl) ((HS.out.box 1 rfl).sub 0 5) (by kernel_rfl)) ?_; clear HF a; intro a HF
   refine wl_yg HF rfl rfl rfl rfl rfl (yl_move rfl (HF.ev rfl)) ?_; clear HF a; intro a HF
   refine wl_callBg HF rfl rfl rfl rfl (enter_of Try.func167 (by kernel_rfl) rfl) (args := #[.agg #[.int .i64 p.fAt, .int .i64 p.fBirth, .int .i64 p.fSize, .int .i64 p.fSum, .int .i64 p.fLevel], .string ((joinB x0 x1 x2 n (0)).getD ByteArray.empty)]) rfl (v := .bool (p.fits ((joinB x0 x1 x2 n (0)).getD ByteArray.empty))) (specFits_any p ((joinB x0 x1 x2 n (0)).getD ByteArray.empty) _ (by have := joinB_le x0 x1 x2 n (0) hn1; omega)) rfl rfl HS.out ?_; clear HF HS a; intro w13 a HS HF; replace HS := Bx.mk HS
   refine wl_y rfl HF rfl rfl (yl_pick_t rfl (HF.ev rfl) (HF.ev rfl)) ?_; clear HF a; intro a HF
   refine wl_ne ?_
   refine HF.cases 31 rfl (fun cc10 HF1 => ?_) (fun cc10 HF1 => ?_)
   ·clear HF; have HF := HF1; clear HF1
    refine wc_true HF rfl ?_
    refine wp_sr ?_
    refine wl_mv HF rfl rfl rfl rfl rfl ?_; clear HF a; intro a HF
    refine wl_as HF rfl rfl rfl rfl rfl ?_; clear HF a; intro a HF
    refine wl_as HF rfl rfl rfl rfl rfl ?_; clear HF a; intro a HF
    refine wl_ne ?_
    refine wp_ret ?_
    refine ex_block_ret ?_
    refine ex_then_ret ?_
    refine ex_then_ret ?_
    refine ex_block_ret ?_
    refine ex_then_ret ?_
    refine bp_ret2 HF Try.results151 (HF.res rfl) (HF.res rfl) ?_
    have hfn : readF x0 x1 x2 p n = ((joinB x0 x1 x2 n (0)).getD ByteArray.empty, true) := by simp only [readF, cc1, cc9, cc10, cond_true, cond_false]
    exact ⟨by rw [hfn] <;> rfl, HS.out.bel⟩
   ·clear HF; have HF := HF1; clear HF1
    refine wc_false HF rfl ?_
    refine wp_skip ?_
    refine ex_block ?_
    refine ex_then ?_
    refine wp_region_lit ?_
    refine wl_mv HF rfl rfl rfl rfl rfl ?_; clear HF a; intro a HF
    refine wl_y rfl HF rfl rfl (yl_addI (r := 1) rfl (HF.ev rfl) (HF.ev rfl) (by decide)) ?_; clear HF a; intro a HF
    refine wl_as HF rfl rfl rfl rfl rfl ?_; clear HF a; intro a HF
    refine wl_ne ?_
    refine wc_round 2 ?_
    refine wp_seq ?_
    refine wp_sr ?_
    refine wl_mv HF rfl rfl rfl rfl rfl ?_; clear HF a; intro a HF
    refine wl_y rfl HF rfl rfl (yl_leqI rfl (HF.ev rfl) (HF.ev rfl)) ?_; clear HF a; intro a HF
    refine wl_ne ?_
    replace HF := HF.know (k := 15) (c := true) rfl (by decide)
    refine wc_true HF rfl ?_
    refine wp_skip ?_
    refine ex_then ?_
    refine wp_seq ?_
    refine wp_block ?_
    refine wp_sr ?_
    refine wl_mv HF rfl rfl rfl rfl rfl ?_; clear HF a; intro a HF
    refine wl_y rfl HF rfl rfl (yl_fieldAddr (j := 2) rfl (HF.ev rfl) (by kernel_rfl)) ?_; clear HF a; intro a HF
    refine wl_y rfl HF rfl rfl (yl_load (v := .int .i64 p.fSize) rfl (HF.ev rfl) (((HS.out.box 1 rfl).cell 2).trans rfl) (by kernel_rfl)) ?_; clear HF a; intro a HF
    refine wl_mv HF rfl rfl rfl rfl rfl ?_; clear HF a; intro a HF
    refine wl_callB rfl HF rfl (enter_of Try.func166 (by kernel_rfl) rfl) (args := #[.slice ao 3 cp, .int .i64 p.fSize, .int .i64 1]) rfl (v := .tuple #[.string ((joinB x0 x1 x2 n (1)).getD ByteArray.empty), .bool ((joinB x0 x1 x2 n (1)).isSome)]) ((by have := joinOS_any ao cp x0 x1 x2 n _ hn1 hn2 hz0 hz1 hz2 (St.rdN HS.out encS_len 0 rfl); rw [← hps] at this; exact this)) rfl rfl HS.out ?_; clear HF HS a; intro w14 a HS HF; replace HS := Bx.mk HS
    refine wl_mv HF rfl rfl rfl rfl rfl ?_; clear HF a; intro a HF
    refine wl_y rfl HF rfl rfl (yl_extract rfl (HF.ev rfl) rfl) ?_; clear HF a; intro a HF
    refine wl_y rfl HF rfl rfl (yl_extract rfl (HF.ev rfl) rfl) ?_; clear HF a; intro a HF
    refine wl_as HF rfl rfl rfl rfl rfl ?_; clear HF a; intro a HF
    refine wl_as HF rfl rfl rfl rfl rfl ?_; clear HF a; intro a HF
    refine wl_ne ?_
    refine wp_sr ?_
    refine wl_mv HF rfl rfl rfl rfl rfl ?_; clear HF a; intro a HF
    refine wl_mv HF rfl rfl rfl rfl rfl ?_; clear HF a; intro a HF
    refine HF.cases 27 rfl (fun cc11 HF1 => ?_) (fun cc11 HF1 => ?_)
    ·clear HF; have HF := HF1; clear HF1
     refine wl_yg HF rfl rfl rfl rfl rfl (yl_loadR (cs := [.int .i64 p.fAt, .int .i64 p.fBirth, .int .i64 p.fSize, .int .i64 p.fSum, .int .i64 p.fLevel]) rfl (HF.ev rfl) ((HS.out.box 1 rfl).sub 0 5) (by kernel_rfl)) ?_; clear HF a; intro a HF
     refine wl_yg HF rfl rfl rfl rfl rfl (yl_move rfl (HF.ev rfl)) ?_; clear HF a; intro a HF
     refine wl_callBg HF rfl rfl rfl rfl (enter_of Try.func167 (by kernel_rfl) rfl) (args := #[.agg #[.int .i64 p.fAt, .int .i64 p.fBirth, .int .i64 p.fSize, .int .i64 p.fSum, .int .i64 p.fLevel], .string ((joinB x0 x1 x2 n (1)).getD ByteArray.empty)]) rfl (v := .bool (p.fits ((joinB x0 x1 x2 n (1)).getD ByteArray.empty))) (specFits_any p ((joinB x0 x1 x2 n (1)).getD ByteArray.empty) _ (by have := joinB_le x0 x1 x2 n (1) hn1; omega)) rfl rfl HS.out ?_; clear HF HS a; intro w15 a HS HF; replace HS := Bx.mk HS
     refine wl_y rfl HF rfl rfl (yl_pick_t rfl (HF.ev rfl) (HF.ev rfl)) ?_; clear HF a; intro a HF
     refine wl_ne ?_
     refine HF.cases 31 rfl (fun cc12 HF1 => ?_) (fun cc12 HF1 => ?_)
     ·clear HF; have HF := HF1; clear HF1
      refine wc_true HF rfl ?_
      refine wp_sr ?_
      refine wl_mv HF rfl rfl rfl rfl rfl ?_; clear HF a; intro a HF
      refine wl_as HF rfl rfl rfl rfl rfl ?_; clear HF a; intro a HF
      refine wl_as HF rfl rfl rfl rfl rfl ?_; clear HF a; intro a HF
      refine wl_ne ?_
      refine wp_ret ?_
      refine ex_block_ret ?_
      refine ex_then_ret ?_
      refine ex_then_ret ?_
      refine ex_block_ret ?_
      refine ex_then_ret ?_
      refine bp_ret2 HF Try.results151 (HF.res rfl) (HF.res rfl) ?_
      have hfn : readF x0 x1 x2 p n = ((joinB x0 x1 x2 n (1)).getD ByteArray.empty, true) := by simp only [readF, cc1, cc9, cc10, cc11, cc12, cond_true, cond_false]
      exact ⟨by rw [hfn] <;> rfl, HS.out.bel⟩
     ·clear HF; have HF := HF1; clear HF1
      refine wc_false HF rfl ?_
      refine wp_skip ?_
      refine ex_block ?_
      refine ex_then ?_
      refine wp_region_lit ?_
      refine wl_mv HF rfl rfl rfl rfl rfl ?_; clear HF a; intro a HF
      refine wl_y rfl HF rfl rfl (yl_addI (r := 2) rfl (HF.ev rfl) (HF.ev rfl) (by decide)) ?_; clear HF a; intro a HF
      refine wl_as HF rfl rfl rfl rfl rfl ?_; clear HF a; intro a HF
      refine wl_ne ?_
      refine wc_round 1 ?_
      refine wp_seq ?_
      refine wp_sr ?_
      refine wl_mv HF rfl rfl rfl rfl rfl ?_; clear HF a; intro a HF
      refine wl_y rfl HF rfl rfl (yl_leqI rfl (HF.ev rfl) (HF.ev rfl)) ?_; clear HF a; intro a HF
      refine wl_ne ?_
      replace HF := HF.know (k := 15) (c := false) rfl (by decide)
      refine wc_false HF rfl ?_
      refine wp_exit ?_
      refine ex_then_exit ?_
      refine ex_then_exit ?_
      refine ex_block_hit ?_
      refine ex_then ?_
      refine wp_sr ?_
      refine wl_as HF rfl rfl rfl rfl rfl ?_; clear HF a; intro a HF
      refine wl_as HF rfl rfl rfl rfl rfl ?_; clear HF a; intro a HF
      refine wl_ne ?_
      refine wp_ret ?_
      refine bp_ret2 HF Try.results151 (HF.res rfl) (HF.res rfl) ?_
      have hfn : readF x0 x1 x2 p n = ((⟨#[]⟩ : ByteArray), false) := by simp only [readF, cc1, cc9, cc10, cc11, cc12, cond_true, cond_false]
      exact ⟨by rw [hfn] <;> rfl, HS.out.bel⟩
    ·clear HF; have HF := HF1; clear HF1
     refine wl_skip HF rfl rfl rfl rfl rfl rfl ?_; clear HF a; intro a HF
     refine wl_skip HF rfl rfl rfl rfl rfl rfl ?_; clear HF a; intro a HF
     refine wl_skip HF rfl rfl rfl rfl rfl rfl ?_; clear HF a; intro a HF
     refine wl_y rfl HF rfl rfl (yl_pick_f rfl (HF.ev rfl) (HF.ev rfl)) ?_; clear HF a; intro a HF
     refine wl_ne ?_
     refine wc_false HF rfl ?_
     refine wp_skip ?_
     refine ex_block ?_
     refine ex_then ?_
     refine wp_region_lit ?_
     refine wl_mv HF rfl rfl rfl rfl rfl ?_; clear HF a; intro a HF
     refine wl_y rfl HF rfl rfl (yl_addI (r := 2) rfl (HF.ev rfl) (HF.ev rfl) (by decide)) ?_; clear HF a; intro a HF
     refine wl_as HF rfl rfl rfl rfl rfl ?_; clear HF a; intro a HF
     refine wl_ne ?_
     refine wc_round 1 ?_
     refine wp_seq ?_
     refine wp_sr ?_
     refine wl_mv HF rfl rfl rfl rfl rfl ?_; clear HF a; intro a HF
     refine wl_y rfl HF rfl rfl (yl_leqI rfl (HF.ev rfl) (HF.ev rfl)) ?_; clear HF a; intro a HF
     refine wl_ne ?_
     replace HF := HF.know (k := 15) (c := false) rfl (by decide)
     refine wc_false HF rfl ?_
     refine wp_exit ?_
     refine ex_then_exit ?_
     refine ex_then_exit ?_
     refine ex_block_hit ?_
     refine ex_then ?_
     refine wp_sr ?_
     refine wl_as HF rfl rfl rfl rfl rfl ?_; clear HF a; intro a HF
     refine wl_as HF rfl rfl rfl rfl rfl ?_; clear HF a; intro a HF
     refine wl_ne ?_
     refine wp_ret ?_
     refine bp_ret2 HF Try.results151 (HF.res rfl) (HF.res rfl) ?_
     have hfn : readF x0 x1 x2 p n = ((⟨#[]⟩ : ByteArray), false) := by simp only [readF, cc1, cc9, cc10, cc11, cond_true, cond_false]
     exact ⟨by rw [hfn] <;> rfl, HS.out.bel⟩
  ·clear HF; have HF := HF1; clear HF1
   refine wl_skip HF rfl rfl rfl rfl rfl rfl ?_; clear HF a; intro a HF
   refine wl_skip HF rfl rfl rfl rfl rfl rfl ?_; clear HF a; intro a HF
   refine wl_skip HF rfl rfl rfl rfl rfl rfl ?_; clear HF a; intro a HF
   refine wl_y rfl HF rfl rfl (yl_pick_f rfl (HF.ev rfl) (HF.ev rfl)) ?_; clear HF a; intro a HF
   refine wl_ne ?_
   refine wc_false HF rfl ?_
   refine wp_skip ?_
   refine ex_block ?_
   refine ex_then ?_
   refine wp_region_lit ?_
   refine wl_mv HF rfl rfl rfl rfl rfl ?_; clear HF a; intro a HF
   refine wl_y rfl HF rfl rfl (yl_addI (r := 1) rfl (HF.ev rfl) (HF.ev rfl) (by decide)) ?_; clear HF a; intro a HF
   refine wl_as HF rfl rfl rfl rfl rfl ?_; clear HF a; intro a HF
   refine wl_ne ?_
   refine wc_round 2 ?_
   refine wp_seq ?_
   refine wp_sr ?_
   refine wl_mv HF rfl rfl rfl rfl rfl ?_; clear HF a; intro a HF
   refine wl_y rfl HF rfl rfl (yl_leqI rfl (HF.ev rfl) (HF.ev rfl)) ?_; clear HF a; intro a HF
   refine wl_ne ?_
   replace HF := HF.know (k := 15) (c := true) rfl (by decide)
   refine wc_true HF rfl ?_
   refine wp_skip ?_
   refine ex_then ?_
   refine wp_seq ?_
   refine wp_block ?_
   refine wp_sr ?_
   refine wl_mv HF rfl rfl rfl rfl rfl ?_; clear HF a; intro a HF
   refine wl_y rfl HF rfl rfl (yl_fieldAddr (j := 2) rfl (HF.ev rfl) (by kernel_rfl)) ?_; clear HF a; intro a HF
   refine wl_y rfl HF rfl rfl (yl_load (v := .int .i64 p.fSize) rfl (HF.ev rfl) (((HS.out.box 1 rfl).cell 2).trans rfl) (by kernel_rfl)) ?_; clear HF a; intro a HF
   refine wl_mv HF rfl rfl rfl rfl rfl ?_; clear HF a; intro a HF
   refine wl_callB rfl HF rfl (enter_of Try.func166 (by kernel_rfl) rfl) (args := #[.slice ao 3 cp, .int .i64 p.fSize, .int .i64 1]) rfl (v := .tuple #[.string ((joinB x0 x1 x2 n (1)).getD ByteArray.empty), .bool ((joinB x0 x1 x2 n (1)).isSome)]) ((by have := joinOS_any ao cp x0 x1 x2 n _ hn1 hn2 hz0 hz1 hz2 (St.rdN HS.out encS_len 0 rfl); rw [← hps] at this; exact this)) rfl rfl HS.out ?_; clear HF HS a; intro w16 a HS HF; replace HS := Bx.mk HS
   refine wl_mv HF rfl rfl rfl rfl rfl ?_; clear HF a; intro a HF
   refine wl_y rfl HF rfl rfl (yl_extract rfl (HF.ev rfl) rfl) ?_; clear HF a; intro a HF
   refine wl_y rfl HF rfl rfl (yl_extract rfl (HF.ev rfl) rfl) ?_; clear HF a; intro a HF
   refine wl_as HF rfl rfl rfl rfl rfl ?_; clear HF a; intro a HF
   refine wl_as HF rfl rfl rfl rfl rfl ?_; clear HF a; intro a HF
   refine wl_ne ?_
   refine wp_sr ?_
   refine wl_mv HF rfl rfl rfl rfl rfl ?_; clear HF a; intro a HF
   refine wl_mv HF rfl rfl rfl rfl rfl ?_; clear HF a; intro a HF
   refine HF.cases 27 rfl (fun cc13 HF1 => ?_) (fun cc13 HF1 => ?_)
   ·clear HF; have HF := HF1; clear HF1
    refine wl_yg HF rfl rfl rfl rfl rfl (yl_loadR (cs := [.int .i64 p.fAt, .int .i64 p.fBirth, .int .i64 p.fSize, .int .i64 p.fSum, .int .i64 p.fLevel]) rfl (HF.ev rfl) ((HS.out.box 1 rfl).sub 0 5) (by kernel_rfl)) ?_; clear HF a; intro a HF
    refine wl_yg HF rfl rfl rfl rfl rfl (yl_move rfl (HF.ev rfl)) ?_; clear HF a; intro a HF
    refine wl_callBg HF rfl rfl rfl rfl (enter_of Try.func167 (by kernel_rfl) rfl) (args := #[.agg #[.int .i64 p.fAt, .int .i64 p.fBirth, .int .i64 p.fSize, .int .i64 p.fSum, .int .i64 p.fLevel], .string ((joinB x0 x1 x2 n (1)).getD ByteArray.empty)]) rfl (v := .bool (p.fits ((joinB x0 x1 x2 n (1)).getD ByteArray.empty))) (specFits_any p ((joinB x0 x1 x2 n (1)).getD ByteArray.empty) _ (by have := joinB_le x0 x1 x2 n (1) hn1; omega)) rfl rfl HS.out ?_; clear HF HS a; intro w17 a HS HF; replace HS := Bx.mk HS
    refine wl_y rfl HF rfl rfl (yl_pick_t rfl (HF.ev rfl) (HF.ev rfl)) ?_; clear HF a; intro a HF
    refine wl_ne ?_
    refine HF.cases 31 rfl (fun cc14 HF1 => ?_) (fun cc14 HF1 => ?_)
    ·clear HF; have HF := HF1; clear HF1
     refine wc_true HF rfl ?_
     refine wp_sr ?_
     refine wl_mv HF rfl rfl rfl rfl rfl ?_; clear HF a; intro a HF
     refine wl_as HF rfl rfl rfl rfl rfl ?_; clear HF a; intro a HF
     refine wl_as HF rfl rfl rfl rfl rfl ?_; clear HF a; intro a HF
     refine wl_ne ?_
     refine wp_ret ?_
     refine ex_block_ret ?_
     refine ex_then_ret ?_
     refine ex_then_ret ?_
     refine ex_block_ret ?_
     refine ex_then_ret ?_
     refine bp_ret2 HF Try.results151 (HF.res rfl) (HF.res rfl) ?_
     have hfn : readF x0 x1 x2 p n = ((joinB x0 x1 x2 n (1)).getD ByteArray.empty, true) := by simp only [readF, cc1, cc9, cc13, cc14, cond_true, cond_false]
     exact ⟨by rw [hfn] <;> rfl, HS.out.bel⟩
    ·clear HF; have HF := HF1; clear HF1
     refine wc_false HF rfl ?_
     refine wp_skip ?_
     refine ex_block ?_
     refine ex_then ?_
     refine wp_region_lit ?_
     refine wl_mv HF rfl rfl rfl rfl rfl ?_; clear HF a; intro a HF
     refine wl_y rfl HF rfl rfl (yl_addI (r := 2) rfl (HF.ev rfl) (HF.ev rfl) (by decide)) ?_; clear HF a; intro a HF
     refine wl_as HF rfl rfl rfl rfl rfl ?_; clear HF a; intro a HF
     refine wl_ne ?_
     refine wc_round 1 ?_
     refine wp_seq ?_
     refine wp_sr ?_
     refine wl_mv HF rfl rfl rfl rfl rfl ?_; clear HF a; intro a HF
     refine wl_y rfl HF rfl rfl (yl_leqI rfl (HF.ev rfl) (HF.ev rfl)) ?_; clear HF a; intro a HF
     refine wl_ne ?_
     replace HF := HF.know (k := 15) (c := false) rfl (by decide)
     refine wc_false HF rfl ?_
     refine wp_exit ?_
     refine ex_then_exit ?_
     refine ex_then_exit ?_
     refine ex_block_hit ?_
     refine ex_then ?_
     refine wp_sr ?_
     refine wl_as HF rfl rfl rfl rfl rfl ?_; clear HF a; intro a HF
     refine wl_as HF rfl rfl rfl rfl rfl ?_; clear HF a; intro a HF
     refine wl_ne ?_
     refine wp_ret ?_
     refine bp_ret2 HF Try.results151 (HF.res rfl) (HF.res rfl) ?_
     have hfn : readF x0 x1 x2 p n = ((⟨#[]⟩ : ByteArray), false) := by simp only [readF, cc1, cc9, cc13, cc14, cond_true, cond_false]
     exact ⟨by rw [hfn] <;> rfl, HS.out.bel⟩
   ·clear HF; have HF := HF1; clear HF1
    refine wl_skip HF rfl rfl rfl rfl rfl rfl ?_; clear HF a; intro a HF
    refine wl_skip HF rfl rfl rfl rfl rfl rfl ?_; clear HF a; intro a HF
    refine wl_skip HF rfl rfl rfl rfl rfl rfl ?_; clear HF a; intro a HF
    refine wl_y rfl HF rfl rfl (yl_pick_f rfl (HF.ev rfl) (HF.ev rfl)) ?_; clear HF a; intro a HF
    refine wl_ne ?_
    refine wc_false HF rfl ?_
    refine wp_skip ?_
    refine ex_block ?_
    refine ex_then ?_
    refine wp_region_lit ?_
    refine wl_mv HF rfl rfl rfl rfl rfl ?_; clear HF a; intro a HF
    refine wl_y rfl HF rfl rfl (yl_addI (r := 2) rfl (HF.ev rfl) (HF.ev rfl) (by decide)) ?_; clear HF a; intro a HF
    refine wl_as HF rfl rfl rfl rfl rfl ?_; clear HF a; intro a HF
    refine wl_ne ?_
    refine wc_round 1 ?_
    refine wp_seq ?_
    refine wp_sr ?_
    refine wl_mv HF rfl rfl rfl rfl rfl ?_; clear HF a; intro a HF
    refine wl_y rfl HF rfl rfl (yl_leqI rfl (HF.ev rfl) (HF.ev rfl)) ?_; clear HF a; intro a HF
    refine wl_ne ?_
    replace HF := HF.know (k := 15) (c := false) rfl (by decide)
    refine wc_false HF rfl ?_
    refine wp_exit ?_
    refine ex_then_exit ?_
    refine ex_then_exit ?_
    refine ex_block_hit ?_
    refine ex_then ?_
    refine wp_sr ?_
    refine wl_as HF rfl rfl rfl rfl rfl ?_; clear HF a; intro a HF
    refine wl_as HF rfl rfl rfl rfl rfl ?_; clear HF a; intro a HF
    refine wl_ne ?_
    refine wp_ret ?_
    refine bp_ret2 HF Try.results151 (HF.res rfl) (HF.res rfl) ?_
    have hfn : readF x0 x1 x2 p n = ((⟨#[]⟩ : ByteArray), false) := by simp only [readF, cc1, cc9, cc13, cond_true, cond_false]
    exact ⟨by rw [hfn] <;> rfl, HS.out.bel⟩

end Go.Proofs.Ytfijfjjleelphaa

/- Healing, by the reference. -/
namespace Go.Proofs.Ytfijfjjleelphaa
set_option maxHeartbeats 1000000
set_option maxRecDepth 100000
open Go.RowKit

theorem elemL : ElemT Try.prog 100 4 1 1 := by
  obtain ⟨i0, hi, hz0, hz1, hz2⟩ := info_parts (P := Try.prog) (e := 4) (z := .bool false) (size := 1) (bytes := 1) (by kernel_rfl)
  exact ⟨Try.underlying100, ⟨i0, _, hi, hz0, hz1, hz2, rfl⟩, by decide⟩
theorem cells_one_L (xs : List Bool) : ∀ u ∈ xs.flatMap encL, u.oneCell' = true := by
  intro u hu
  obtain ⟨x, _, hx⟩ := List.mem_flatMap.1 hu
  simp only [encL, List.mem_singleton] at hx
  subst hx; rfl
theorem readF_ok {x0 x1 x2 : ByteArray} {p : PtrD} {n : Nat} (h : (readF x0 x1 x2 p n).2 = true) : p.fits (readF x0 x1 x2 p n).1 = true := by
  unfold readF at h ⊢
  cases h1 : (joinB x0 x1 x2 n (-1)).isSome <;> cases h2 : p.fits ((joinB x0 x1 x2 n (-1)).getD ByteArray.empty) <;> cases h3 : (joinB x0 x1 x2 n 0).isSome <;> cases h4 : p.fits ((joinB x0 x1 x2 n 0).getD ByteArray.empty) <;> cases h5 : (joinB x0 x1 x2 n 1).isSome <;> cases h6 : p.fits ((joinB x0 x1 x2 n 1).getD ByteArray.empty) <;> simp_all
def colOf (t : ByteArray) (i : Nat) : ByteArray := [col0 t, col1 t, col2 t].getD i ByteArray.empty
/-- A disk of the set is there, and has another text than it must. -/
def badH (ds : List DiskD) (t : ByteArray) (m i : Nat) : Bool := !(ds.getD i default).fGone && !(((ds.getD i default).look m).toList == (colOf t i).toList)
def badsH (ds : List DiskD) (t : ByteArray) (m k : Nat) : List Bool := (List.range k).map (badH ds t m)
def cntH (ds : List DiskD) (t : ByteArray) (m k : Nat) : Nat := ((List.range k).filter (badH ds t m)).length
theorem badsH_succ (ds : List DiskD) (t : ByteArray) (m k : Nat) : badsH ds t m (k + 1) = badsH ds t m k ++ [badH ds t m k] := by simp [badsH, List.range_succ]
theorem cntH_succ (ds : List DiskD) (t : ByteArray) (m k : Nat) : cntH ds t m (k + 1) = cntH ds t m k + (badH ds t m k).toNat := by
  unfold cntH
  rw [List.range_succ, List.filter_append]
  cases h : badH ds t m k <;> simp [h]
theorem cntH_le (ds : List DiskD) (t : ByteArray) (m k : Nat) : cntH ds t m k ≤ k := by
  unfold cntH
  exact Nat.le_trans (List.length_filter_le _ _) (by simp)
theorem colsS_get (ps : List HD) (m k : Nat) (hk : k < ps.length) : (colsS ps m).getD k ByteArray.empty = colS (ps.getD k default).d m := by
  unfold colsS
  simp [List.getD, hk]
/-- What healing makes. -/
def healD (ds : List DiskD) (t : ByteArray) (m : Nat) : Option (List DiskD) := eachTo (stepPut (m : Int) (colOf t) (badH ds t m)) ds 3

theorem col_le (t : ByteArray) (i : Nat) (h : t.size ≤ 128) : ([col0 t, col1 t, col2 t].getD i ByteArray.empty).size ≤ 128 := by
  have h0 : (col0 t).size ≤ 128 := by rw [size_list]; unfold col0; rw [list_extract, List.length_take, List.length_drop, ← size_list]; omega
  have h1 : (col1 t).size ≤ 128 := by rw [size_list]; unfold col1; rw [list_extract, List.length_take, List.length_drop, ← size_list]; omega
  have h2 : (col2 t).size ≤ 128 := by rw [col2_size]; unfold half; omega
  match i with
  | 0 => exact h0
  | 1 => exact h1
  | 2 => exact h2
  | i + 3 => simp [List.getD]

theorem l4Heal_any (w0 w : World) (g c0 : Nat) (ps : List HD) (F : List Asr) (hl : ps.length = 3) (hok : ∀ k, k < ps.length → (ps.getD k default).d.ok = true) (hpw : ∀ k, (ps.getD k default).d.fWaits.length ≤ 1000) (p : PtrD) (m n : Nat) (hpa : p.fAt = (m : Int)) (hps : p.fSize = (n : Int)) (hm : m < 64) (hn1 : 1 ≤ n) (hn2 : n ≤ 128) (x0 x1 x2 : ByteArray) (hz0 : x0.size ≤ 1048576) (hz1 : x1.size ≤ 1048576) (hz2 : x2.size ≤ 1048576) (hx : colsS ps m = [x0, x1, x2]) (hS : St w0 (rowA HD.cells 3 44 (.slice (some ⟨g, 0, none⟩) 3 c0) ps :: sepA (ps.map HD.asr) :: F) w) : Calls Try.prog 103 #[.agg #[.slice (some ⟨g, 0, none⟩) 3 c0], .agg #[.int .i64 p.fAt, .int .i64 p.fBirth, .int .i64 p.fSize, .int .i64 p.fSum, .int .i64 p.fLevel]] w fun e w' => (((readF x0 x1 x2 p n).2 = false ∨ ((readF x0 x1 x2 p n).2 = true ∧ healD (dsOf ps) (readF x0 x1 x2 p n).1 m = none)) ∧ e = .returned (.tuple #[.agg #[.slice none 0 0], .int .i64 0, .bool false]) ∧ St w0 F w') ∨ ((readF x0 x1 x2 p n).2 = true ∧ ∃ qs : List HD, healD (dsOf ps) (readF x0 x1 x2 p n).1 m = some (dsOf qs) ∧ e = .returned (.tuple #[.agg #[.slice (some ⟨g, 0, none⟩) 3 c0], .int .i64 (cntH (dsOf ps) (readF x0 x1 x2 p n).1 m 3 : Nat), .bool true]) ∧ St w0 (rowA HD.cells 3 44 (.slice (some ⟨g, 0, none⟩) 3 c0) qs :: sepA (qs.map HD.asr) :: F) w') := by
 have HS := Bx.mk hS; clear hS
 refine wc_enter Try.func103 rfl Try.ntmps103 [(0, .agg #[.slice (some ⟨g, 0, none⟩) 3 c0]), (1, .agg #[.int .i64 p.fAt, .int .i64 p.fBirth, .int .i64 p.fSize, .int .i64 p.fSum, .int .i64 p.fLevel])] ⟨rfl, rfl, trivial⟩ rfl ?_; intro a HF
 refine wp_sr ?_
 refine wl_box rfl HF rfl (HF.ev rfl) (Z := [.slice (some ⟨g, 0, none⟩) 3 c0]) rfl rfl rfl rfl HS.out ?_; clear HF HS a; intro a w1 b1 HF HS; replace HS := Bx.mk HS
 refine wl_box rfl HF rfl (HF.ev rfl) (Z := [.int .i64 p.fAt, .int .i64 p.fBirth, .int .i64 p.fSize, .int .i64 p.fSum, .int .i64 p.fLevel]) rfl rfl rfl rfl HS.out ?_; clear HF HS a; intro a w2 b2 HF HS; replace HS := Bx.mk HS
 refine wl_alloc rfl HF rfl rfl rfl (Z := [.slice none 0 0]) (by kernel_rfl) rfl HS.out ?_; clear HF HS a; intro a w3 b3 HF HS; replace HS := Bx.mk HS
 refine wl_as HF rfl rfl rfl rfl rfl ?_; clear HF a; intro a HF
 refine wl_as HF rfl rfl rfl rfl rfl ?_; clear HF a; intro a HF
 refine wl_ne ?_
 refine wp_sr ?_
 refine wl_y rfl HF rfl rfl (yl_loadR (cs := [.slice (some ⟨g, 0, none⟩) 3 c0]) rfl (HF.ev rfl) ((HS.out.box 2 rfl).sub 0 1) (by kernel_rfl)) ?_; clear HF a; intro a HF
 refine wl_y rfl HF rfl rfl (yl_loadR (cs := [.int .i64 p.fAt, .int .i64 p.fBirth, .int .i64 p.fSize, .int .i64 p.fSum, .int .i64 p.fLevel]) rfl (HF.ev rfl) ((HS.out.box 1 rfl).sub 0 5) (by kernel_rfl)) ?_; clear HF a; intro a HF
 refine wl_callB rfl HF rfl (enter_of Try.func151 (by kernel_rfl) rfl) (args := #[.agg #[.slice (some ⟨g, 0, none⟩) 3 c0], .agg #[.int .i64 p.fAt, .int .i64 p.fBirth, .int .i64 p.fSize, .int .i64 p.fSum, .int .i64 p.fLevel]]) rfl (v := .tuple #[.string ((readF x0 x1 x2 p n).1), .bool ((readF x0 x1 x2 p n).2)]) (l4Read_any _ c0 ps _ hl hok (by have h := St.rdOf HS.out HD.cells_len 3 rfl; exact h) (St.hdReads HS.out 4 rfl) p m n hpa hps hm hn1 hn2 x0 x1 x2 hz0 hz1 hz2 hx) rfl rfl HS.out ?_; clear HF HS a; intro w4 a HS HF; replace HS := Bx.mk HS
 refine wl_mv HF rfl rfl rfl rfl rfl ?_; clear HF a; intro a HF
 refine wl_y rfl HF rfl rfl (yl_extract rfl (HF.ev rfl) rfl) ?_; clear HF a; intro a HF
 refine wl_y rfl HF rfl rfl (yl_extract rfl (HF.ev rfl) rfl) ?_; clear HF a; intro a HF
 refine wl_as HF rfl rfl rfl rfl rfl ?_; clear HF a; intro a HF
 refine wl_as HF rfl rfl rfl rfl rfl ?_; clear HF a; intro a HF
 refine wl_ne ?_
 refine wp_seq ?_
 refine wp_sr ?_
 refine wl_mv HF rfl rfl rfl rfl rfl ?_; clear HF a; intro a HF
 refine wl_y rfl HF rfl rfl (yl_not rfl (HF.ev rfl)) ?_; clear HF a; intro a HF
 refine wl_ne ?_
 refine HF.cases 24 rfl (fun cc1 HF1 => ?_) (fun cc1 HF1 => ?_)
 ·clear HF; have HF := HF1; clear HF1
  have hrd : (readF x0 x1 x2 p n).2 = false := by simpa using cc1
  refine wc_true HF rfl ?_
  refine wp_sr ?_
  refine wl_y rfl HF rfl rfl (yl_build HF rfl (ps := []) rfl (cs := #[.slice none 0 0]) (by kernel_rfl)) ?_; clear HF a; intro a HF
  refine wl_storeBox rfl HF rfl rfl (HF.ev rfl) (HF.ev rfl) HS.out 0 rfl (cells_lit [.slice none 0 0] rfl rfl) (by kernel_rfl) ?_; clear HS; intro w5 HS; replace HS := Bx.mk HS
  have HS : Bx (St w0 (boxA b3 1 25 (.agg #[.slice none 0 0]) :: boxA b2 5 33 (.agg #[.int .i64 p.fAt, .int .i64 p.fBirth, .int .i64 p.fSize, .int .i64 p.fSum, .int .i64 p.fLevel]) :: boxA b1 1 25 (.agg #[.slice (some ⟨g, 0, none⟩) 3 c0]) :: rowA HD.cells 3 44 (.slice (some ⟨g, 0, none⟩) 3 c0) ps :: sepA (ps.map HD.asr) :: F) _) := HS
  refine wl_as HF rfl rfl rfl rfl rfl ?_; clear HF a; intro a HF
  refine wl_as HF rfl rfl rfl rfl rfl ?_; clear HF a; intro a HF
  refine wl_ne ?_
  refine wp_ret ?_
  refine ex_then_ret ?_
  refine bp_ret3 HF Try.results103 (HF.resBox rfl (HS.out.box 0 rfl) (by kernel_rfl)) (HF.res rfl) (HF.res rfl) ?_
  refine .inl ⟨.inl hrd, rfl, (((((HS.out.erase 4).erase 3).erase 2).erase 1).erase 0)⟩
 ·clear HF; have HF := HF1; clear HF1
  have hrd : (readF x0 x1 x2 p n).2 = true := by simpa using cc1
  have hf1 := (PtrD.fits_size (readF_ok hrd)).2.2.1; rw [hps] at hf1
  refine wc_false HF rfl ?_
  refine wp_skip ?_
  refine ex_then ?_
  refine wp_sr ?_
  refine wl_mv HF rfl rfl rfl rfl rfl ?_; clear HF a; intro a HF
  refine wl_call rfl HF rfl (enter_of Try.func56 (by kernel_rfl) rfl) (args := #[.string ((readF x0 x1 x2 p n).1)]) rfl (l4Cut_any (readF x0 x1 x2 p n).1 _ (by omega) (by omega)) rfl rfl ?_
  rintro _ w6 ⟨gw, rfl, hs⟩
  refine ⟨_, rfl, ?_⟩; replace HS := Bx.mk (HS.out.add hs); clear hs HF; clear a; intro a HF
  replace HS : Bx (St w0 (rowA encS 1 9 (.slice (some ⟨gw, 0, none⟩) 3 3) ([col0 (readF x0 x1 x2 p n).1, col1 (readF x0 x1 x2 p n).1, col2 (readF x0 x1 x2 p n).1]) :: boxA b3 1 25 (.agg #[.slice none 0 0]) :: boxA b2 5 33 (.agg #[.int .i64 p.fAt, .int .i64 p.fBirth, .int .i64 p.fSize, .int .i64 p.fSum, .int .i64 p.fLevel]) :: boxA b1 1 25 (.agg #[.slice (some ⟨g, 0, none⟩) 3 c0]) :: rowA HD.cells 3 44 (.slice (some ⟨g, 0, none⟩) 3 c0) ps :: sepA (ps.map HD.asr) :: F) _) := ⟨HS.out⟩
  obtain ⟨t, ht⟩ : ∃ t, t = (readF x0 x1 x2 p n).1 := ⟨_, rfl⟩; rw [← ht] at HF HS hf1
  have hwl : [col0 t, col1 t, col2 t].length = 3 := rfl
  refine wl_as HF rfl rfl rfl rfl rfl ?_; clear HF a; intro a HF
  refine wl_ne ?_
  refine wp_sr ?_
  refine wl_y rfl HF rfl rfl (yl_loadR (cs := [.slice (some ⟨g, 0, none⟩) 3 c0]) rfl (HF.ev rfl) ((HS.out.box 3 rfl).sub 0 1) (by kernel_rfl)) ?_; clear HF a; intro a HF
  refine wl_y rfl HF rfl rfl (yl_fieldAddr (j := 0) rfl (HF.ev rfl) (by kernel_rfl)) ?_; clear HF a; intro a HF
  refine wl_y rfl HF rfl rfl (yl_load (v := .int .i64 p.fAt) rfl (HF.ev rfl) (((HS.out.box 2 rfl).cell 0).trans rfl) (by kernel_rfl)) ?_; clear HF a; intro a HF
  refine wl_call rfl HF rfl (enter_of Try.func152 (by kernel_rfl) rfl) (args := #[.agg #[.slice (some ⟨g, 0, none⟩) 3 c0], .int .i64 p.fAt]) rfl (by have := l4Cols_any _ c0 ps _ (by omega) hok (by have h := St.rdOf HS.out HD.cells_len 4 rfl; exact h) (St.hdReads HS.out 5 rfl) m hm; rw [hl, ← hpa] at this; exact this) rfl rfl ?_
  rintro _ w7 ⟨aoc, cpc, rfl, hs⟩
  refine ⟨_, rfl, ?_⟩; replace HS := Bx.mk (HS.out.add hs); clear hs HF; clear a; intro a HF
  replace HS : Bx (St w0 (rowA encS 1 9 (.slice aoc 3 cpc) (colsS ps m) :: rowA encS 1 9 (.slice (some ⟨gw, 0, none⟩) 3 3) ([col0 t, col1 t, col2 t]) :: boxA b3 1 25 (.agg #[.slice none 0 0]) :: boxA b2 5 33 (.agg #[.int .i64 p.fAt, .int .i64 p.fBirth, .int .i64 p.fSize, .int .i64 p.fSum, .int .i64 p.fLevel]) :: boxA b1 1 25 (.agg #[.slice (some ⟨g, 0, none⟩) 3 c0]) :: rowA HD.cells 3 44 (.slice (some ⟨g, 0, none⟩) 3 c0) ps :: sepA (ps.map HD.asr) :: F) _) := ⟨HS.out⟩
  have hcl : (colsS ps m).length = 3 := by unfold colsS; rw [List.length_map, hl]
  obtain ⟨g4, rfl, _, _, _, _⟩ := HS.out.rowOpen 0 rfl (by omega)
  refine wl_as HF rfl rfl rfl rfl rfl ?_; clear HF a; intro a HF
  refine wl_ne ?_
  refine wp_sr ?_
  refine wl_empty (e := 4) (size := 1) rfl HF rfl rfl rfl (by kernel_rfl) HS.out ?_; clear HF HS a; intro a w8 b5 HF HS; replace HS := Bx.mk HS
  refine wl_as HF rfl rfl rfl rfl rfl ?_; clear HF a; intro a HF
  refine wl_ne ?_
  refine wp_sr ?_
  refine wl_as HF rfl rfl rfl rfl rfl ?_; clear HF a; intro a HF
  refine wl_ne ?_
  refine wp_seq ?_
  refine wp_sr ?_
  refine wl_as HF rfl rfl rfl rfl rfl ?_; clear HF a; intro a HF
  refine wl_ne ?_
  refine wp_block ?_
  replace HS := Bx.mk (HS.out.nilRow encL 1 4 (some ⟨b5, 0, none⟩))
  refine wc_loop (ι := Nat) (fun k a w => ∃ (ao : Option Addr) (cp : Nat) (xs : List Bool), (k ≤ 3 ∧ xs = badsH (dsOf ps) t m k) ∧ Fr 78 a [(2, .pointer (some ⟨b1, 0, none⟩)), (3, .pointer (some ⟨b2, 0, none⟩)), (4, .pointer (some ⟨b3, 0, none⟩)), (5, .int .i64 0), (6, .bool false), (9, .slice (some ⟨gw, 0, none⟩) 3 3), (10, .slice (some ⟨g4, 0, none⟩) 3 cpc), (11, .slice ao xs.length cp), (12, .int .i64 (cntH (dsOf ps) t m k : Int)), (13, .int .i64 (k : Int))] ∧ St w0 (rowA encL 1 4 (.slice ao xs.length cp) xs :: rowA encS 1 9 (.slice (some ⟨g4, 0, none⟩) 3 cpc) (colsS ps m) :: rowA encS 1 9 (.slice (some ⟨gw, 0, none⟩) 3 3) ([col0 t, col1 t, col2 t]) :: boxA b3 1 25 (.agg #[.slice none 0 0]) :: boxA b2 5 33 (.agg #[.int .i64 p.fAt, .int .i64 p.fBirth, .int .i64 p.fSize, .int .i64 p.fSum, .int .i64 p.fLevel]) :: boxA b1 1 25 (.agg #[.slice (some ⟨g, 0, none⟩) 3 c0]) :: rowA HD.cells 3 44 (.slice (some ⟨g, 0, none⟩) 3 c0) ps :: sepA (ps.map HD.asr) :: F) w) (fun k => 3 - k) 0 ⟨_, _, [], ⟨Nat.zero_le _, rfl⟩, HF.less _ ⟨rfl, rfl, rfl, rfl, rfl, rfl, rfl, rfl, rfl, rfl, trivial⟩, HS.out⟩ ?_
  clear HF HS; clear a
  rintro k a w9 ⟨ao, cp, xs, ⟨hk, hq⟩, HF, HS⟩
  replace HS := Bx.mk HS
  have hxl : xs.length = k := by rw [hq]; unfold badsH; simp
  have hcle := cntH_le (dsOf ps) t m k
  refine wp_seq ?_
  refine wp_sr ?_
  refine wl_mv HF rfl rfl rfl rfl rfl ?_; clear HF a; intro a HF
  refine wl_mv HF rfl rfl rfl rfl rfl ?_; clear HF a; intro a HF
  refine wl_y rfl HF rfl rfl (yl_lenL (e := 9) (size := 1) rfl (HF.ev rfl) (by kernel_rfl)) ?_; clear HF a; intro a HF
  refine wl_y rfl HF rfl rfl (yl_lssI rfl (HF.ev rfl) (HF.ev rfl)) ?_; clear HF a; intro a HF
  refine wl_ne ?_
  refine HF.cases 36 rfl (fun cc2 HF1 => ?_) (fun cc2 HF1 => ?_)
  ·clear HF; have HF := HF1; clear HF1
   have dcc2 := of_decide_eq_true cc2
   refine wc_true HF rfl ?_
   refine wp_skip ?_
   refine ex_then ?_
   refine wp_seq ?_
   refine wp_block ?_
   refine wp_seq ?_
   refine wr_quiet (by kernel_rfl) (by kernel_rfl) HS.out ?_
   refine wq_y rfl HF rfl rfl (fun _ HS => (yl_fieldAddr (j := 0) rfl (HF.ev rfl) (by kernel_rfl))) ?_; clear HF a; intro a HF
   refine wq_y rfl HF rfl rfl (fun _ HS => (yl_load (v := .slice (some ⟨g, 0, none⟩) 3 c0) rfl (HF.ev rfl) (((HS.box 5 rfl).cell 0).trans rfl) (by kernel_rfl))) ?_; clear HF a; intro a HF
   refine wq_y rfl HF rfl rfl (fun _ HS => (yl_move rfl (HF.ev rfl))) ?_; clear HF a; intro a HF
   refine wq_y rfl HF rfl rfl (fun _ HS => (yl_indexAddr (e := 44) (i := k) (size := 3) rfl (HF.ev rfl) (HF.ev rfl) (by kernel_rfl) rfl (by omega))) ?_; clear HF a; intro a HF
   refine wq_y rfl HF rfl rfl (fun _ HS => (yl_fieldAddr (j := 2) rfl (HF.ev rfl) (by kernel_rfl))) ?_; clear HF a; intro a HF
   refine wq_y rfl HF rfl rfl (fun _ HS => (yl_load (v := .bool ((ps.getD k default).d.fGone)) rfl (HF.ev rfl) (HS.elem HD.cells_len 6 rfl (get_getD (xs := ps) (j := k) (d := default) (by omega)) 2 _ rfl) (by kernel_rfl))) ?_; clear HF a; intro a HF
   refine wq_y rfl HF rfl rfl (fun _ HS => (yl_not rfl (HF.ev rfl))) ?_; clear HF a; intro a HF
   refine wq_y rfl HF rfl rfl (fun _ HS => (yl_move rfl (HF.ev rfl))) ?_; clear HF a; intro a HF
   refine HF.cases 46 rfl (fun cc3 HF1 => ?_) (fun cc3 HF1 => ?_)
   ·clear HF; have HF := HF1; clear HF1
    refine wq_yg HF rfl rfl rfl rfl rfl (fun _ HS => (yl_move rfl (HF.ev rfl))) ?_; clear HF a; intro a HF
    refine wq_yg HF rfl rfl rfl rfl rfl (fun _ HS => (yl_move rfl (HF.ev rfl))) ?_; clear HF a; intro a HF
    refine wq_yg HF rfl rfl rfl rfl rfl (fun _ HS => (yl_indexAddr (e := 9) (i := k) (size := 1) rfl (HF.ev rfl) (HF.ev rfl) (by kernel_rfl) rfl (by omega))) ?_; clear HF a; intro a HF
    refine wq_yg HF rfl rfl rfl rfl rfl (fun _ HS => (yl_load (v := .string ((colsS ps m).getD k ByteArray.empty)) rfl (HF.ev rfl) (HS.elem1 encS_len 1 rfl (get_getD (xs := colsS ps m) (j := k) (d := ByteArray.empty) (by omega)) rfl) (by kernel_rfl))) ?_; clear HF a; intro a HF
    refine wq_yg HF rfl rfl rfl rfl rfl (fun _ HS => (yl_move rfl (HF.ev rfl))) ?_; clear HF a; intro a HF
    refine wq_yg HF rfl rfl rfl rfl rfl (fun _ HS => (yl_move rfl (HF.ev rfl))) ?_; clear HF a; intro a HF
    refine wq_yg HF rfl rfl rfl rfl rfl (fun _ HS => (yl_indexAddr (e := 9) (i := k) (size := 1) rfl (HF.ev rfl) (HF.ev rfl) (by kernel_rfl) rfl (by omega))) ?_; clear HF a; intro a HF
    refine wq_yg HF rfl rfl rfl rfl rfl (fun _ HS => (yl_load (v := .string (([col0 t, col1 t, col2 t]).getD k ByteArray.empty)) rfl (HF.ev rfl) (HS.elem1 encS_len 2 rfl (get_getD (xs := [col0 t, col1 t, col2 t]) (j := k) (d := ByteArray.empty) (by omega)) rfl) (by kernel_rfl))) ?_; clear HF a; intro a HF
    refine wq_yg HF rfl rfl rfl rfl rfl (fun _ HS => (yl_neqS rfl (HF.ev rfl) (HF.ev rfl))) ?_; clear HF a; intro a HF
    refine wq_y rfl HF rfl rfl (fun _ HS => (yl_pick_t rfl (HF.ev rfl) (HF.ev rfl))) ?_; clear HF a; intro a HF
    refine wq_y rfl HF rfl rfl (fun _ HS => (yl_assign rfl (HF.ev rfl))) ?_; clear HF a; intro a HF
    refine wpQuiet_nil ?_; intro w10 HS; replace HS := Bx.mk HS
    refine ex_then ?_
    refine wp_sr ?_
    refine wl_mv HF rfl rfl rfl rfl rfl ?_; clear HF a; intro a HF
    refine wl_mv HF rfl rfl rfl rfl rfl ?_; clear HF a; intro a HF
    refine wl_buildS (enc := encL) (e := 4) (size := 1) rfl HF rfl rfl rfl (ps := [(0, .bool (!(((colsS ps m).getD k ByteArray.empty).toList == (([col0 t, col1 t, col2 t]).getD k ByteArray.empty).toList)))]) rfl (cells := [.bool (!(((colsS ps m).getD k ByteArray.empty).toList == (([col0 t, col1 t, col2 t]).getD k ByteArray.empty).toList))]) (by kernel_rfl) [(!(((colsS ps m).getD k ByteArray.empty).toList == (([col0 t, col1 t, col2 t]).getD k ByteArray.empty).toList))] rfl rfl (by unfold maxLen; omega) rfl HS.out ?_; clear HF HS a; intro b6 a w11 HF HS; replace HS := Bx.mk HS
    refine wl_appL rfl HF rfl rfl rfl (HF.ev rfl) (HF.ev rfl) elemL encL_len HS.out 1 (xs := xs) rfl (ys := [(!(((colsS ps m).getD k ByteArray.empty).toList == (([col0 t, col1 t, col2 t]).getD k ByteArray.empty).toList))]) (St.rdN HS.out encL_len 0 rfl) (cells_one_L _) (by unfold maxLen; simp only [List.length_cons, List.length_nil]; omega) (by simp only [List.length_cons, List.length_nil]; omega) ?_; clear HF HS a; intro ao7 cp8 w12 a HF HS; replace HS := Bx.mk HS
    replace HS : Bx (St w0 (rowA encL 1 4 (.slice (some ⟨b6, 0, none⟩) 1 1) ([(!(((colsS ps m).getD k ByteArray.empty).toList == (([col0 t, col1 t, col2 t]).getD k ByteArray.empty).toList))]) :: rowA encL 1 4 (.slice ao7 (xs.length + ([(!(((colsS ps m).getD k ByteArray.empty).toList == (([col0 t, col1 t, col2 t]).getD k ByteArray.empty).toList))]).length) cp8) (xs ++ ([(!(((colsS ps m).getD k ByteArray.empty).toList == (([col0 t, col1 t, col2 t]).getD k ByteArray.empty).toList))])) :: rowA encS 1 9 (.slice (some ⟨g4, 0, none⟩) 3 cpc) (colsS ps m) :: rowA encS 1 9 (.slice (some ⟨gw, 0, none⟩) 3 3) ([col0 t, col1 t, col2 t]) :: boxA b3 1 25 (.agg #[.slice none 0 0]) :: boxA b2 5 33 (.agg #[.int .i64 p.fAt, .int .i64 p.fBirth, .int .i64 p.fSize, .int .i64 p.fSum, .int .i64 p.fLevel]) :: boxA b1 1 25 (.agg #[.slice (some ⟨g, 0, none⟩) 3 c0]) :: rowA HD.cells 3 44 (.slice (some ⟨g, 0, none⟩) 3 c0) ps :: sepA (ps.map HD.asr) :: F) _) := ⟨HS.out⟩
    refine wl_as HF rfl rfl rfl rfl rfl ?_; clear HF a; intro a HF
    refine wl_ne ?_
    refine wp_sr ?_
    refine wl_mv HF rfl rfl rfl rfl rfl ?_; clear HF a; intro a HF
    refine wl_ne ?_
    refine HF.cases 61 rfl (fun cc4 HF1 => ?_) (fun cc4 HF1 => ?_)
    ·clear HF; have HF := HF1; clear HF1
     refine wc_true HF rfl ?_
     refine wp_region_lit ?_
     refine wl_mv HF rfl rfl rfl rfl rfl ?_; clear HF a; intro a HF
     refine wl_y rfl HF rfl rfl (yl_addI rfl (HF.ev rfl) (HF.ev rfl) (i64w (by omega))) ?_; clear HF a; intro a HF
     refine wl_as HF rfl rfl rfl rfl rfl ?_; clear HF a; intro a HF
     refine wpList_nil ?_
     refine ex_block ?_
     refine ex_then ?_
     refine wp_region_lit ?_
     refine wl_mv HF rfl rfl rfl rfl rfl ?_; clear HF a; intro a HF
     refine wl_y rfl HF rfl rfl (yl_addI rfl (HF.ev rfl) (HF.ev rfl) (i64w (by omega))) ?_; clear HF a; intro a HF
     refine wl_as HF rfl rfl rfl rfl rfl ?_; clear HF a; intro a HF
     refine wl_ne ?_
     have hz : xs.length + [(!(((colsS ps m).getD k ByteArray.empty).toList == (([col0 t, col1 t, col2 t]).getD k ByteArray.empty).toList))].length = (xs ++ [(!(((colsS ps m).getD k ByteArray.empty).toList == (([col0 t, col1 t, col2 t]).getD k ByteArray.empty).toList))]).length := (List.length_append ..).symm
     rw [hz] at HS HF
     have hgn : (ps.getD k default).d.fGone = false := by simpa using cc3
     have hcg : (colsS ps m).getD k ByteArray.empty = (ps.getD k default).d.look m := by rw [colsS_get ps m k (by omega)]; unfold colS; rw [hgn]; rfl
     have hbad : badH (dsOf ps) t m k = true := by unfold badH; rw [dsOf_get, hgn]; rw [Bool.not_false, Bool.true_and, ← hcg]; exact cc4
     have hnext : xs ++ [(!(((colsS ps m).getD k ByteArray.empty).toList == (([col0 t, col1 t, col2 t]).getD k ByteArray.empty).toList))] = badsH (dsOf ps) t m (k + 1) := by rw [badsH_succ, ← hq, hbad]; rw [cc4]
     have hcnt : cntH (dsOf ps) t m (k + 1) = cntH (dsOf ps) t m k + 1 := by rw [cntH_succ, hbad]; rfl
     replace HS : Bx (St w0 (rowA encL 1 4 (.slice ao7 ((xs ++ [(!(((colsS ps m).getD k ByteArray.empty).toList == (([col0 t, col1 t, col2 t]).getD k ByteArray.empty).toList))]).length) cp8) (xs ++ ([(!(((colsS ps m).getD k ByteArray.empty).toList == (([col0 t, col1 t, col2 t]).getD k ByteArray.empty).toList))])) :: rowA encS 1 9 (.slice (some ⟨g4, 0, none⟩) 3 cpc) (colsS ps m) :: rowA encS 1 9 (.slice (some ⟨gw, 0, none⟩) 3 3) ([col0 t, col1 t, col2 t]) :: boxA b3 1 25 (.agg #[.slice none 0 0]) :: boxA b2 5 33 (.agg #[.int .i64 p.fAt, .int .i64 p.fBirth, .int .i64 p.fSize, .int .i64 p.fSum, .int .i64 p.fLevel]) :: boxA b1 1 25 (.agg #[.slice (some ⟨g, 0, none⟩) 3 c0]) :: rowA HD.cells 3 44 (.slice (some ⟨g, 0, none⟩) 3 c0) ps :: sepA (ps.map HD.asr) :: rowA encL 1 4 (.slice (some ⟨b6, 0, none⟩) 1 1) ([(!(((colsS ps m).getD k ByteArray.empty).toList == (([col0 t, col1 t, col2 t]).getD k ByteArray.empty).toList))]) :: F) _) := ⟨((((((((HS.out).pick 8 rfl).pick 8 rfl).pick 8 rfl).pick 8 rfl).pick 8 rfl).pick 8 rfl).pick 8 rfl).pick 8 rfl⟩
     exact ⟨k + 1, ⟨_, _, xs ++ [(!(((colsS ps m).getD k ByteArray.empty).toList == (([col0 t, col1 t, col2 t]).getD k ByteArray.empty).toList))], ⟨by omega, hnext⟩, HF.less _ ⟨rfl, rfl, rfl, rfl, rfl, rfl, rfl, rfl, (by show _ = some (Value.int .i64 ((cntH (dsOf ps) t m (k + 1) : Nat) : Int)); rw [hcnt]; rfl), rfl, trivial⟩, (HS.out.erase 8)⟩, (by omega)⟩
    ·clear HF; have HF := HF1; clear HF1
     refine wc_false HF rfl ?_
     refine wp_skip ?_
     refine ex_block ?_
     refine ex_then ?_
     refine wp_region_lit ?_
     refine wl_mv HF rfl rfl rfl rfl rfl ?_; clear HF a; intro a HF
     refine wl_y rfl HF rfl rfl (yl_addI rfl (HF.ev rfl) (HF.ev rfl) (i64w (by omega))) ?_; clear HF a; intro a HF
     refine wl_as HF rfl rfl rfl rfl rfl ?_; clear HF a; intro a HF
     refine wl_ne ?_
     have hz : xs.length + [(!(((colsS ps m).getD k ByteArray.empty).toList == (([col0 t, col1 t, col2 t]).getD k ByteArray.empty).toList))].length = (xs ++ [(!(((colsS ps m).getD k ByteArray.empty).toList == (([col0 t, col1 t, col2 t]).getD k ByteArray.empty).toList))]).length := (List.length_append ..).symm
     rw [hz] at HS HF
     have hgn : (ps.getD k default).d.fGone = false := by simpa using cc3
     have hcg : (colsS ps m).getD k ByteArray.empty = (ps.getD k default).d.look m := by rw [colsS_get ps m k (by omega)]; unfold colS; rw [hgn]; rfl
     have hbad : badH (dsOf ps) t m k = false := by unfold badH; rw [dsOf_get, hgn]; rw [Bool.not_false, Bool.true_and, ← hcg]; exact cc4
     have hnext : xs ++ [(!(((colsS ps m).getD k ByteArray.empty).toList == (([col0 t, col1 t, col2 t]).getD k ByteArray.empty).toList))] = badsH (dsOf ps) t m (k + 1) := by rw [badsH_succ, ← hq, hbad]; rw [cc4]
     have hcnt : cntH (dsOf ps) t m (k + 1) = cntH (dsOf ps) t m k + 0 := by rw [cntH_succ, hbad]; rfl
     replace HS : Bx (St w0 (rowA encL 1 4 (.slice ao7 ((xs ++ [(!(((colsS ps m).getD k ByteArray.empty).toList == (([col0 t, col1 t, col2 t]).getD k ByteArray.empty).toList))]).length) cp8) (xs ++ ([(!(((colsS ps m).getD k ByteArray.empty).toList == (([col0 t, col1 t, col2 t]).getD k ByteArray.empty).toList))])) :: rowA encS 1 9 (.slice (some ⟨g4, 0, none⟩) 3 cpc) (colsS ps m) :: rowA encS 1 9 (.slice (some ⟨gw, 0, none⟩) 3 3) ([col0 t, col1 t, col2 t]) :: boxA b3 1 25 (.agg #[.slice none 0 0]) :: boxA b2 5 33 (.agg #[.int .i64 p.fAt, .int .i64 p.fBirth, .int .i64 p.fSize, .int .i64 p.fSum, .int .i64 p.fLevel]) :: boxA b1 1 25 (.agg #[.slice (some ⟨g, 0, none⟩) 3 c0]) :: rowA HD.cells 3 44 (.slice (some ⟨g, 0, none⟩) 3 c0) ps :: sepA (ps.map HD.asr) :: rowA encL 1 4 (.slice (some ⟨b6, 0, none⟩) 1 1) ([(!(((colsS ps m).getD k ByteArray.empty).toList == (([col0 t, col1 t, col2 t]).getD k ByteArray.empty).toList))]) :: F) _) := ⟨((((((((HS.out).pick 8 rfl).pick 8 rfl).pick 8 rfl).pick 8 rfl).pick 8 rfl).pick 8 rfl).pick 8 rfl).pick 8 rfl⟩
     exact ⟨k + 1, ⟨_, _, xs ++ [(!(((colsS ps m).getD k ByteArray.empty).toList == (([col0 t, col1 t, col2 t]).getD k ByteArray.empty).toList))], ⟨by omega, hnext⟩, HF.less _ ⟨rfl, rfl, rfl, rfl, rfl, rfl, rfl, rfl, (by show _ = some (Value.int .i64 ((cntH (dsOf ps) t m (k + 1) : Nat) : Int)); rw [hcnt]; rfl), rfl, trivial⟩, (HS.out.erase 8)⟩, (by omega)⟩
   ·clear HF; have HF := HF1; clear HF1
    refine wq_skip HF rfl rfl rfl rfl rfl rfl ?_; clear HF a; intro a HF
    refine wq_skip HF rfl rfl rfl rfl rfl rfl ?_; clear HF a; intro a HF
    refine wq_skip HF rfl rfl rfl rfl rfl rfl ?_; clear HF a; intro a HF
    refine wq_skip HF rfl rfl rfl rfl rfl rfl ?_; clear HF a; intro a HF
    refine wq_skip HF rfl rfl rfl rfl rfl rfl ?_; clear HF a; intro a HF
    refine wq_skip HF rfl rfl rfl rfl rfl rfl ?_; clear HF a; intro a HF
    refine wq_skip HF rfl rfl rfl rfl rfl rfl ?_; clear HF a; intro a HF
    refine wq_skip HF rfl rfl rfl rfl rfl rfl ?_; clear HF a; intro a HF
    refine wq_skip HF rfl rfl rfl rfl rfl rfl ?_; clear HF a; intro a HF
    refine wq_y rfl HF rfl rfl (fun _ HS => (yl_pick_f rfl (HF.ev rfl) (HF.ev rfl))) ?_; clear HF a; intro a HF
    refine wq_y rfl HF rfl rfl (fun _ HS => (yl_assign rfl (HF.ev rfl))) ?_; clear HF a; intro a HF
    refine wpQuiet_nil ?_; intro w13 HS; replace HS := Bx.mk HS
    refine ex_then ?_
    refine wp_sr ?_
    refine wl_mv HF rfl rfl rfl rfl rfl ?_; clear HF a; intro a HF
    refine wl_mv HF rfl rfl rfl rfl rfl ?_; clear HF a; intro a HF
    refine wl_buildS (enc := encL) (e := 4) (size := 1) rfl HF rfl rfl rfl (ps := [(0, .bool false)]) rfl (cells := [.bool false]) (by kernel_rfl) [false] rfl rfl (by unfold maxLen; omega) rfl HS.out ?_; clear HF HS a; intro b9 a w14 HF HS; replace HS := Bx.mk HS
    refine wl_appL rfl HF rfl rfl rfl (HF.ev rfl) (HF.ev rfl) elemL encL_len HS.out 1 (xs := xs) rfl (ys := [false]) (St.rdN HS.out encL_len 0 rfl) (cells_one_L _) (by unfold maxLen; simp only [List.length_cons, List.length_nil]; omega) (by simp only [List.length_cons, List.length_nil]; omega) ?_; clear HF HS a; intro ao10 cp11 w15 a HF HS; replace HS := Bx.mk HS
    replace HS : Bx (St w0 (rowA encL 1 4 (.slice (some ⟨b9, 0, none⟩) 1 1) ([false]) :: rowA encL 1 4 (.slice ao10 (xs.length + ([false]).length) cp11) (xs ++ ([false])) :: rowA encS 1 9 (.slice (some ⟨g4, 0, none⟩) 3 cpc) (colsS ps m) :: rowA encS 1 9 (.slice (some ⟨gw, 0, none⟩) 3 3) ([col0 t, col1 t, col2 t]) :: boxA b3 1 25 (.agg #[.slice none 0 0]) :: boxA b2 5 33 (.agg #[.int .i64 p.fAt, .int .i64 p.fBirth, .int .i64 p.fSize, .int .i64 p.fSum, .int .i64 p.fLevel]) :: boxA b1 1 25 (.agg #[.slice (some ⟨g, 0, none⟩) 3 c0]) :: rowA HD.cells 3 44 (.slice (some ⟨g, 0, none⟩) 3 c0) ps :: sepA (ps.map HD.asr) :: F) _) := ⟨HS.out⟩
    refine wl_as HF rfl rfl rfl rfl rfl ?_; clear HF a; intro a HF
    refine wl_ne ?_
    refine wp_sr ?_
    refine wl_mv HF rfl rfl rfl rfl rfl ?_; clear HF a; intro a HF
    refine wl_ne ?_
    refine wc_false HF rfl ?_
    refine wp_skip ?_
    refine ex_block ?_
    refine ex_then ?_
    refine wp_region_lit ?_
    refine wl_mv HF rfl rfl rfl rfl rfl ?_; clear HF a; intro a HF
    refine wl_y rfl HF rfl rfl (yl_addI rfl (HF.ev rfl) (HF.ev rfl) (i64w (by omega))) ?_; clear HF a; intro a HF
    refine wl_as HF rfl rfl rfl rfl rfl ?_; clear HF a; intro a HF
    refine wl_ne ?_
    have hz : xs.length + [false].length = (xs ++ [false]).length := (List.length_append ..).symm
    rw [hz] at HS HF
    have hgn : (ps.getD k default).d.fGone = true := by simpa using cc3
    have hbad : badH (dsOf ps) t m k = false := by unfold badH; rw [dsOf_get, hgn]; rfl
    have hnext : xs ++ [false] = badsH (dsOf ps) t m (k + 1) := by rw [badsH_succ, ← hq, hbad]
    have hcnt : cntH (dsOf ps) t m (k + 1) = cntH (dsOf ps) t m k + 0 := by rw [cntH_succ, hbad]; rfl
    replace HS : Bx (St w0 (rowA encL 1 4 (.slice ao10 ((xs ++ [false]).length) cp11) (xs ++ ([false])) :: rowA encS 1 9 (.slice (some ⟨g4, 0, none⟩) 3 cpc) (colsS ps m) :: rowA encS 1 9 (.slice (some ⟨gw, 0, none⟩) 3 3) ([col0 t, col1 t, col2 t]) :: boxA b3 1 25 (.agg #[.slice none 0 0]) :: boxA b2 5 33 (.agg #[.int .i64 p.fAt, .int .i64 p.fBirth, .int .i64 p.fSize, .int .i64 p.fSum, .int .i64 p.fLevel]) :: boxA b1 1 25 (.agg #[.slice (some ⟨g, 0, none⟩) 3 c0]) :: rowA HD.cells 3 44 (.slice (some ⟨g, 0, none⟩) 3 c0) ps :: sepA (ps.map HD.asr) :: rowA encL 1 4 (.slice (some ⟨b9, 0, none⟩) 1 1) ([false]) :: F) _) := ⟨((((((((HS.out).pick 8 rfl).pick 8 rfl).pick 8 rfl).pick 8 rfl).pick 8 rfl).pick 8 rfl).pick 8 rfl).pick 8 rfl⟩
    exact ⟨k + 1, ⟨_, _, xs ++ [false], ⟨by omega, hnext⟩, HF.less _ ⟨rfl, rfl, rfl, rfl, rfl, rfl, rfl, rfl, (by show _ = some (Value.int .i64 ((cntH (dsOf ps) t m (k + 1) : Nat) : Int)); rw [hcnt]; rfl), rfl, trivial⟩, (HS.out.erase 8)⟩, (by omega)⟩
  ·clear HF; have HF := HF1; clear HF1
   have dcc2 := of_decide_eq_false cc2
   refine wc_false HF rfl ?_
   refine wp_exit ?_
   refine ex_then_exit ?_
   refine ex_then_exit ?_
   refine ex_block_hit ?_
   refine ex_then ?_
   refine wp_sr ?_
   refine wl_y rfl HF rfl rfl (yl_loadR (cs := [.slice (some ⟨g, 0, none⟩) 3 c0]) rfl (HF.ev rfl) ((HS.out.box 5 rfl).sub 0 1) (by kernel_rfl)) ?_; clear HF a; intro a HF
   refine wl_y rfl HF rfl rfl (yl_fieldAddr (j := 0) rfl (HF.ev rfl) (by kernel_rfl)) ?_; clear HF a; intro a HF
   refine wl_y rfl HF rfl rfl (yl_load (v := .int .i64 p.fAt) rfl (HF.ev rfl) (((HS.out.box 4 rfl).cell 0).trans rfl) (by kernel_rfl)) ?_; clear HF a; intro a HF
   refine wl_mv HF rfl rfl rfl rfl rfl ?_; clear HF a; intro a HF
   refine wl_mv HF rfl rfl rfl rfl rfl ?_; clear HF a; intro a HF
   obtain rfl : k = 3 := by omega
   obtain ⟨g12, rfl, _, _, _, _⟩ := HS.out.rowOpen 0 rfl (by omega)
   rw [hxl] at HS HF
   replace HS : Bx (St w0 (rowA HD.cells 3 44 (.slice (some ⟨g, 0, none⟩) 3 c0) ps :: sepA (ps.map HD.asr) :: rowA encS 1 9 (.slice (some ⟨gw, 0, none⟩) 3 3) ([col0 t, col1 t, col2 t]) :: rowA encL 1 4 (.slice (some ⟨g12, 0, none⟩) 3 cp) xs :: rowA encS 1 9 (.slice (some ⟨g4, 0, none⟩) 3 cpc) (colsS ps m) :: boxA b3 1 25 (.agg #[.slice none 0 0]) :: boxA b2 5 33 (.agg #[.int .i64 p.fAt, .int .i64 p.fBirth, .int .i64 p.fSize, .int .i64 p.fSum, .int .i64 p.fLevel]) :: boxA b1 1 25 (.agg #[.slice (some ⟨g, 0, none⟩) 3 c0]) :: F) _) := ⟨((((HS.out).pick 0 rfl).pick 2 rfl).pick 7 rfl).pick 7 rfl⟩
   have hxg : ∀ i, i < 3 → xs.getD i false = badH (dsOf ps) t m i := fun i hi => by rw [hq]; simp [badsH, List.getD, hi]
   have hcong : eachTo (stepPut (m : Int) (fun i => [col0 t, col1 t, col2 t].getD i ByteArray.empty) (fun i => xs.getD i false)) (dsOf ps) 3 = healD (dsOf ps) t m := eachTo_congr fun i hi => by have h9 := hxg i hi; simp only [stepPut, h9, colOf]
   refine wl_call rfl HF rfl (enter_of Try.func54 (by kernel_rfl) rfl) (args := #[.agg #[.slice (some ⟨g, 0, none⟩) 3 c0], .int .i64 p.fAt, .slice (some ⟨gw, 0, none⟩) 3 3, .slice (some ⟨g12, 0, none⟩) 3 cp]) rfl (by have := l4Put_any w0 _ g c0 gw 3 g12 cp ps (m : Int) [col0 t, col1 t, col2 t] xs _ (by omega) (by rw [hl]; exact Nat.le_refl 3) (by omega) hpw (fun i => Nat.le_trans (col_le t i (by omega)) (by decide)) (by rw [hl, hxl]; exact HS.out); rw [hl, hcong, hxl, ← hpa] at this; exact this) rfl rfl ?_
   rintro _ w16 (⟨hev, rfl, hs⟩ | ⟨qs, hev, rfl, hs⟩)
   ·skip
    refine ⟨_, rfl, ?_⟩; replace HS := Bx.mk hs; clear hs HF; clear a; intro a HF
    replace HS : Bx (St w0 (rowA encS 1 9 (.slice (some ⟨gw, 0, none⟩) 3 3) ([col0 t, col1 t, col2 t]) :: rowA encL 1 4 (.slice (some ⟨g12, 0, none⟩) 3 cp) xs :: rowA encS 1 9 (.slice (some ⟨g4, 0, none⟩) 3 cpc) (colsS ps m) :: boxA b3 1 25 (.agg #[.slice none 0 0]) :: boxA b2 5 33 (.agg #[.int .i64 p.fAt, .int .i64 p.fBirth, .int .i64 p.fSize, .int .i64 p.fSum, .int .i64 p.fLevel]) :: boxA b1 1 25 (.agg #[.slice (some ⟨g, 0, none⟩) 3 c0]) :: F) _) := ⟨HS.out⟩
    refine wl_mv HF rfl rfl rfl rfl rfl ?_; clear HF a; intro a HF
    refine wl_y rfl HF rfl rfl (yl_extract rfl (HF.ev rfl) rfl) ?_; clear HF a; intro a HF
    refine wl_y rfl HF rfl rfl (yl_extract rfl (HF.ev rfl) rfl) ?_; clear HF a; intro a HF
    refine wl_alloc rfl HF rfl rfl rfl (Z := [.slice none 0 0]) (by kernel_rfl) rfl HS.out ?_; clear HF HS a; intro a w17 b13 HF HS; replace HS := Bx.mk HS
    refine wl_storeBox rfl HF rfl rfl (HF.ev rfl) (HF.ev rfl) HS.out 0 rfl (cells_lit [.slice none 0 0] rfl rfl) (by kernel_rfl) ?_; clear HS; intro w18 HS; replace HS := Bx.mk HS
    have HS : Bx (St w0 (boxA b13 1 25 (.agg #[.slice none 0 0]) :: rowA encS 1 9 (.slice (some ⟨gw, 0, none⟩) 3 3) ([col0 t, col1 t, col2 t]) :: rowA encL 1 4 (.slice (some ⟨g12, 0, none⟩) 3 cp) xs :: rowA encS 1 9 (.slice (some ⟨g4, 0, none⟩) 3 cpc) (colsS ps m) :: boxA b3 1 25 (.agg #[.slice none 0 0]) :: boxA b2 5 33 (.agg #[.int .i64 p.fAt, .int .i64 p.fBirth, .int .i64 p.fSize, .int .i64 p.fSum, .int .i64 p.fLevel]) :: boxA b1 1 25 (.agg #[.slice (some ⟨g, 0, none⟩) 3 c0]) :: F) _) := HS
    refine wl_as HF rfl rfl rfl rfl rfl ?_; clear HF a; intro a HF
    refine wl_ne ?_
    refine wp_seq ?_
    refine wp_sr ?_
    refine wl_mv HF rfl rfl rfl rfl rfl ?_; clear HF a; intro a HF
    refine wl_y rfl HF rfl rfl (yl_not rfl (HF.ev rfl)) ?_; clear HF a; intro a HF
    refine wl_ne ?_
    refine wc_true HF rfl ?_
    refine wp_sr ?_
    refine wl_y rfl HF rfl rfl (yl_build HF rfl (ps := []) rfl (cs := #[.slice none 0 0]) (by kernel_rfl)) ?_; clear HF a; intro a HF
    refine wl_storeBox rfl HF rfl rfl (HF.ev rfl) (HF.ev rfl) HS.out 4 rfl (cells_lit [.slice none 0 0] rfl rfl) (by kernel_rfl) ?_; clear HS; intro w19 HS; replace HS := Bx.mk HS
    have HS : Bx (St w0 (boxA b13 1 25 (.agg #[.slice none 0 0]) :: rowA encS 1 9 (.slice (some ⟨gw, 0, none⟩) 3 3) ([col0 t, col1 t, col2 t]) :: rowA encL 1 4 (.slice (some ⟨g12, 0, none⟩) 3 cp) xs :: rowA encS 1 9 (.slice (some ⟨g4, 0, none⟩) 3 cpc) (colsS ps m) :: boxA b3 1 25 (.agg #[.slice none 0 0]) :: boxA b2 5 33 (.agg #[.int .i64 p.fAt, .int .i64 p.fBirth, .int .i64 p.fSize, .int .i64 p.fSum, .int .i64 p.fLevel]) :: boxA b1 1 25 (.agg #[.slice (some ⟨g, 0, none⟩) 3 c0]) :: F) _) := HS
    refine wl_as HF rfl rfl rfl rfl rfl ?_; clear HF a; intro a HF
    refine wl_as HF rfl rfl rfl rfl rfl ?_; clear HF a; intro a HF
    refine wl_ne ?_
    refine wp_ret ?_
    refine ex_then_ret ?_
    refine bp_ret3 HF Try.results103 (HF.resBox rfl (HS.out.box 4 rfl) (by kernel_rfl)) (HF.res rfl) (HF.res rfl) ?_
    refine .inl ⟨.inr ⟨hrd, by rw [← ht]; exact hev⟩, rfl, (((((((HS.out.erase 6).erase 5).erase 4).erase 3).erase 2).erase 1).erase 0)⟩
   ·skip
    refine ⟨_, rfl, ?_⟩; replace HS := Bx.mk hs; clear hs HF; clear a; intro a HF
    replace HS : Bx (St w0 (rowA HD.cells 3 44 (.slice (some ⟨g, 0, none⟩) 3 c0) qs :: sepA (qs.map HD.asr) :: rowA encS 1 9 (.slice (some ⟨gw, 0, none⟩) 3 3) ([col0 t, col1 t, col2 t]) :: rowA encL 1 4 (.slice (some ⟨g12, 0, none⟩) 3 cp) xs :: rowA encS 1 9 (.slice (some ⟨g4, 0, none⟩) 3 cpc) (colsS ps m) :: boxA b3 1 25 (.agg #[.slice none 0 0]) :: boxA b2 5 33 (.agg #[.int .i64 p.fAt, .int .i64 p.fBirth, .int .i64 p.fSize, .int .i64 p.fSum, .int .i64 p.fLevel]) :: boxA b1 1 25 (.agg #[.slice (some ⟨g, 0, none⟩) 3 c0]) :: F) _) := ⟨HS.out⟩
    refine wl_mv HF rfl rfl rfl rfl rfl ?_; clear HF a; intro a HF
    refine wl_y rfl HF rfl rfl (yl_extract rfl (HF.ev rfl) rfl) ?_; clear HF a; intro a HF
    refine wl_y rfl HF rfl rfl (yl_extract rfl (HF.ev rfl) rfl) ?_; clear HF a; intro a HF
    refine wl_alloc rfl HF rfl rfl rfl (Z := [.slice none 0 0]) (by kernel_rfl) rfl HS.out ?_; clear HF HS a; intro a w20 b14 HF HS; replace HS := Bx.mk HS
    refine wl_storeBox rfl HF rfl rfl (HF.ev rfl) (HF.ev rfl) HS.out 0 rfl (cells_lit [.slice (some ⟨g, 0, none⟩) 3 c0] rfl rfl) (by kernel_rfl) ?_; clear HS; intro w21 HS; replace HS := Bx.mk HS
    have HS : Bx (St w0 (boxA b14 1 25 (.agg #[.slice (some ⟨g, 0, none⟩) 3 c0]) :: rowA HD.cells 3 44 (.slice (some ⟨g, 0, none⟩) 3 c0) qs :: sepA (qs.map HD.asr) :: rowA encS 1 9 (.slice (some ⟨gw, 0, none⟩) 3 3) ([col0 t, col1 t, col2 t]) :: rowA encL 1 4 (.slice (some ⟨g12, 0, none⟩) 3 cp) xs :: rowA encS 1 9 (.slice (some ⟨g4, 0, none⟩) 3 cpc) (colsS ps m) :: boxA b3 1 25 (.agg #[.slice none 0 0]) :: boxA b2 5 33 (.agg #[.int .i64 p.fAt, .int .i64 p.fBirth, .int .i64 p.fSize, .int .i64 p.fSum, .int .i64 p.fLevel]) :: boxA b1 1 25 (.agg #[.slice (some ⟨g, 0, none⟩) 3 c0]) :: F) _) := HS
    refine wl_as HF rfl rfl rfl rfl rfl ?_; clear HF a; intro a HF
    refine wl_ne ?_
    refine wp_seq ?_
    refine wp_sr ?_
    refine wl_mv HF rfl rfl rfl rfl rfl ?_; clear HF a; intro a HF
    refine wl_y rfl HF rfl rfl (yl_not rfl (HF.ev rfl)) ?_; clear HF a; intro a HF
    refine wl_ne ?_
    refine wc_false HF rfl ?_
    refine wp_skip ?_
    refine ex_then ?_
    refine wp_sr ?_
    refine wl_y rfl HF rfl rfl (yl_loadR (cs := [.slice (some ⟨g, 0, none⟩) 3 c0]) rfl (HF.ev rfl) ((HS.out.box 0 rfl).sub 0 1) (by kernel_rfl)) ?_; clear HF a; intro a HF
    refine wl_mv HF rfl rfl rfl rfl rfl ?_; clear HF a; intro a HF
    refine wl_storeBox rfl HF rfl rfl (HF.ev rfl) (HF.ev rfl) HS.out 6 rfl (cells_lit [.slice (some ⟨g, 0, none⟩) 3 c0] rfl rfl) (by kernel_rfl) ?_; clear HS; intro w22 HS; replace HS := Bx.mk HS
    have HS : Bx (St w0 (boxA b14 1 25 (.agg #[.slice (some ⟨g, 0, none⟩) 3 c0]) :: rowA HD.cells 3 44 (.slice (some ⟨g, 0, none⟩) 3 c0) qs :: sepA (qs.map HD.asr) :: rowA encS 1 9 (.slice (some ⟨gw, 0, none⟩) 3 3) ([col0 t, col1 t, col2 t]) :: rowA encL 1 4 (.slice (some ⟨g12, 0, none⟩) 3 cp) xs :: rowA encS 1 9 (.slice (some ⟨g4, 0, none⟩) 3 cpc) (colsS ps m) :: boxA b3 1 25 (.agg #[.slice (some ⟨g, 0, none⟩) 3 c0]) :: boxA b2 5 33 (.agg #[.int .i64 p.fAt, .int .i64 p.fBirth, .int .i64 p.fSize, .int .i64 p.fSum, .int .i64 p.fLevel]) :: boxA b1 1 25 (.agg #[.slice (some ⟨g, 0, none⟩) 3 c0]) :: F) _) := HS
    refine wl_as HF rfl rfl rfl rfl rfl ?_; clear HF a; intro a HF
    refine wl_as HF rfl rfl rfl rfl rfl ?_; clear HF a; intro a HF
    refine wl_ne ?_
    refine wp_ret ?_
    refine bp_ret3 HF Try.results103 (HF.resBox rfl (HS.out.box 6 rfl) (by kernel_rfl)) (HF.res rfl) (HF.res rfl) ?_
    replace HS : Bx (St w0 (rowA HD.cells 3 44 (.slice (some ⟨g, 0, none⟩) 3 c0) qs :: sepA (qs.map HD.asr) :: boxA b14 1 25 (.agg #[.slice (some ⟨g, 0, none⟩) 3 c0]) :: rowA encS 1 9 (.slice (some ⟨gw, 0, none⟩) 3 3) ([col0 t, col1 t, col2 t]) :: rowA encL 1 4 (.slice (some ⟨g12, 0, none⟩) 3 cp) xs :: rowA encS 1 9 (.slice (some ⟨g4, 0, none⟩) 3 cpc) (colsS ps m) :: boxA b3 1 25 (.agg #[.slice (some ⟨g, 0, none⟩) 3 c0]) :: boxA b2 5 33 (.agg #[.int .i64 p.fAt, .int .i64 p.fBirth, .int .i64 p.fSize, .int .i64 p.fSum, .int .i64 p.fLevel]) :: boxA b1 1 25 (.agg #[.slice (some ⟨g, 0, none⟩) 3 c0]) :: F) _) := ⟨((HS.out).pick 2 rfl).pick 2 rfl⟩
    exact .inr ⟨hrd, qs, by rw [← ht]; exact hev, by rw [← ht], (((((((HS.out.erase 8).erase 7).erase 6).erase 5).erase 4).erase 3).erase 2)⟩

end Go.Proofs.Ytfijfjjleelphaa

/- Healing a set of disks, by the reference. -/
namespace Go.Proofs.Ytfijfjjleelphaa
set_option maxHeartbeats 1000000
set_option maxRecDepth 100000
open Go.RowKit

theorem lookW_mem (ws : List WaitD) (m : Nat) : ∀ t, lookW ws m = some t → ∃ k, k < ws.length ∧ t = (ws.getD k default).fText := by
  induction ws with
  | nil => intro t h; cases h
  | cons w ws ih =>
    intro t h
    rw [lookW_cons] at h
    cases h1 : lookW ws m with
    | some u =>
      rw [h1] at h
      obtain ⟨k, hk, e⟩ := ih u h1
      have : u = t := by simpa using h
      subst this
      exact ⟨k + 1, by simp; omega, by rw [e]; simp [List.getD]⟩
    | none =>
      rw [h1] at h
      simp only at h
      split at h
      · have : w.fText = t := by simpa using h
        exact ⟨0, by simp, by rw [← this]; simp [List.getD]⟩
      · cases h
theorem ok_parts {d : DiskD} (h : d.ok = true) : (∀ k, k < 64 → cellB d k = true) ∧ (∀ k, k < d.fWaits.length → waitB d k = true) := by
  have h2 := ok_waits h
  unfold DiskD.ok at h
  simp only [Bool.and_eq_true, decide_eq_true_eq] at h
  exact ⟨fun k hk => allB_at h.2.2.2.1 (by omega), fun k hk => allB_at h.2.2.2.2 hk⟩
theorem look_le {d : DiskD} (h : d.ok = true) (m : Nat) (hm : m < 64) : (d.look m).size ≤ 200 := by
  obtain ⟨h1, h2⟩ := ok_parts h
  unfold DiskD.look
  cases hl : lookW d.fWaits m with
  | none =>
    have := h1 m hm
    unfold cellB at this
    simp only [Bool.and_eq_true, decide_eq_true_eq] at this
    exact this.1
  | some t =>
    obtain ⟨k, hk, e⟩ := lookW_mem _ _ _ hl
    have := h2 k hk
    unfold waitB at this
    simp only [Bool.and_eq_true, decide_eq_true_eq] at this
    rw [Option.getD_some, e]; exact this.2
theorem goneX_size : goneX.size = 200 := by unfold goneX; rw [manyB_size]; rfl
theorem colS_le {d : DiskD} (h : d.ok = true) (m : Nat) (hm : m < 64) : (colS d m).size ≤ 200 := by
  unfold colS
  cases d.fGone with
  | true => show goneX.size ≤ 200; rw [goneX_size]; exact Nat.le_refl _
  | false => exact look_le h m hm
/-- What is read where a pointer leads. -/
def readD (ds : List DiskD) (p : PtrD) : ByteArray × Bool := readF (colS (ds.getD 0 default) p.fAt.toNat) (colS (ds.getD 1 default) p.fAt.toNat) (colS (ds.getD 2 default) p.fAt.toNat) p p.fSize.toNat
def healF (ds : List DiskD) (p : PtrD) : Option (List DiskD × Nat) :=
  bif okR ds && (p.ok && !p.hole) then (bif (readD ds p).2 then (healD ds (readD ds p).1 p.fAt.toNat).map (fun x => (x, cntH ds (readD ds p).1 p.fAt.toNat 3)) else none) else none
theorem colsS_three (ps : List HD) (m : Nat) (hl : ps.length = 3) : colsS ps m = [colS ((dsOf ps).getD 0 default) m, colS ((dsOf ps).getD 1 default) m, colS ((dsOf ps).getD 2 default) m] := by
  match ps, hl with
  | [p0, p1, p2], _ => rfl
theorem okR_three {ps : List HD} (h : okR (dsOf ps) = true) : ps.length = 3 ∧ ∀ k, k < ps.length → (ps.getD k default).d.ok = true := by
  rw [okR_ps] at h
  simp only [Bool.and_eq_true, decide_eq_true_eq] at h
  exact ⟨h.1, fun k hk => allB_at (p := fun k => (ps.getD k default).d.ok) h.2 hk⟩
theorem default_waits (qs ps : List HD) (h : dsOf qs = dsOf ps) (hok : ∀ k, k < ps.length → (ps.getD k default).d.ok = true) (k : Nat) : (qs.getD k default).d.fWaits.length ≤ 1000 := by
  rw [← dsOf_get, h, dsOf_get]
  by_cases hk : k < ps.length
  · have := ok_waits (hok k hk); omega
  · rw [List.getD_eq_getElem?_getD, List.getElem?_eq_none (by omega)]; exact Nat.zero_le _

theorem specRaidHeal_any (a0 : Option Addr) (c0 : Nat) (ps : List HD) (w0 : World) (hl : ps.length ≤ 1048576) (hf : ∀ k, (ps.getD k default).d.fits) (hR : Rd HD.cells 3 w0 a0 ps.length ps) (hP : ∀ k, k < ps.length → (ps.getD k default).reads w0) (p : PtrD) : Calls Try.prog 33 #[.agg #[.slice a0 ps.length c0], .agg #[.int .i64 p.fAt, .int .i64 p.fBirth, .int .i64 p.fSize, .int .i64 p.fSum, .int .i64 p.fLevel]] w0 fun e w' => (healF (dsOf ps) p = none ∧ e = .returned (.tuple #[.agg #[.slice none 0 0], .int .i64 0, .bool false]) ∧ St w0 [] w') ∨ (∃ ao cp qs nn, healF (dsOf ps) p = some (dsOf qs, nn) ∧ e = .returned (.tuple #[.agg #[.slice ao qs.length cp], .int .i64 (nn : Nat), .bool true]) ∧ St w0 [rowA HD.cells 3 44 (.slice ao qs.length cp) qs, sepA (qs.map HD.asr)] w') := by
 have HR := Bx.mk hR; have HP := Bx.mk hP; clear hR hP
 have HS := Bx.mk (St.start w0)
 refine wc_enter Try.func33 rfl Try.ntmps33 [(0, .agg #[.slice a0 ps.length c0]), (1, .agg #[.int .i64 p.fAt, .int .i64 p.fBirth, .int .i64 p.fSize, .int .i64 p.fSum, .int .i64 p.fLevel])] ⟨rfl, rfl, trivial⟩ rfl ?_; intro a HF
 refine wp_sr ?_
 refine wl_box rfl HF rfl (HF.ev rfl) (Z := [.slice a0 ps.length c0]) rfl rfl rfl rfl HS.out ?_; clear HF HS a; intro a w1 b1 HF HS; replace HS := Bx.mk HS
 refine wl_box rfl HF rfl (HF.ev rfl) (Z := [.int .i64 p.fAt, .int .i64 p.fBirth, .int .i64 p.fSize, .int .i64 p.fSum, .int .i64 p.fLevel]) rfl rfl rfl rfl HS.out ?_; clear HF HS a; intro a w2 b2 HF HS; replace HS := Bx.mk HS
 refine wl_alloc rfl HF rfl rfl rfl (Z := [.slice none 0 0]) (by kernel_rfl) rfl HS.out ?_; clear HF HS a; intro a w3 b3 HF HS; replace HS := Bx.mk HS
 refine wl_as HF rfl rfl rfl rfl rfl ?_; clear HF a; intro a HF
 refine wl_as HF rfl rfl rfl rfl rfl ?_; clear HF a; intro a HF
 refine wl_ne ?_
 refine wp_seq ?_
 refine wp_sr ?_
 refine wl_y rfl HF rfl rfl (yl_loadR (cs := [.slice a0 ps.length c0]) rfl (HF.ev rfl) ((HS.out.box 2 rfl).sub 0 1) (by kernel_rfl)) ?_; clear HF a; intro a HF
 refine wl_callB rfl HF rfl (enter_of Try.func51 (by kernel_rfl) rfl) (args := #[.agg #[.slice a0 ps.length c0]]) rfl (v := .bool (okR (dsOf ps))) (specRaidOk_any a0 c0 ps _ hl hf (HR.out.below HS.out.bel) (fun k hk => (HP.out k hk).below HS.out.bel)) rfl rfl HS.out ?_; clear HF HS a; intro w4 a HS HF; replace HS := Bx.mk HS
 refine wl_y rfl HF rfl rfl (yl_not rfl (HF.ev rfl)) ?_; clear HF a; intro a HF
 refine wl_mv HF rfl rfl rfl rfl rfl ?_; clear HF a; intro a HF
 refine HF.cases 10 rfl (fun cc1 HF1 => ?_) (fun cc1 HF1 => ?_)
 ·clear HF; have HF := HF1; clear HF1
  have q1 : okR (dsOf ps) = false := by simpa using cc1
  refine wl_skip HF rfl rfl rfl rfl rfl rfl ?_; clear HF a; intro a HF
  refine wl_skip HF rfl rfl rfl rfl rfl rfl ?_; clear HF a; intro a HF
  refine wl_skip HF rfl rfl rfl rfl rfl rfl ?_; clear HF a; intro a HF
  refine wl_y rfl HF rfl rfl (yl_pick_t rfl (HF.ev rfl) (HF.ev rfl)) ?_; clear HF a; intro a HF
  refine wl_mv HF rfl rfl rfl rfl rfl ?_; clear HF a; intro a HF
  refine wl_skip HF rfl rfl rfl rfl rfl rfl ?_; clear HF a; intro a HF
  refine wl_skip HF rfl rfl rfl rfl rfl rfl ?_; clear HF a; intro a HF
  refine wl_y rfl HF rfl rfl (yl_pick_t rfl (HF.ev rfl) (HF.ev rfl)) ?_; clear HF a; intro a HF
  refine wl_ne ?_
  refine wc_true HF rfl ?_
  refine wp_sr ?_
  refine wl_y rfl HF rfl rfl (yl_build HF rfl (ps := []) rfl (cs := #[.slice none 0 0]) (by kernel_rfl)) ?_; clear HF a; intro a HF
  refine wl_storeBox rfl HF rfl rfl (HF.ev rfl) (HF.ev rfl) HS.out 0 rfl (cells_lit [.slice none 0 0] rfl rfl) (by kernel_rfl) ?_; clear HS; intro w5 HS; replace HS := Bx.mk HS
  have HS : Bx (St w0 ([boxA b3 1 25 (.agg #[.slice none 0 0]), boxA b2 5 33 (.agg #[.int .i64 p.fAt, .int .i64 p.fBirth, .int .i64 p.fSize, .int .i64 p.fSum, .int .i64 p.fLevel]), boxA b1 1 25 (.agg #[.slice a0 ps.length c0])]) _) := HS
  refine wl_as HF rfl rfl rfl rfl rfl ?_; clear HF a; intro a HF
  refine wl_as HF rfl rfl rfl rfl rfl ?_; clear HF a; intro a HF
  refine wl_ne ?_
  refine wp_ret ?_
  refine ex_then_ret ?_
  refine bp_ret3 HF Try.results33 (HF.resBox rfl (HS.out.box 0 rfl) (by kernel_rfl)) (HF.res rfl) (HF.res rfl) ?_
  exact .inl ⟨by unfold healF; rw [q1]; simp, rfl, (((HS.out.erase 2).erase 1).erase 0)⟩
 ·clear HF; have HF := HF1; clear HF1
  have q1 : okR (dsOf ps) = true := by simpa using cc1
  refine wl_yg HF rfl rfl rfl rfl rfl (yl_loadR (cs := [.int .i64 p.fAt, .int .i64 p.fBirth, .int .i64 p.fSize, .int .i64 p.fSum, .int .i64 p.fLevel]) rfl (HF.ev rfl) ((HS.out.box 1 rfl).sub 0 5) (by kernel_rfl)) ?_; clear HF a; intro a HF
  refine wl_callBg HF rfl rfl rfl rfl (enter_of Try.func101 (by kernel_rfl) rfl) (args := #[.agg #[.int .i64 p.fAt, .int .i64 p.fBirth, .int .i64 p.fSize, .int .i64 p.fSum, .int .i64 p.fLevel]]) rfl (v := .bool p.ok) (specPtrOk_any p _) rfl rfl HS.out ?_; clear HF HS a; intro w6 a HS HF; replace HS := Bx.mk HS
  refine wl_yg HF rfl rfl rfl rfl rfl (yl_not rfl (HF.ev rfl)) ?_; clear HF a; intro a HF
  refine wl_y rfl HF rfl rfl (yl_pick_f rfl (HF.ev rfl) (HF.ev rfl)) ?_; clear HF a; intro a HF
  refine wl_mv HF rfl rfl rfl rfl rfl ?_; clear HF a; intro a HF
  refine HF.cases 15 rfl (fun cc2 HF1 => ?_) (fun cc2 HF1 => ?_)
  ·clear HF; have HF := HF1; clear HF1
   have q2 : p.ok = false := by simpa using cc2
   refine wl_skip HF rfl rfl rfl rfl rfl rfl ?_; clear HF a; intro a HF
   refine wl_skip HF rfl rfl rfl rfl rfl rfl ?_; clear HF a; intro a HF
   refine wl_y rfl HF rfl rfl (yl_pick_t rfl (HF.ev rfl) (HF.ev rfl)) ?_; clear HF a; intro a HF
   refine wl_ne ?_
   refine wc_true HF rfl ?_
   refine wp_sr ?_
   refine wl_y rfl HF rfl rfl (yl_build HF rfl (ps := []) rfl (cs := #[.slice none 0 0]) (by kernel_rfl)) ?_; clear HF a; intro a HF
   refine wl_storeBox rfl HF rfl rfl (HF.ev rfl) (HF.ev rfl) HS.out 0 rfl (cells_lit [.slice none 0 0] rfl rfl) (by kernel_rfl) ?_; clear HS; intro w7 HS; replace HS := Bx.mk HS
   have HS : Bx (St w0 ([boxA b3 1 25 (.agg #[.slice none 0 0]), boxA b2 5 33 (.agg #[.int .i64 p.fAt, .int .i64 p.fBirth, .int .i64 p.fSize, .int .i64 p.fSum, .int .i64 p.fLevel]), boxA b1 1 25 (.agg #[.slice a0 ps.length c0])]) _) := HS
   refine wl_as HF rfl rfl rfl rfl rfl ?_; clear HF a; intro a HF
   refine wl_as HF rfl rfl rfl rfl rfl ?_; clear HF a; intro a HF
   refine wl_ne ?_
   refine wp_ret ?_
   refine ex_then_ret ?_
   refine bp_ret3 HF Try.results33 (HF.resBox rfl (HS.out.box 0 rfl) (by kernel_rfl)) (HF.res rfl) (HF.res rfl) ?_
   exact .inl ⟨by unfold healF; rw [q1, q2]; simp, rfl, (((HS.out.erase 2).erase 1).erase 0)⟩
  ·clear HF; have HF := HF1; clear HF1
   have q2 : p.ok = true := by simpa using cc2
   refine wl_yg HF rfl rfl rfl rfl rfl (yl_loadR (cs := [.int .i64 p.fAt, .int .i64 p.fBirth, .int .i64 p.fSize, .int .i64 p.fSum, .int .i64 p.fLevel]) rfl (HF.ev rfl) ((HS.out.box 1 rfl).sub 0 5) (by kernel_rfl)) ?_; clear HF a; intro a HF
   refine wl_callBg HF rfl rfl rfl rfl (enter_of Try.func102 (by kernel_rfl) rfl) (args := #[.agg #[.int .i64 p.fAt, .int .i64 p.fBirth, .int .i64 p.fSize, .int .i64 p.fSum, .int .i64 p.fLevel]]) rfl (v := .bool p.hole) (specHole_any p _) rfl rfl HS.out ?_; clear HF HS a; intro w8 a HS HF; replace HS := Bx.mk HS
   refine wl_y rfl HF rfl rfl (yl_pick_f rfl (HF.ev rfl) (HF.ev rfl)) ?_; clear HF a; intro a HF
   refine wl_ne ?_
   refine HF.cases 18 rfl (fun cc3 HF1 => ?_) (fun cc3 HF1 => ?_)
   ·clear HF; have HF := HF1; clear HF1
    have q3 : p.hole = true := by simpa using cc3
    refine wc_true HF rfl ?_
    refine wp_sr ?_
    refine wl_y rfl HF rfl rfl (yl_build HF rfl (ps := []) rfl (cs := #[.slice none 0 0]) (by kernel_rfl)) ?_; clear HF a; intro a HF
    refine wl_storeBox rfl HF rfl rfl (HF.ev rfl) (HF.ev rfl) HS.out 0 rfl (cells_lit [.slice none 0 0] rfl rfl) (by kernel_rfl) ?_; clear HS; intro w9 HS; replace HS := Bx.mk HS
    have HS : Bx (St w0 ([boxA b3 1 25 (.agg #[.slice none 0 0]), boxA b2 5 33 (.agg #[.int .i64 p.fAt, .int .i64 p.fBirth, .int .i64 p.fSize, .int .i64 p.fSum, .int .i64 p.fLevel]), boxA b1 1 25 (.agg #[.slice a0 ps.length c0])]) _) := HS
    refine wl_as HF rfl rfl rfl rfl rfl ?_; clear HF a; intro a HF
    refine wl_as HF rfl rfl rfl rfl rfl ?_; clear HF a; intro a HF
    refine wl_ne ?_
    refine wp_ret ?_
    refine ex_then_ret ?_
    refine bp_ret3 HF Try.results33 (HF.resBox rfl (HS.out.box 0 rfl) (by kernel_rfl)) (HF.res rfl) (HF.res rfl) ?_
    exact .inl ⟨by unfold healF; rw [q1, q2, q3]; simp, rfl, (((HS.out.erase 2).erase 1).erase 0)⟩
   ·clear HF; have HF := HF1; clear HF1
    have q3 : p.hole = false := by simpa using cc3
    refine wc_false HF rfl ?_
    refine wp_skip ?_
    refine ex_then ?_
    refine wp_seq ?_
    have h3 := okR_three q1; have hbd := PtrD.ok_bounds q2 q3
    obtain ⟨m, hpa⟩ : ∃ m : Nat, p.fAt = (m : Int) := ⟨p.fAt.toNat, by omega⟩; obtain ⟨n, hps⟩ : ∃ n : Nat, p.fSize = (n : Int) := ⟨p.fSize.toNat, by omega⟩
    have hokd : ∀ k, k < 3 → (colS ((dsOf ps).getD k default) m).size ≤ 1048576 := fun k hk => by rw [dsOf_get]; exact Nat.le_trans (colS_le (h3.2 k (by omega)) m (by omega)) (by decide)
    have hz0 := hokd 0 (by omega); have hz1 := hokd 1 (by omega); have hz2 := hokd 2 (by omega)
    have hm1 : p.fAt.toNat = m := by omega
    have hn1 : p.fSize.toNat = n := by omega
    refine wr_heldS (s := [boxA b2 5 33 (.agg #[.int .i64 p.fAt, .int .i64 p.fBirth, .int .i64 p.fSize, .int .i64 p.fSum, .int .i64 p.fLevel]), boxA b1 1 25 (.agg #[.slice a0 ps.length c0])]) (by kernel_rfl) (St.drew ((HS.out.erase 0))) ?_
    have HS2 := Bx.mk HS.out.drew; replace HS := Bx.mk (show St w0 ([boxA b2 5 33 (.agg #[.int .i64 p.fAt, .int .i64 p.fBirth, .int .i64 p.fSize, .int .i64 p.fSum, .int .i64 p.fLevel]), boxA b1 1 25 (.agg #[.slice a0 ps.length c0])]) _ from (HS.out.drew.erase 0))
    generalize World.drew _ = w10 at HS HS2 ⊢
    refine wh_y 0 rfl (by kernel_rfl) (by kernel_rfl) (by kernel_rfl) (fun _ _ _ h => h) rfl HF rfl rfl (fun _ HS => (yl_loadR (cs := [.slice a0 ps.length c0]) rfl (HF.ev rfl) ((HS.box 1 rfl).sub 0 1) (by kernel_rfl))) HS.out ?_; clear HF a; intro a HF
    refine wh_y 2 rfl (by kernel_rfl) (by kernel_rfl) (by kernel_rfl) (fun _ _ _ h => h) rfl HF rfl rfl (fun _ HS => (yl_loadR (cs := [.int .i64 p.fAt, .int .i64 p.fBirth, .int .i64 p.fSize, .int .i64 p.fSum, .int .i64 p.fLevel]) rfl (HF.ev rfl) ((HS.box 0 rfl).sub 0 5) (by kernel_rfl))) HS.out ?_; clear HF a; intro a HF
    refine wh_one 1 (by kernel_rfl) ?_
    refine wo_call rfl rfl HF rfl (enter_of Try.func55 (by kernel_rfl) rfl) (args := #[.agg #[.slice a0 ps.length c0]]) rfl (l4Copy_any a0 c0 ps _ hl hf (HR.out.below HS2.out.bel) (fun k hk => (HP.out k hk).below HS2.out.bel)) rfl rfl ?_
    rintro _ w11 ⟨ao, cp, qs, rfl, hqs, hs⟩; refine ⟨_, rfl, ?_⟩; replace HS := Bx.mk (HS.out.later hs.bel); replace HS2 := Bx.mk (HS2.out.add hs); clear hs HF; clear a; intro a HF
    replace HS2 : Bx (St w0 ([rowA HD.cells 3 44 (.slice ao qs.length cp) qs, sepA (qs.map HD.asr), boxA b3 1 25 (.agg #[.slice none 0 0]), boxA b2 5 33 (.agg #[.int .i64 p.fAt, .int .i64 p.fBirth, .int .i64 p.fSize, .int .i64 p.fSum, .int .i64 p.fLevel]), boxA b1 1 25 (.agg #[.slice a0 ps.length c0])]) _) := ⟨HS2.out⟩
    have hql : qs.length = 3 := by rw [← dsOf_len, hqs, dsOf_len]; exact h3.1
    obtain ⟨g4, rfl, _, _, _, _⟩ := HS2.out.rowOpen 0 rfl (by omega)
    rw [hql] at HS2 HF
    replace HS2 : Bx (St w0 ([rowA HD.cells 3 44 (.slice (some ⟨g4, 0, none⟩) 3 cp) qs, sepA (qs.map HD.asr), boxA b3 1 25 (.agg #[.slice none 0 0]), boxA b2 5 33 (.agg #[.int .i64 p.fAt, .int .i64 p.fBirth, .int .i64 p.fSize, .int .i64 p.fSum, .int .i64 p.fLevel]), boxA b1 1 25 (.agg #[.slice a0 ps.length c0])]) _) := ⟨HS2.out⟩
    refine ⟨HS.out, ?_⟩
    refine wh_one 3 (by kernel_rfl) ?_
    replace HS2 : Bx (St w0 ([rowA HD.cells 3 44 (.slice (some ⟨g4, 0, none⟩) 3 cp) qs, sepA (qs.map HD.asr), boxA b3 1 25 (.agg #[.slice none 0 0]), boxA b2 5 33 (.agg #[.int .i64 p.fAt, .int .i64 p.fBirth, .int .i64 p.fSize, .int .i64 p.fSum, .int .i64 p.fLevel]), boxA b1 1 25 (.agg #[.slice a0 ps.length c0])]) _) := ⟨((HS2.out).pick 1 rfl).pick 1 rfl⟩
    refine wo_call rfl rfl HF rfl (enter_of Try.func103 (by kernel_rfl) rfl) (args := #[.agg #[.slice (some ⟨g4, 0, none⟩) 3 cp], .agg #[.int .i64 p.fAt, .int .i64 p.fBirth, .int .i64 p.fSize, .int .i64 p.fSum, .int .i64 p.fLevel]]) rfl (l4Heal_any w0 _ g4 cp qs _ hql (fun k hk => by rw [← dsOf_get, hqs, dsOf_get]; exact h3.2 k (by omega)) (default_waits qs ps hqs h3.2) p m n hpa hps (by omega) (by omega) (by omega) _ _ _ hz0 hz1 hz2 (by rw [colsS_three qs m hql, hqs]) HS2.out) rfl rfl ?_
    rintro _ w12 (⟨hbad, rfl, hs⟩ | ⟨hrd, us, hev, rfl, hs⟩)
    ·skip
     refine ⟨_, rfl, ?_⟩; replace HS2 := Bx.mk hs; clear hs HF; clear a; intro a HF
     replace HS2 : Bx (St w0 ([boxA b3 1 25 (.agg #[.slice none 0 0]), boxA b2 5 33 (.agg #[.int .i64 p.fAt, .int .i64 p.fBirth, .int .i64 p.fSize, .int .i64 p.fSum, .int .i64 p.fLevel]), boxA b1 1 25 (.agg #[.slice a0 ps.length c0])]) _) := ⟨HS2.out⟩
     clear HS; have HS : Bx (St w0 ([boxA b2 5 33 (.agg #[.int .i64 p.fAt, .int .i64 p.fBirth, .int .i64 p.fSize, .int .i64 p.fSum, .int .i64 p.fLevel]), boxA b1 1 25 (.agg #[.slice a0 ps.length c0])]) _) := ⟨(HS2.out.erase 0)⟩; refine ⟨HS.out, ?_⟩
     refine wh_y 4 rfl (by kernel_rfl) (by kernel_rfl) (by kernel_rfl) (fun _ _ _ h => h) rfl HF rfl rfl (fun _ HS => (yl_extract rfl (HF.ev rfl) rfl)) HS.out ?_; clear HF a; intro a HF
     refine wh_y 5 rfl (by kernel_rfl) (by kernel_rfl) (by kernel_rfl) (fun _ _ _ h => h) rfl HF rfl rfl (fun _ HS => (yl_extract rfl (HF.ev rfl) rfl)) HS.out ?_; clear HF a; intro a HF
     refine wh_y 6 rfl (by kernel_rfl) (by kernel_rfl) (by kernel_rfl) (fun _ _ _ h => h) rfl HF rfl rfl (fun _ HS => (yl_extract rfl (HF.ev rfl) rfl)) HS.out ?_; clear HF a; intro a HF
     refine wh_one 7 (by kernel_rfl) ?_
     refine wo_storeBox rfl rfl rfl rfl (HF.ev rfl) (HF.ev rfl) HS2.out 0 rfl (cells_lit [.slice none 0 0] rfl rfl) (by kernel_rfl) ?_
     clear HS HS2; intro w13 HS2; replace HS2 : Bx (St w0 ([boxA b3 1 25 (.agg #[.slice none 0 0]), boxA b2 5 33 (.agg #[.int .i64 p.fAt, .int .i64 p.fBirth, .int .i64 p.fSize, .int .i64 p.fSum, .int .i64 p.fLevel]), boxA b1 1 25 (.agg #[.slice a0 ps.length c0])]) _) := ⟨HS2⟩
     have HS : Bx (St w0 ([boxA b2 5 33 (.agg #[.int .i64 p.fAt, .int .i64 p.fBirth, .int .i64 p.fSize, .int .i64 p.fSum, .int .i64 p.fLevel]), boxA b1 1 25 (.agg #[.slice a0 ps.length c0])]) _) := ⟨(HS2.out.erase 0)⟩; refine ⟨HS.out, ?_⟩
     refine wh_y 8 rfl (by kernel_rfl) (by kernel_rfl) (by kernel_rfl) (fun _ _ _ h => h) rfl HF rfl rfl (fun _ HS => (yl_assign rfl (HF.ev rfl))) HS.out ?_; clear HF a; intro a HF
     refine wh_y 9 rfl (by kernel_rfl) (by kernel_rfl) (by kernel_rfl) (fun _ _ _ h => h) rfl HF rfl rfl (fun _ HS => (yl_assign rfl (HF.ev rfl))) HS.out ?_; clear HF a; intro a HF
     refine wh_done (by kernel_rfl) ?_
     replace HS := HS2; clear HS2
     refine ex_then ?_
     refine wp_ret ?_
     refine bp_ret3 HF Try.results33 (HF.resBox rfl (HS.out.box 0 rfl) (by kernel_rfl)) (HF.res rfl) (HF.res rfl) ?_
     refine .inl ⟨?_, rfl, (((HS.out.erase 2).erase 1).erase 0)⟩
     unfold healF; rw [q1, q2, q3]; unfold readD; rw [hm1, hn1]
     rcases hbad with hbad | ⟨hrd, hev⟩
     ·rw [hbad]; rfl
     ·rw [hrd]; rw [hqs] at hev; rw [hev]; rfl
    ·skip
     refine ⟨_, rfl, ?_⟩; replace HS2 := Bx.mk hs; clear hs HF; clear a; intro a HF
     replace HS2 : Bx (St w0 ([rowA HD.cells 3 44 (.slice (some ⟨g4, 0, none⟩) 3 cp) us, sepA (us.map HD.asr), boxA b3 1 25 (.agg #[.slice none 0 0]), boxA b2 5 33 (.agg #[.int .i64 p.fAt, .int .i64 p.fBirth, .int .i64 p.fSize, .int .i64 p.fSum, .int .i64 p.fLevel]), boxA b1 1 25 (.agg #[.slice a0 ps.length c0])]) _) := ⟨HS2.out⟩
     clear HS; have HS : Bx (St w0 ([boxA b2 5 33 (.agg #[.int .i64 p.fAt, .int .i64 p.fBirth, .int .i64 p.fSize, .int .i64 p.fSum, .int .i64 p.fLevel]), boxA b1 1 25 (.agg #[.slice a0 ps.length c0])]) _) := ⟨(((HS2.out.erase 2).erase 1).erase 0)⟩; refine ⟨HS.out, ?_⟩
     refine wh_y 4 rfl (by kernel_rfl) (by kernel_rfl) (by kernel_rfl) (fun _ _ _ h => h) rfl HF rfl rfl (fun _ HS => (yl_extract rfl (HF.ev rfl) rfl)) HS.out ?_; clear HF a; intro a HF
     refine wh_y 5 rfl (by kernel_rfl) (by kernel_rfl) (by kernel_rfl) (fun _ _ _ h => h) rfl HF rfl rfl (fun _ HS => (yl_extract rfl (HF.ev rfl) rfl)) HS.out ?_; clear HF a; intro a HF
     refine wh_y 6 rfl (by kernel_rfl) (by kernel_rfl) (by kernel_rfl) (fun _ _ _ h => h) rfl HF rfl rfl (fun _ HS => (yl_extract rfl (HF.ev rfl) rfl)) HS.out ?_; clear HF a; intro a HF
     refine wh_one 7 (by kernel_rfl) ?_
     refine wo_storeBox rfl rfl rfl rfl (HF.ev rfl) (HF.ev rfl) HS2.out 2 rfl (cells_lit [.slice (some ⟨g4, 0, none⟩) 3 cp] rfl rfl) (by kernel_rfl) ?_
     clear HS HS2; intro w14 HS2; replace HS2 : Bx (St w0 ([rowA HD.cells 3 44 (.slice (some ⟨g4, 0, none⟩) 3 cp) us, sepA (us.map HD.asr), boxA b3 1 25 (.agg #[.slice (some ⟨g4, 0, none⟩) 3 cp]), boxA b2 5 33 (.agg #[.int .i64 p.fAt, .int .i64 p.fBirth, .int .i64 p.fSize, .int .i64 p.fSum, .int .i64 p.fLevel]), boxA b1 1 25 (.agg #[.slice a0 ps.length c0])]) _) := ⟨HS2⟩
     have HS : Bx (St w0 ([boxA b2 5 33 (.agg #[.int .i64 p.fAt, .int .i64 p.fBirth, .int .i64 p.fSize, .int .i64 p.fSum, .int .i64 p.fLevel]), boxA b1 1 25 (.agg #[.slice a0 ps.length c0])]) _) := ⟨(((HS2.out.erase 2).erase 1).erase 0)⟩; refine ⟨HS.out, ?_⟩
     refine wh_y 8 rfl (by kernel_rfl) (by kernel_rfl) (by kernel_rfl) (fun _ _ _ h => h) rfl HF rfl rfl (fun _ HS => (yl_assign rfl (HF.ev rfl))) HS.out ?_; clear HF a; intro a HF
     refine wh_y 9 rfl (by kernel_rfl) (by kernel_rfl) (by kernel_rfl) (fun _ _ _ h => h) rfl HF rfl rfl (fun _ HS => (yl_assign rfl (HF.ev rfl))) HS.out ?_; clear HF a; intro a HF
     refine wh_done (by kernel_rfl) ?_
     replace HS := HS2; clear HS2
     refine ex_then ?_
     refine wp_ret ?_
     refine bp_ret3 HF Try.results33 (HF.resBox rfl (HS.out.box 2 rfl) (by kernel_rfl)) (HF.res rfl) (HF.res rfl) ?_
     replace HS : Bx (St w0 ([rowA HD.cells 3 44 (.slice (some ⟨g4, 0, none⟩) 3 cp) us, sepA (us.map HD.asr), boxA b3 1 25 (.agg #[.slice (some ⟨g4, 0, none⟩) 3 cp]), boxA b2 5 33 (.agg #[.int .i64 p.fAt, .int .i64 p.fBirth, .int .i64 p.fSize, .int .i64 p.fSum, .int .i64 p.fLevel]), boxA b1 1 25 (.agg #[.slice a0 ps.length c0])]) _) := ⟨((HS.out).pick 1 rfl).pick 1 rfl⟩
     have hul : us.length = 3 := by rw [← dsOf_len]; exact eachTo_len hev
     have HT := (((HS.out.erase 4).erase 3).erase 2)
     refine .inr ⟨_, _, us, cntH (dsOf ps) (readD (dsOf ps) p).1 m 3, ?_, ?_, by rw [hul]; exact HT⟩
     ·unfold healF; rw [q1, q2, q3]; unfold readD; rw [hm1, hn1, hrd]; rw [hqs] at hev; rw [hev]; rfl
     ·rw [hul]; unfold readD; rw [hm1, hn1, hqs]; rfl

end Go.Proofs.Ytfijfjjleelphaa

/- Reading a set of disks, by the program. -/
namespace Go.Proofs.Ytfijfjjleelphaa
set_option maxHeartbeats 1000000
set_option maxRecDepth 100000
open Go.RowKit

def colP (d : DiskD) (m : Nat) : ByteArray := bif d.fGone then ByteArray.empty else d.look m
def colsPTo (ps : List HD) (m k : Nat) : List ByteArray := ((ps.take k).map fun p => colP p.d m) ++ List.replicate (ps.length - k) ByteArray.empty
theorem colsPTo_len (ps : List HD) (m k : Nat) (hk : k ≤ ps.length) : (colsPTo ps m k).length = ps.length := by
  unfold colsPTo; simp; omega
theorem colsPTo_succ (ps : List HD) (m k : Nat) (hk : k < ps.length) (t : ByteArray) (ht : colP (ps.getD k default).d m = t) : (colsPTo ps m k).set k t = colsPTo ps m (k + 1) := by
  unfold colsPTo
  rw [List.take_succ_eq_append_getElem hk, List.map_append, List.map_cons, List.map_nil, ← getD_get hk, ht]
  rw [show ps.length - k = (ps.length - (k + 1)) + 1 by omega, List.replicate_succ]
  rw [List.set_append_right _ _ (by simp; omega)]
  have : k - ((ps.take k).map fun p => colP p.d m).length = 0 := by simp; omega
  rw [this]
  simp
theorem colsPTo_gone (ps : List HD) (m k : Nat) (hk : k < ps.length) (ht : colP (ps.getD k default).d m = ByteArray.empty) : colsPTo ps m k = colsPTo ps m (k + 1) := by
  unfold colsPTo
  rw [List.take_succ_eq_append_getElem hk, List.map_append, List.map_cons, List.map_nil, ← getD_get hk, ht]
  rw [show ps.length - k = (ps.length - (k + 1)) + 1 by omega, List.replicate_succ]
  simp
/-- Some disk that this way uses is gone. -/
def goneT (ps : List HD) (lost : Int) : Nat → Bool
  | 0 => false
  | k + 1 => goneT ps lost k || ((ps.getD k default).d.fGone && (((k : Int) != lost) && (decide ((k : Int) < 2) || decide (0 ≤ lost))))

theorem colsPTo_three (ps : List HD) (m : Nat) (hl : ps.length = 3) : colsPTo ps m ps.length = [colP (ps.getD 0 default).d m, colP (ps.getD 1 default).d m, colP (ps.getD 2 default).d m] := by
  match ps, hl with
  | [p0, p1, p2], _ => rfl
theorem joinJ_any (ao : Option Addr) (cap : Nat) (c0 c1 c2 : ByteArray) (n j : Nat) (hj : j < 3) (w0 : World) (hn : 1 ≤ n) (hl : n ≤ 128) (h0 : c0.size ≤ 1048576) (h1 : c1.size ≤ 1048576) (h2 : c2.size ≤ 1048576) (hr : Rd encS 1 w0 ao 3 [c0, c1, c2]) : Calls Try.prog 19 #[.slice ao 3 cap, .int .i64 (n : Int), .int .i64 ((j : Int) - 1)] w0 fun e w' => e = .returned (.tuple #[.string ((joinB c0 c1 c2 n ((j : Int) - 1)).getD ByteArray.empty), .bool (joinB c0 c1 c2 n ((j : Int) - 1)).isSome]) ∧ Below w0.heap.size w0 w' := by
  match j, hj with
  | 0, _ => exact joinN_any ao cap c0 c1 c2 n w0 hn hl h0 h1 h2 hr
  | 1, _ => exact joinZ_any ao cap c0 c1 c2 n w0 hn hl h0 h1 h2 hr
  | 2, _ => exact joinO_any ao cap c0 c1 c2 n w0 hn hl h0 h1 h2 hr
/-- Does this way tell a text? -/
def tryP (ps : List HD) (y0 y1 y2 : ByteArray) (p : PtrD) (n j : Nat) : Bool := !goneT ps ((j : Int) - 1) ps.length && ((joinB y0 y1 y2 n ((j : Int) - 1)).isSome && p.fits ((joinB y0 y1 y2 n ((j : Int) - 1)).getD ByteArray.empty))
def readPF (ps : List HD) (y0 y1 y2 : ByteArray) (p : PtrD) (n : Nat) : ByteArray × Bool :=
  bif tryP ps y0 y1 y2 p n 0 then ((joinB y0 y1 y2 n (-1)).getD ByteArray.empty, true)
  else bif tryP ps y0 y1 y2 p n 1 then ((joinB y0 y1 y2 n 0).getD ByteArray.empty, true)
  else bif tryP ps y0 y1 y2 p n 2 then ((joinB y0 y1 y2 n 1).getD ByteArray.empty, true) else (ByteArray.empty, false)
theorem readPF_at {ps : List HD} {y0 y1 y2 : ByteArray} {p : PtrD} {n j : Nat} (hj : j < 3) (hb : ∀ i, i < j → tryP ps y0 y1 y2 p n i = false) (h : tryP ps y0 y1 y2 p n j = true) : readPF ps y0 y1 y2 p n = ((joinB y0 y1 y2 n ((j : Int) - 1)).getD ByteArray.empty, true) := by
  match j, hj with
  | 0, _ => unfold readPF; rw [h]; rfl
  | 1, _ => unfold readPF; rw [hb 0 (by omega), h]; rfl
  | 2, _ => unfold readPF; rw [hb 0 (by omega), hb 1 (by omega), h]; rfl
theorem readPF_none {ps : List HD} {y0 y1 y2 : ByteArray} {p : PtrD} {n : Nat} (hb : ∀ i, i < 3 → tryP ps y0 y1 y2 p n i = false) : readPF ps y0 y1 y2 p n = (ByteArray.empty, false) := by
  unfold readPF; rw [hb 0 (by omega), hb 1 (by omega), hb 2 (by omega)]; rfl

theorem read_any (a0 : Option Addr) (c0 : Nat) (ps : List HD) (w0 : World) (hl : ps.length = 3) (hok : ∀ k, k < ps.length → (ps.getD k default).d.ok = true) (hR : Rd HD.cells 3 w0 a0 ps.length ps) (hP : ∀ k, k < ps.length → (ps.getD k default).reads w0) (p : PtrD) (m n : Nat) (hpa : p.fAt = (m : Int)) (hps : p.fSize = (n : Int)) (hm : m < 64) (hn1 : 1 ≤ n) (hn2 : n ≤ 128) (hcz : ∀ k, k < 3 → (colP (ps.getD k default).d m).size ≤ 1048576) : Calls Try.prog 64 #[.agg #[.slice a0 ps.length c0], .agg #[.int .i64 p.fAt, .int .i64 p.fBirth, .int .i64 p.fSize, .int .i64 p.fSum, .int .i64 p.fLevel]] w0 fun e w' => e = .returned (.tuple #[.string (readPF ps (colP (ps.getD 0 default).d m) (colP (ps.getD 1 default).d m) (colP (ps.getD 2 default).d m) p n).1, .bool (readPF ps (colP (ps.getD 0 default).d m) (colP (ps.getD 1 default).d m) (colP (ps.getD 2 default).d m) p n).2]) ∧ Below w0.heap.size w0 w' := by
 have HR := Bx.mk hR; have HP := Bx.mk hP; clear hR hP
 have HS := Bx.mk (St.start w0)
 refine wc_enter Try.func64 rfl Try.ntmps64 [(0, .agg #[.slice a0 ps.length c0]), (1, .agg #[.int .i64 p.fAt, .int .i64 p.fBirth, .int .i64 p.fSize, .int .i64 p.fSum, .int .i64 p.fLevel])] ⟨rfl, rfl, trivial⟩ rfl ?_; intro a HF
 refine wp_sr ?_
 refine wl_box rfl HF rfl (HF.ev rfl) (Z := [.slice a0 ps.length c0]) rfl rfl rfl rfl HS.out ?_; clear HF HS a; intro a w1 b1 HF HS; replace HS := Bx.mk HS
 refine wl_box rfl HF rfl (HF.ev rfl) (Z := [.int .i64 p.fAt, .int .i64 p.fBirth, .int .i64 p.fSize, .int .i64 p.fSum, .int .i64 p.fLevel]) rfl rfl rfl rfl HS.out ?_; clear HF HS a; intro a w2 b2 HF HS; replace HS := Bx.mk HS
 refine wl_as HF rfl rfl rfl rfl rfl ?_; clear HF a; intro a HF
 refine wl_as HF rfl rfl rfl rfl rfl ?_; clear HF a; intro a HF
 refine wl_ne ?_
 refine wp_sr ?_
 refine wl_makeS (enc := encS) (n := 3) rfl HF rfl rfl rfl elemS (HF.ev rfl) (HF.ev rfl) (by omega) (by omega) (by omega) (by unfold maxLen; omega) ByteArray.empty (by kernel_rfl) rfl rfl HS.out ?_; clear HF HS a; intro b3 a w3 HF HS; replace HS := Bx.mk HS
 refine wl_as HF rfl rfl rfl rfl rfl ?_; clear HF a; intro a HF
 refine wl_ne ?_
 refine wp_seq ?_
 refine wp_sr ?_
 refine wl_y rfl HF rfl rfl (yl_fieldAddr (j := 0) rfl (HF.ev rfl) (by kernel_rfl)) ?_; clear HF a; intro a HF
 refine wl_y rfl HF rfl rfl (yl_load (v := .slice a0 ps.length c0) rfl (HF.ev rfl) (((HS.out.box 2 rfl).cell 0).trans rfl) (by kernel_rfl)) ?_; clear HF a; intro a HF
 refine wl_y rfl HF rfl rfl (yl_lenL (e := 44) (size := 3) rfl (HF.ev rfl) (by kernel_rfl)) ?_; clear HF a; intro a HF
 refine wl_mv HF rfl rfl rfl rfl rfl ?_; clear HF a; intro a HF
 refine wl_ne ?_
 refine wp_block ?_
 rw [show List.replicate 3 ByteArray.empty = colsPTo ps m 0 by unfold colsPTo; rw [hl]; rfl] at HS
 refine wc_loop (ι := Nat) (fun k a w => (k ≤ ps.length) ∧ Fr 82 a [(2, .pointer (some ⟨b1, 0, none⟩)), (3, .pointer (some ⟨b2, 0, none⟩)), (4, .string (⟨#[]⟩ : ByteArray)), (5, .bool false), (6, .slice (some ⟨b3, 0, none⟩) 3 3), (17, .slice a0 ps.length c0), (18, .int .i64 (ps.length : Int)), (19, .int .i64 (k : Int))] ∧ St w0 ([rowA encS 1 9 (.slice (some ⟨b3, 0, none⟩) 3 3) (colsPTo ps m k), boxA b2 5 33 (.agg #[.int .i64 p.fAt, .int .i64 p.fBirth, .int .i64 p.fSize, .int .i64 p.fSum, .int .i64 p.fLevel]), boxA b1 1 25 (.agg #[.slice a0 ps.length c0])]) w) (fun k => ps.length - k) 0 ⟨Nat.zero_le _, HF.less _ ⟨rfl, rfl, rfl, rfl, rfl, rfl, rfl, rfl, trivial⟩, HS.out⟩ ?_
 clear HF HS; clear a
 rintro k a w4 ⟨hk, HF, HS⟩
 replace HS := Bx.mk HS
 refine wp_sr ?_
 refine wl_y rfl HF rfl rfl (yl_lssI rfl (HF.ev rfl) (HF.ev rfl)) ?_; clear HF a; intro a HF
 refine wl_ne ?_
 refine wp_seq ?_
 refine HF.cases 20 rfl (fun cc1 HF1 => ?_) (fun cc1 HF1 => ?_)
 ·clear HF; have HF := HF1; clear HF1
  have dcc1 := of_decide_eq_true cc1
  refine wc_true HF rfl ?_
  refine wp_skip ?_
  refine ex_then ?_
  refine wp_seq ?_
  refine wp_block ?_
  refine wp_seq ?_
  obtain ⟨g0, o0, r0⟩ := HR.out.opn; have R0 := Bx.mk r0; clear r0
  have hok2 := ok_waits (hok k (by omega)); have hcl := colsPTo_len ps m k (by omega)
  refine wp_region_lit ?_
  refine wl_mv HF rfl rfl rfl rfl rfl ?_; clear HF a; intro a HF
  refine wl_y rfl HF rfl rfl (yl_indexAddrR (e := 44) (i := k) (size := 3) rfl (HF.ev rfl) (HF.ev rfl) (by kernel_rfl) rfl (by omega) (R0.out.ao k (by omega))) ?_; clear HF a; intro a HF
  refine wl_y rfl HF rfl rfl (yl_loadR (cs := [.slice ((ps.getD k default).a0) ((ps.getD k default).d.fCells.length) ((ps.getD k default).c0), .slice ((ps.getD k default).a1) ((ps.getD k default).d.fWaits.length) ((ps.getD k default).c1), .bool ((ps.getD k default).d.fGone)]) rfl (HF.ev rfl) (R0.out.elem HS.out (get_getD (xs := ps) (j := k) (d := default) (by omega))) (by kernel_rfl)) ?_; clear HF a; intro a HF
  refine wl_alloc rfl HF rfl rfl rfl (Z := [.slice none 0 0, .slice none 0 0, .bool false]) (by kernel_rfl) rfl HS.out ?_; clear HF HS a; intro a w5 b4 HF HS; replace HS := Bx.mk HS
  refine wl_as HF rfl rfl rfl rfl rfl ?_; clear HF a; intro a HF
  refine wl_storeBox rfl HF rfl rfl (HF.ev rfl) (HF.ev rfl) HS.out 0 rfl (cells_lit [.slice ((ps.getD k default).a0) ((ps.getD k default).d.fCells.length) ((ps.getD k default).c0), .slice ((ps.getD k default).a1) ((ps.getD k default).d.fWaits.length) ((ps.getD k default).c1), .bool ((ps.getD k default).d.fGone)] rfl rfl) (by kernel_rfl) ?_; clear HS; intro w6 HS; replace HS := Bx.mk HS
  have HS : Bx (St w0 ([boxA b4 3 44 (.agg #[.slice ((ps.getD k default).a0) ((ps.getD k default).d.fCells.length) ((ps.getD k default).c0), .slice ((ps.getD k default).a1) ((ps.getD k default).d.fWaits.length) ((ps.getD k default).c1), .bool ((ps.getD k default).d.fGone)]), rowA encS 1 9 (.slice (some ⟨b3, 0, none⟩) 3 3) (colsPTo ps m k), boxA b2 5 33 (.agg #[.int .i64 p.fAt, .int .i64 p.fBirth, .int .i64 p.fSize, .int .i64 p.fSum, .int .i64 p.fLevel]), boxA b1 1 25 (.agg #[.slice a0 ps.length c0])]) _) := HS
  refine wl_ne ?_
  refine wp_sr ?_
  refine wl_y rfl HF rfl rfl (yl_fieldAddr (j := 2) rfl (HF.ev rfl) (by kernel_rfl)) ?_; clear HF a; intro a HF
  refine wl_y rfl HF rfl rfl (yl_load (v := .bool ((ps.getD k default).d.fGone)) rfl (HF.ev rfl) (((HS.out.box 0 rfl).cell 2).trans rfl) (by kernel_rfl)) ?_; clear HF a; intro a HF
  refine wl_y rfl HF rfl rfl (yl_not rfl (HF.ev rfl)) ?_; clear HF a; intro a HF
  refine wl_ne ?_
  refine HF.cases 26 rfl (fun cc2 HF1 => ?_) (fun cc2 HF1 => ?_)
  ·clear HF; have HF := HF1; clear HF1
   refine wc_true HF rfl ?_
   refine wp_region_lit ?_
   refine wl_mv HF rfl rfl rfl rfl rfl ?_; clear HF a; intro a HF
   refine wl_mv HF rfl rfl rfl rfl rfl ?_; clear HF a; intro a HF
   refine wl_y rfl HF rfl rfl (yl_loadR (cs := [.slice ((ps.getD k default).a0) ((ps.getD k default).d.fCells.length) ((ps.getD k default).c0), .slice ((ps.getD k default).a1) ((ps.getD k default).d.fWaits.length) ((ps.getD k default).c1), .bool ((ps.getD k default).d.fGone)]) rfl (HF.ev rfl) ((HS.out.box 0 rfl).sub 0 3) (by kernel_rfl)) ?_; clear HF a; intro a HF
   refine wl_y rfl HF rfl rfl (yl_fieldAddr (j := 0) rfl (HF.ev rfl) (by kernel_rfl)) ?_; clear HF a; intro a HF
   refine wl_y rfl HF rfl rfl (yl_load (v := .int .i64 p.fAt) rfl (HF.ev rfl) (((HS.out.box 2 rfl).cell 0).trans rfl) (by kernel_rfl)) ?_; clear HF a; intro a HF
   refine wl_callB rfl HF rfl (enter_of Try.func73 (by kernel_rfl) rfl) (args := #[.agg #[.slice ((ps.getD k default).a0) ((ps.getD k default).d.fCells.length) ((ps.getD k default).c0), .slice ((ps.getD k default).a1) ((ps.getD k default).d.fWaits.length) ((ps.getD k default).c1), .bool ((ps.getD k default).d.fGone)], .int .i64 p.fAt]) rfl (v := .string ((ps.getD k default).d.look m)) ((by have := look_any (ps.getD k default).a0 (ps.getD k default).c0 (ps.getD k default).a1 (ps.getD k default).c1 (ps.getD k default).d m _ (by rw [hok2.1]; exact hm) (by omega) ((HP.out k (by omega)).below HS.out.bel).rc ((HP.out k (by omega)).below HS.out.bel).rw; rw [← hpa] at this; exact this)) rfl rfl HS.out ?_; clear HF HS a; intro w7 a HS HF; replace HS := Bx.mk HS
   refine wl_y rfl HF rfl rfl (yl_indexAddr (e := 9) (i := k) (size := 1) rfl (HF.ev rfl) (HF.ev rfl) (by kernel_rfl) rfl (by omega)) ?_; clear HF a; intro a HF
   refine wl_storeE encS_len rfl rfl rfl (HF.ev rfl) (HF.ev rfl) (by kernel_rfl) HS.out 1 rfl (by omega) (z := ((ps.getD k default).d.look m)) rfl rfl ?_; clear HS; intro w8 HS; replace HS := Bx.mk HS
   refine wpList_nil ?_
   refine ex_block ?_
   refine ex_then ?_
   refine wp_region_lit ?_
   refine wl_y rfl HF rfl rfl (yl_addI rfl (HF.ev rfl) (HF.ev rfl) (i64w (by omega))) ?_; clear HF a; intro a HF
   refine wl_mv HF rfl rfl rfl rfl rfl ?_; clear HF a; intro a HF
   refine wl_ne ?_
   have hgn : (ps.getD k default).d.fGone = false := by simpa using cc2
   have hcp : colP (ps.getD k default).d m = (ps.getD k default).d.look m := by unfold colP; rw [hgn]; rfl
   rw [colsPTo_succ ps m k (by omega) _ hcp] at HS
   replace HS : Bx (St w0 ([rowA encS 1 9 (.slice (some ⟨b3, 0, none⟩) 3 3) (colsPTo ps m (k + 1)), boxA b2 5 33 (.agg #[.int .i64 p.fAt, .int .i64 p.fBirth, .int .i64 p.fSize, .int .i64 p.fSum, .int .i64 p.fLevel]), boxA b1 1 25 (.agg #[.slice a0 ps.length c0]), boxA b4 3 44 (.agg #[.slice ((ps.getD k default).a0) ((ps.getD k default).d.fCells.length) ((ps.getD k default).c0), .slice ((ps.getD k default).a1) ((ps.getD k default).d.fWaits.length) ((ps.getD k default).c1), .bool ((ps.getD k default).d.fGone)])]) _) := ⟨(((HS.out).pick 3 rfl).pick 3 rfl).pick 3 rfl⟩
   exact ⟨k + 1, ⟨(by omega), HF.less _ ⟨rfl, rfl, rfl, rfl, rfl, rfl, rfl, rfl, trivial⟩, (HS.out.erase 3)⟩, (by omega)⟩
  ·clear HF; have HF := HF1; clear HF1
   refine wc_false HF rfl ?_
   refine wp_skip ?_
   refine ex_block ?_
   refine ex_then ?_
   refine wp_region_lit ?_
   refine wl_y rfl HF rfl rfl (yl_addI rfl (HF.ev rfl) (HF.ev rfl) (i64w (by omega))) ?_; clear HF a; intro a HF
   refine wl_mv HF rfl rfl rfl rfl rfl ?_; clear HF a; intro a HF
   refine wl_ne ?_
   have hgn : (ps.getD k default).d.fGone = true := by simpa using cc2
   have hcp : colP (ps.getD k default).d m = ByteArray.empty := by unfold colP; rw [hgn]; rfl
   rw [colsPTo_gone ps m k (by omega) hcp] at HS
   replace HS : Bx (St w0 ([rowA encS 1 9 (.slice (some ⟨b3, 0, none⟩) 3 3) (colsPTo ps m (k + 1)), boxA b2 5 33 (.agg #[.int .i64 p.fAt, .int .i64 p.fBirth, .int .i64 p.fSize, .int .i64 p.fSum, .int .i64 p.fLevel]), boxA b1 1 25 (.agg #[.slice a0 ps.length c0]), boxA b4 3 44 (.agg #[.slice ((ps.getD k default).a0) ((ps.getD k default).d.fCells.length) ((ps.getD k default).c0), .slice ((ps.getD k default).a1) ((ps.getD k default).d.fWaits.length) ((ps.getD k default).c1), .bool ((ps.getD k default).d.fGone)])]) _) := ⟨(((HS.out).pick 3 rfl).pick 3 rfl).pick 3 rfl⟩
   exact ⟨k + 1, ⟨(by omega), HF.less _ ⟨rfl, rfl, rfl, rfl, rfl, rfl, rfl, rfl, trivial⟩, (HS.out.erase 3)⟩, (by omega)⟩
 ·clear HF; have HF := HF1; clear HF1
  have dcc1 := of_decide_eq_false cc1
  refine wc_false HF rfl ?_
  refine wp_exit ?_
  refine ex_then_exit ?_
  refine ex_then_exit ?_
  refine ex_block_hit ?_
  refine ex_then ?_
  refine wp_seq ?_
  refine wp_sr ?_
  refine wl_as HF rfl rfl rfl rfl rfl ?_; clear HF a; intro a HF
  refine wl_ne ?_
  refine wp_block ?_
  obtain rfl : k = ps.length := by omega
  obtain ⟨y0, hy0⟩ : ∃ y, y = colP (ps.getD 0 default).d m := ⟨_, rfl⟩; obtain ⟨y1, hy1⟩ : ∃ y, y = colP (ps.getD 1 default).d m := ⟨_, rfl⟩; obtain ⟨y2, hy2⟩ : ∃ y, y = colP (ps.getD 2 default).d m := ⟨_, rfl⟩
  rw [colsPTo_three ps m hl, ← hy0, ← hy1, ← hy2] at HS; have hz0 : y0.size ≤ 1048576 := by rw [hy0]; exact hcz 0 (by omega)
  have hz1 : y1.size ≤ 1048576 := by rw [hy1]; exact hcz 1 (by omega)
  have hz2 : y2.size ≤ 1048576 := by rw [hy2]; exact hcz 2 (by omega)
  replace HS : Bx (St w0 ([rowA encS 1 9 (.slice (some ⟨b3, 0, none⟩) 3 3) ([y0, y1, y2]), boxA b2 5 33 (.agg #[.int .i64 p.fAt, .int .i64 p.fBirth, .int .i64 p.fSize, .int .i64 p.fSum, .int .i64 p.fLevel]), boxA b1 1 25 (.agg #[.slice a0 ps.length c0])]) _) := ⟨HS.out⟩
  refine wc_loop (ι := Nat) (fun j a w => (j ≤ 3 ∧ ∀ i, i < j → tryP ps y0 y1 y2 p n i = false) ∧ Fr 82 a [(2, .pointer (some ⟨b1, 0, none⟩)), (3, .pointer (some ⟨b2, 0, none⟩)), (6, .slice (some ⟨b3, 0, none⟩) 3 3), (9, .int .i64 ((j : Int) - 1))] ∧ St w0 ([rowA encS 1 9 (.slice (some ⟨b3, 0, none⟩) 3 3) ([y0, y1, y2]), boxA b2 5 33 (.agg #[.int .i64 p.fAt, .int .i64 p.fBirth, .int .i64 p.fSize, .int .i64 p.fSum, .int .i64 p.fLevel]), boxA b1 1 25 (.agg #[.slice a0 ps.length c0])]) w) (fun j => 3 - j) 0 ⟨⟨by omega, fun i hi => absurd hi (by omega)⟩, HF.less _ ⟨rfl, rfl, rfl, rfl, trivial⟩, HS.out⟩ ?_
  clear HF HS; clear a
  rintro j a w9 ⟨⟨hj, hb⟩, HF, HS⟩
  replace HS := Bx.mk HS
  refine wp_seq ?_
  refine wp_sr ?_
  refine wl_mv HF rfl rfl rfl rfl rfl ?_; clear HF a; intro a HF
  refine wl_y rfl HF rfl rfl (yl_lssI rfl (HF.ev rfl) (HF.ev rfl)) ?_; clear HF a; intro a HF
  refine wl_ne ?_
  refine HF.cases 36 rfl (fun cc3 HF1 => ?_) (fun cc3 HF1 => ?_)
  ·clear HF; have HF := HF1; clear HF1
   have dcc3 := of_decide_eq_true cc3
   refine wc_true HF rfl ?_
   refine wp_skip ?_
   refine ex_then ?_
   refine wp_seq ?_
   refine wp_block ?_
   refine wp_sr ?_
   refine wl_as HF rfl rfl rfl rfl rfl ?_; clear HF a; intro a HF
   refine wl_ne ?_
   refine wp_seq ?_
   refine wp_sr ?_
   refine wl_y rfl HF rfl rfl (yl_fieldAddr (j := 0) rfl (HF.ev rfl) (by kernel_rfl)) ?_; clear HF a; intro a HF
   refine wl_y rfl HF rfl rfl (yl_load (v := .slice a0 ps.length c0) rfl (HF.ev rfl) (((HS.out.box 2 rfl).cell 0).trans rfl) (by kernel_rfl)) ?_; clear HF a; intro a HF
   refine wl_y rfl HF rfl rfl (yl_lenL (e := 44) (size := 3) rfl (HF.ev rfl) (by kernel_rfl)) ?_; clear HF a; intro a HF
   refine wl_mv HF rfl rfl rfl rfl rfl ?_; clear HF a; intro a HF
   refine wl_ne ?_
   refine wp_block ?_
   refine wc_loop (ι := Nat) (fun k a w => (k ≤ ps.length) ∧ Fr 82 a [(2, .pointer (some ⟨b1, 0, none⟩)), (3, .pointer (some ⟨b2, 0, none⟩)), (6, .slice (some ⟨b3, 0, none⟩) 3 3), (9, .int .i64 ((j : Int) - 1)), (40, .slice a0 ps.length c0), (41, .int .i64 (ps.length : Int)), (10, .bool (goneT ps ((j : Int) - 1) k)), (42, .int .i64 (k : Int))] ∧ St w0 ([rowA encS 1 9 (.slice (some ⟨b3, 0, none⟩) 3 3) ([y0, y1, y2]), boxA b2 5 33 (.agg #[.int .i64 p.fAt, .int .i64 p.fBirth, .int .i64 p.fSize, .int .i64 p.fSum, .int .i64 p.fLevel]), boxA b1 1 25 (.agg #[.slice a0 ps.length c0])]) w) (fun k => ps.length - k) 0 ⟨Nat.zero_le _, HF.less _ ⟨rfl, rfl, rfl, rfl, rfl, rfl, rfl, rfl, trivial⟩, HS.out⟩ ?_
   clear HF HS; clear a
   rintro k a w10 ⟨hk, HF, HS⟩
   replace HS := Bx.mk HS
   refine wp_sr ?_
   refine wl_y rfl HF rfl rfl (yl_lssI rfl (HF.ev rfl) (HF.ev rfl)) ?_; clear HF a; intro a HF
   refine wl_ne ?_
   refine wp_seq ?_
   refine HF.cases 43 rfl (fun cc4 HF1 => ?_) (fun cc4 HF1 => ?_)
   ·clear HF; have HF := HF1; clear HF1
    have dcc4 := of_decide_eq_true cc4
    refine wc_true HF rfl ?_
    refine wp_skip ?_
    refine ex_then ?_
    refine wp_seq ?_
    refine wp_block ?_
    refine wp_seq ?_
    obtain ⟨g0, o0, r0⟩ := HR.out.opn; have R0 := Bx.mk r0; clear r0
    refine wp_region_lit ?_
    refine wl_mv HF rfl rfl rfl rfl rfl ?_; clear HF a; intro a HF
    refine wl_y rfl HF rfl rfl (yl_indexAddrR (e := 44) (i := k) (size := 3) rfl (HF.ev rfl) (HF.ev rfl) (by kernel_rfl) rfl (by omega) (R0.out.ao k (by omega))) ?_; clear HF a; intro a HF
    refine wl_y rfl HF rfl rfl (yl_loadR (cs := [.slice ((ps.getD k default).a0) ((ps.getD k default).d.fCells.length) ((ps.getD k default).c0), .slice ((ps.getD k default).a1) ((ps.getD k default).d.fWaits.length) ((ps.getD k default).c1), .bool ((ps.getD k default).d.fGone)]) rfl (HF.ev rfl) (R0.out.elem HS.out (get_getD (xs := ps) (j := k) (d := default) (by omega))) (by kernel_rfl)) ?_; clear HF a; intro a HF
    refine wl_alloc rfl HF rfl rfl rfl (Z := [.slice none 0 0, .slice none 0 0, .bool false]) (by kernel_rfl) rfl HS.out ?_; clear HF HS a; intro a w11 b5 HF HS; replace HS := Bx.mk HS
    refine wl_as HF rfl rfl rfl rfl rfl ?_; clear HF a; intro a HF
    refine wl_storeBox rfl HF rfl rfl (HF.ev rfl) (HF.ev rfl) HS.out 0 rfl (cells_lit [.slice ((ps.getD k default).a0) ((ps.getD k default).d.fCells.length) ((ps.getD k default).c0), .slice ((ps.getD k default).a1) ((ps.getD k default).d.fWaits.length) ((ps.getD k default).c1), .bool ((ps.getD k default).d.fGone)] rfl rfl) (by kernel_rfl) ?_; clear HS; intro w12 HS; replace HS := Bx.mk HS
    have HS : Bx (St w0 ([boxA b5 3 44 (.agg #[.slice ((ps.getD k default).a0) ((ps.getD k default).d.fCells.length) ((ps.getD k default).c0), .slice ((ps.getD k default).a1) ((ps.getD k default).d.fWaits.length) ((ps.getD k default).c1), .bool ((ps.getD k default).d.fGone)]), rowA encS 1 9 (.slice (some ⟨b3, 0, none⟩) 3 3) ([y0, y1, y2]), boxA b2 5 33 (.agg #[.int .i64 p.fAt, .int .i64 p.fBirth, .int .i64 p.fSize, .int .i64 p.fSum, .int .i64 p.fLevel]), boxA b1 1 25 (.agg #[.slice a0 ps.length c0])]) _) := HS
    refine wl_ne ?_
    refine wp_region_lit ?_
    refine wl_mv HF rfl rfl rfl rfl rfl ?_; clear HF a; intro a HF
    refine wl_mv HF rfl rfl rfl rfl rfl ?_; clear HF a; intro a HF
    refine HF.cases 48 rfl (fun cc5 HF1 => ?_) (fun cc5 HF1 => ?_)
    ·clear HF; have HF := HF1; clear HF1
     refine wl_skip HF rfl rfl rfl rfl rfl rfl ?_; clear HF a; intro a HF
     refine wl_skip HF rfl rfl rfl rfl rfl rfl ?_; clear HF a; intro a HF
     refine wl_skip HF rfl rfl rfl rfl rfl rfl ?_; clear HF a; intro a HF
     refine wl_skipU HF rfl rfl rfl rfl rfl ?_; clear HF a; intro a HF
     refine wl_skipU HF rfl rfl rfl rfl rfl ?_; clear HF a; intro a HF
     refine wl_skipU HF rfl rfl rfl rfl rfl ?_; clear HF a; intro a HF
     refine wl_skip HF rfl rfl rfl rfl rfl rfl ?_; clear HF a; intro a HF
     refine wl_skip HF rfl rfl rfl rfl rfl rfl ?_; clear HF a; intro a HF
     refine wl_skipU HF rfl rfl rfl rfl rfl ?_; clear HF a; intro a HF
     refine wl_skipU HF rfl rfl rfl rfl rfl ?_; clear HF a; intro a HF
     refine wl_skipU HF rfl rfl rfl rfl rfl ?_; clear HF a; intro a HF
     refine wl_skipU HF rfl rfl rfl rfl rfl ?_; clear HF a; intro a HF
     refine wl_skipU HF rfl rfl rfl rfl rfl ?_; clear HF a; intro a HF
     refine wl_skipU HF rfl rfl rfl rfl rfl ?_; clear HF a; intro a HF
     refine wl_skip HF rfl rfl rfl rfl rfl rfl ?_; clear HF a; intro a HF
     refine wl_y rfl HF rfl rfl (yl_pick_t rfl (HF.ev rfl) (HF.ev rfl)) ?_; clear HF a; intro a HF
     refine wl_as HF rfl rfl rfl rfl rfl ?_; clear HF a; intro a HF
     refine wpList_nil ?_
     refine ex_block ?_
     refine ex_then ?_
     refine wp_region_lit ?_
     refine wl_y rfl HF rfl rfl (yl_addI rfl (HF.ev rfl) (HF.ev rfl) (i64w (by omega))) ?_; clear HF a; intro a HF
     refine wl_mv HF rfl rfl rfl rfl rfl ?_; clear HF a; intro a HF
     refine wl_ne ?_
     have hnext : goneT ps ((j : Int) - 1) (k + 1) = true := by unfold goneT; simp only [cc5] <;> rfl
     replace HS : Bx (St w0 ([rowA encS 1 9 (.slice (some ⟨b3, 0, none⟩) 3 3) ([y0, y1, y2]), boxA b2 5 33 (.agg #[.int .i64 p.fAt, .int .i64 p.fBirth, .int .i64 p.fSize, .int .i64 p.fSum, .int .i64 p.fLevel]), boxA b1 1 25 (.agg #[.slice a0 ps.length c0]), boxA b5 3 44 (.agg #[.slice ((ps.getD k default).a0) ((ps.getD k default).d.fCells.length) ((ps.getD k default).c0), .slice ((ps.getD k default).a1) ((ps.getD k default).d.fWaits.length) ((ps.getD k default).c1), .bool ((ps.getD k default).d.fGone)])]) _) := ⟨(((HS.out).pick 3 rfl).pick 3 rfl).pick 3 rfl⟩
     exact ⟨k + 1, ⟨(by omega), HF.less _ ⟨rfl, rfl, rfl, rfl, rfl, rfl, (by show _ = some (Value.bool (goneT ps ((j : Int) - 1) (k + 1))); rw [hnext]; rfl), rfl, trivial⟩, (HS.out.erase 3)⟩, (by omega)⟩
    ·clear HF; have HF := HF1; clear HF1
     refine wl_yg HF rfl rfl rfl rfl rfl (yl_fieldAddr (j := 2) rfl (HF.ev rfl) (by kernel_rfl)) ?_; clear HF a; intro a HF
     refine wl_yg HF rfl rfl rfl rfl rfl (yl_load (v := .bool ((ps.getD k default).d.fGone)) rfl (HF.ev rfl) (((HS.out.box 0 rfl).cell 2).trans rfl) (by kernel_rfl)) ?_; clear HF a; intro a HF
     refine wl_yg HF rfl rfl rfl rfl rfl (yl_move rfl (HF.ev rfl)) ?_; clear HF a; intro a HF
     refine HF.cases 51 rfl (fun cc6 HF1 => ?_) (fun cc6 HF1 => ?_)
     ·clear HF; have HF := HF1; clear HF1
      refine wl_yg HF rfl rfl rfl rfl rfl (yl_move rfl (HF.ev rfl)) ?_; clear HF a; intro a HF
      refine wl_yg HF rfl rfl rfl rfl rfl (yl_move rfl (HF.ev rfl)) ?_; clear HF a; intro a HF
      refine wl_yg HF rfl rfl rfl rfl rfl (yl_neqI rfl (HF.ev rfl) (HF.ev rfl)) ?_; clear HF a; intro a HF
      refine wl_yg HF rfl rfl rfl rfl rfl (yl_pick_t rfl (HF.ev rfl) (HF.ev rfl)) ?_; clear HF a; intro a HF
      refine wl_yg HF rfl rfl rfl rfl rfl (yl_move rfl (HF.ev rfl)) ?_; clear HF a; intro a HF
      refine HF.cases 56 rfl (fun cc7 HF1 => ?_) (fun cc7 HF1 => ?_)
      ·clear HF; have HF := HF1; clear HF1
       have dcc7 := bne_iff_ne.1 cc7
       refine wl_yg HF rfl rfl rfl rfl rfl (yl_move rfl (HF.ev rfl)) ?_; clear HF a; intro a HF
       refine wl_yg HF rfl rfl rfl rfl rfl (yl_lssI rfl (HF.ev rfl) (HF.ev rfl)) ?_; clear HF a; intro a HF
       refine wl_yg HF rfl rfl rfl rfl rfl (yl_move rfl (HF.ev rfl)) ?_; clear HF a; intro a HF
       refine HF.cases 59 rfl (fun cc8 HF1 => ?_) (fun cc8 HF1 => ?_)
       ·clear HF; have HF := HF1; clear HF1
        have dcc8 := of_decide_eq_true cc8
        refine wl_skip HF rfl rfl rfl rfl rfl rfl ?_; clear HF a; intro a HF
        refine wl_skip HF rfl rfl rfl rfl rfl rfl ?_; clear HF a; intro a HF
        refine wl_yg HF rfl rfl rfl rfl rfl (yl_pick_t rfl (HF.ev rfl) (HF.ev rfl)) ?_; clear HF a; intro a HF
        refine wl_yg HF rfl rfl rfl rfl rfl (yl_pick_t rfl (HF.ev rfl) (HF.ev rfl)) ?_; clear HF a; intro a HF
        refine wl_y rfl HF rfl rfl (yl_pick_f rfl (HF.ev rfl) (HF.ev rfl)) ?_; clear HF a; intro a HF
        refine wl_as HF rfl rfl rfl rfl rfl ?_; clear HF a; intro a HF
        refine wpList_nil ?_
        refine ex_block ?_
        refine ex_then ?_
        refine wp_region_lit ?_
        refine wl_y rfl HF rfl rfl (yl_addI rfl (HF.ev rfl) (HF.ev rfl) (i64w (by omega))) ?_; clear HF a; intro a HF
        refine wl_mv HF rfl rfl rfl rfl rfl ?_; clear HF a; intro a HF
        refine wl_ne ?_
        have hnext : goneT ps ((j : Int) - 1) (k + 1) = true := by unfold goneT; simp only [cc5, cc6, cc7, cc8] <;> rfl
        replace HS : Bx (St w0 ([rowA encS 1 9 (.slice (some ⟨b3, 0, none⟩) 3 3) ([y0, y1, y2]), boxA b2 5 33 (.agg #[.int .i64 p.fAt, .int .i64 p.fBirth, .int .i64 p.fSize, .int .i64 p.fSum, .int .i64 p.fLevel]), boxA b1 1 25 (.agg #[.slice a0 ps.length c0]), boxA b5 3 44 (.agg #[.slice ((ps.getD k default).a0) ((ps.getD k default).d.fCells.length) ((ps.getD k default).c0), .slice ((ps.getD k default).a1) ((ps.getD k default).d.fWaits.length) ((ps.getD k default).c1), .bool ((ps.getD k default).d.fGone)])]) _) := ⟨(((HS.out).pick 3 rfl).pick 3 rfl).pick 3 rfl⟩
        exact ⟨k + 1, ⟨(by omega), HF.less _ ⟨rfl, rfl, rfl, rfl, rfl, rfl, (by show _ = some (Value.bool (goneT ps ((j : Int) - 1) (k + 1))); rw [hnext]; rfl), rfl, trivial⟩, (HS.out.erase 3)⟩, (by omega)⟩
       ·clear HF; have HF := HF1; clear HF1
        have dcc8 := of_decide_eq_false cc8
        refine wl_yg HF rfl rfl rfl rfl rfl (yl_move rfl (HF.ev rfl)) ?_; clear HF a; intro a HF
        refine wl_yg HF rfl rfl rfl rfl rfl (yl_geqI rfl (HF.ev rfl) (HF.ev rfl)) ?_; clear HF a; intro a HF
        refine wl_yg HF rfl rfl rfl rfl rfl (yl_pick_f rfl (HF.ev rfl) (HF.ev rfl)) ?_; clear HF a; intro a HF
        refine wl_yg HF rfl rfl rfl rfl rfl (yl_pick_t rfl (HF.ev rfl) (HF.ev rfl)) ?_; clear HF a; intro a HF
        refine wl_y rfl HF rfl rfl (yl_pick_f rfl (HF.ev rfl) (HF.ev rfl)) ?_; clear HF a; intro a HF
        refine wl_as HF rfl rfl rfl rfl rfl ?_; clear HF a; intro a HF
        refine wpList_nil ?_
        refine ex_block ?_
        refine ex_then ?_
        refine wp_region_lit ?_
        refine wl_y rfl HF rfl rfl (yl_addI rfl (HF.ev rfl) (HF.ev rfl) (i64w (by omega))) ?_; clear HF a; intro a HF
        refine wl_mv HF rfl rfl rfl rfl rfl ?_; clear HF a; intro a HF
        refine wl_ne ?_
        have hnext : goneT ps ((j : Int) - 1) (k + 1) = (decide ((0 : Int) ≤ ((j : Int) - 1))) := by unfold goneT; simp only [cc5, cc6, cc7, cc8] <;> rfl
        replace HS : Bx (St w0 ([rowA encS 1 9 (.slice (some ⟨b3, 0, none⟩) 3 3) ([y0, y1, y2]), boxA b2 5 33 (.agg #[.int .i64 p.fAt, .int .i64 p.fBirth, .int .i64 p.fSize, .int .i64 p.fSum, .int .i64 p.fLevel]), boxA b1 1 25 (.agg #[.slice a0 ps.length c0]), boxA b5 3 44 (.agg #[.slice ((ps.getD k default).a0) ((ps.getD k default).d.fCells.length) ((ps.getD k default).c0), .slice ((ps.getD k default).a1) ((ps.getD k default).d.fWaits.length) ((ps.getD k default).c1), .bool ((ps.getD k default).d.fGone)])]) _) := ⟨(((HS.out).pick 3 rfl).pick 3 rfl).pick 3 rfl⟩
        exact ⟨k + 1, ⟨(by omega), HF.less _ ⟨rfl, rfl, rfl, rfl, rfl, rfl, (by show _ = some (Value.bool (goneT ps ((j : Int) - 1) (k + 1))); rw [hnext]; rfl), rfl, trivial⟩, (HS.out.erase 3)⟩, (by omega)⟩
      ·clear HF; have HF := HF1; clear HF1
       have dcc7 := bne_eq_false_iff_eq.1 cc7
       refine wl_skip HF rfl rfl rfl rfl rfl rfl ?_; clear HF a; intro a HF
       refine wl_skip HF rfl rfl rfl rfl rfl rfl ?_; clear HF a; intro a HF
       refine wl_skip HF rfl rfl rfl rfl rfl rfl ?_; clear HF a; intro a HF
       refine wl_skipU HF rfl rfl rfl rfl rfl ?_; clear HF a; intro a HF
       refine wl_skipU HF rfl rfl rfl rfl rfl ?_; clear HF a; intro a HF
       refine wl_skip HF rfl rfl rfl rfl rfl rfl ?_; clear HF a; intro a HF
       refine wl_yg HF rfl rfl rfl rfl rfl (yl_pick_f rfl (HF.ev rfl) (HF.ev rfl)) ?_; clear HF a; intro a HF
       refine wl_y rfl HF rfl rfl (yl_pick_f rfl (HF.ev rfl) (HF.ev rfl)) ?_; clear HF a; intro a HF
       refine wl_as HF rfl rfl rfl rfl rfl ?_; clear HF a; intro a HF
       refine wpList_nil ?_
       refine ex_block ?_
       refine ex_then ?_
       refine wp_region_lit ?_
       refine wl_y rfl HF rfl rfl (yl_addI rfl (HF.ev rfl) (HF.ev rfl) (i64w (by omega))) ?_; clear HF a; intro a HF
       refine wl_mv HF rfl rfl rfl rfl rfl ?_; clear HF a; intro a HF
       refine wl_ne ?_
       have hnext : goneT ps ((j : Int) - 1) (k + 1) = false := by unfold goneT; simp only [cc5, cc6, cc7] <;> rfl
       replace HS : Bx (St w0 ([rowA encS 1 9 (.slice (some ⟨b3, 0, none⟩) 3 3) ([y0, y1, y2]), boxA b2 5 33 (.agg #[.int .i64 p.fAt, .int .i64 p.fBirth, .int .i64 p.fSize, .int .i64 p.fSum, .int .i64 p.fLevel]), boxA b1 1 25 (.agg #[.slice a0 ps.length c0]), boxA b5 3 44 (.agg #[.slice ((ps.getD k default).a0) ((ps.getD k default).d.fCells.length) ((ps.getD k default).c0), .slice ((ps.getD k default).a1) ((ps.getD k default).d.fWaits.length) ((ps.getD k default).c1), .bool ((ps.getD k default).d.fGone)])]) _) := ⟨(((HS.out).pick 3 rfl).pick 3 rfl).pick 3 rfl⟩
       exact ⟨k + 1, ⟨(by omega), HF.less _ ⟨rfl, rfl, rfl, rfl, rfl, rfl, (by show _ = some (Value.bool (goneT ps ((j : Int) - 1) (k + 1))); rw [hnext]; rfl), rfl, trivial⟩, (HS.out.erase 3)⟩, (by omega)⟩
     ·clear HF; have HF := HF1; clear HF1
      refine wl_skip HF rfl rfl rfl rfl rfl rfl ?_; clear HF a; intro a HF
      refine wl_skip HF rfl rfl rfl rfl rfl rfl ?_; clear HF a; intro a HF
      refine wl_skip HF rfl rfl rfl rfl rfl rfl ?_; clear HF a; intro a HF
      refine wl_yg HF rfl rfl rfl rfl rfl (yl_pick_f rfl (HF.ev rfl) (HF.ev rfl)) ?_; clear HF a; intro a HF
      refine wl_yg HF rfl rfl rfl rfl rfl (yl_move rfl (HF.ev rfl)) ?_; clear HF a; intro a HF
      refine wl_skip HF rfl rfl rfl rfl rfl rfl ?_; clear HF a; intro a HF
      refine wl_skip HF rfl rfl rfl rfl rfl rfl ?_; clear HF a; intro a HF
      refine wl_skip HF rfl rfl rfl rfl rfl rfl ?_; clear HF a; intro a HF
      refine wl_skipU HF rfl rfl rfl rfl rfl ?_; clear HF a; intro a HF
      refine wl_skipU HF rfl rfl rfl rfl rfl ?_; clear HF a; intro a HF
      refine wl_skip HF rfl rfl rfl rfl rfl rfl ?_; clear HF a; intro a HF
      refine wl_yg HF rfl rfl rfl rfl rfl (yl_pick_f rfl (HF.ev rfl) (HF.ev rfl)) ?_; clear HF a; intro a HF
      refine wl_y rfl HF rfl rfl (yl_pick_f rfl (HF.ev rfl) (HF.ev rfl)) ?_; clear HF a; intro a HF
      refine wl_as HF rfl rfl rfl rfl rfl ?_; clear HF a; intro a HF
      refine wpList_nil ?_
      refine ex_block ?_
      refine ex_then ?_
      refine wp_region_lit ?_
      refine wl_y rfl HF rfl rfl (yl_addI rfl (HF.ev rfl) (HF.ev rfl) (i64w (by omega))) ?_; clear HF a; intro a HF
      refine wl_mv HF rfl rfl rfl rfl rfl ?_; clear HF a; intro a HF
      refine wl_ne ?_
      have hnext : goneT ps ((j : Int) - 1) (k + 1) = false := by unfold goneT; simp only [cc5, cc6] <;> rfl
      replace HS : Bx (St w0 ([rowA encS 1 9 (.slice (some ⟨b3, 0, none⟩) 3 3) ([y0, y1, y2]), boxA b2 5 33 (.agg #[.int .i64 p.fAt, .int .i64 p.fBirth, .int .i64 p.fSize, .int .i64 p.fSum, .int .i64 p.fLevel]), boxA b1 1 25 (.agg #[.slice a0 ps.length c0]), boxA b5 3 44 (.agg #[.slice ((ps.getD k default).a0) ((ps.getD k default).d.fCells.length) ((ps.getD k default).c0), .slice ((ps.getD k default).a1) ((ps.getD k default).d.fWaits.length) ((ps.getD k default).c1), .bool ((ps.getD k default).d.fGone)])]) _) := ⟨(((HS.out).pick 3 rfl).pick 3 rfl).pick 3 rfl⟩
      exact ⟨k + 1, ⟨(by omega), HF.less _ ⟨rfl, rfl, rfl, rfl, rfl, rfl, (by show _ = some (Value.bool (goneT ps ((j : Int) - 1) (k + 1))); rw [hnext]; rfl), rfl, trivial⟩, (HS.out.erase 3)⟩, (by omega)⟩
   ·clear HF; have HF := HF1; clear HF1
    have dcc4 := of_decide_eq_false cc4
    refine wc_false HF rfl ?_
    refine wp_exit ?_
    refine ex_then_exit ?_
    refine ex_then_exit ?_
    refine ex_block_hit ?_
    refine ex_then ?_
    refine wp_seq ?_
    refine wp_seq ?_
    obtain rfl : k = ps.length := by omega
    refine wp_region_lit ?_
    refine wl_mv HF rfl rfl rfl rfl rfl ?_; clear HF a; intro a HF
    refine wl_ne ?_
    refine HF.cases 66 rfl (fun cc9 HF1 => ?_) (fun cc9 HF1 => ?_)
    ·clear HF; have HF := HF1; clear HF1
     refine wc_true HF rfl ?_
     refine wp_exit ?_
     refine ex_then_exit ?_
     refine ex_block_hit ?_
     refine ex_then ?_
     refine wp_region_lit ?_
     refine wl_mv HF rfl rfl rfl rfl rfl ?_; clear HF a; intro a HF
     refine wl_y rfl HF rfl rfl (yl_addI rfl (HF.ev rfl) (HF.ev rfl) (i64w (by omega))) ?_; clear HF a; intro a HF
     refine wl_as HF rfl rfl rfl rfl rfl ?_; clear HF a; intro a HF
     refine wl_ne ?_
     have hfail : tryP ps y0 y1 y2 p n j = false := by unfold tryP; simp only [cc9] <;> rfl
     have hnext : ∀ i, i < j + 1 → tryP ps y0 y1 y2 p n i = false := fun i hi => by
      by_cases h : i < j
      ·exact hb i h
      ·obtain rfl : i = j := by omega
       exact hfail
     exact ⟨j + 1, ⟨⟨by omega, hnext⟩, HF.less _ ⟨rfl, rfl, rfl, (by show _ = some (Value.int .i64 (((j + 1 : Nat) : Int) - 1)); rw [show (((j + 1 : Nat) : Int) - 1) = (j : Int) - 1 + 1 by omega]; rfl), trivial⟩, HS.out⟩, (by omega)⟩
    ·clear HF; have HF := HF1; clear HF1
     refine wc_false HF rfl ?_
     refine wp_skip ?_
     refine ex_then ?_
     refine wp_sr ?_
     refine wl_mv HF rfl rfl rfl rfl rfl ?_; clear HF a; intro a HF
     refine wl_y rfl HF rfl rfl (yl_fieldAddr (j := 2) rfl (HF.ev rfl) (by kernel_rfl)) ?_; clear HF a; intro a HF
     refine wl_y rfl HF rfl rfl (yl_load (v := .int .i64 p.fSize) rfl (HF.ev rfl) (((HS.out.box 1 rfl).cell 2).trans rfl) (by kernel_rfl)) ?_; clear HF a; intro a HF
     refine wl_mv HF rfl rfl rfl rfl rfl ?_; clear HF a; intro a HF
     refine wl_callB rfl HF rfl (enter_of Try.func19 (by kernel_rfl) rfl) (args := #[.slice (some ⟨b3, 0, none⟩) 3 3, .int .i64 p.fSize, .int .i64 ((j : Int) - 1)]) rfl (v := .tuple #[.string ((joinB y0 y1 y2 n ((j : Int) - 1)).getD ByteArray.empty), .bool ((joinB y0 y1 y2 n ((j : Int) - 1)).isSome)]) ((by have := joinJ_any (some ⟨b3, 0, none⟩) 3 y0 y1 y2 n j (by omega) _ hn1 hn2 hz0 hz1 hz2 (St.rdN HS.out encS_len 0 rfl); rw [← hps] at this; exact this)) rfl rfl HS.out ?_; clear HF HS a; intro w13 a HS HF; replace HS := Bx.mk HS
     refine wl_mv HF rfl rfl rfl rfl rfl ?_; clear HF a; intro a HF
     refine wl_y rfl HF rfl rfl (yl_extract rfl (HF.ev rfl) rfl) ?_; clear HF a; intro a HF
     refine wl_y rfl HF rfl rfl (yl_extract rfl (HF.ev rfl) rfl) ?_; clear HF a; intro a HF
     refine wl_as HF rfl rfl rfl rfl rfl ?_; clear HF a; intro a HF
     refine wl_as HF rfl rfl rfl rfl rfl ?_; clear HF a; intro a HF
     refine wl_ne ?_
     refine wp_sr ?_
     refine wl_mv HF rfl rfl rfl rfl rfl ?_; clear HF a; intro a HF
     refine wl_mv HF rfl rfl rfl rfl rfl ?_; clear HF a; intro a HF
     refine HF.cases 76 rfl (fun cc10 HF1 => ?_) (fun cc10 HF1 => ?_)
     ·clear HF; have HF := HF1; clear HF1
      refine wl_yg HF rfl rfl rfl rfl rfl (yl_loadR (cs := [.int .i64 p.fAt, .int .i64 p.fBirth, .int .i64 p.fSize, .int .i64 p.fSum, .int .i64 p.fLevel]) rfl (HF.ev rfl) ((HS.out.box 1 rfl).sub 0 5) (by kernel_rfl)) ?_; clear HF a; intro a HF
      refine wl_yg HF rfl rfl rfl rfl rfl (yl_move rfl (HF.ev rfl)) ?_; clear HF a; intro a HF
      refine wl_callBg HF rfl rfl rfl rfl (enter_of Try.func20 (by kernel_rfl) rfl) (args := #[.agg #[.int .i64 p.fAt, .int .i64 p.fBirth, .int .i64 p.fSize, .int .i64 p.fSum, .int .i64 p.fLevel], .string ((joinB y0 y1 y2 n ((j : Int) - 1)).getD ByteArray.empty)]) rfl (v := .bool (p.fits ((joinB y0 y1 y2 n ((j : Int) - 1)).getD ByteArray.empty))) (implFits_any p ((joinB y0 y1 y2 n ((j : Int) - 1)).getD ByteArray.empty) _ (by have := joinB_le y0 y1 y2 n ((j : Int) - 1) hn1; omega)) rfl rfl HS.out ?_; clear HF HS a; intro w14 a HS HF; replace HS := Bx.mk HS
      refine wl_y rfl HF rfl rfl (yl_pick_t rfl (HF.ev rfl) (HF.ev rfl)) ?_; clear HF a; intro a HF
      refine wl_ne ?_
      refine HF.cases 80 rfl (fun cc11 HF1 => ?_) (fun cc11 HF1 => ?_)
      ·clear HF; have HF := HF1; clear HF1
       refine wc_true HF rfl ?_
       refine wp_sr ?_
       refine wl_mv HF rfl rfl rfl rfl rfl ?_; clear HF a; intro a HF
       refine wl_as HF rfl rfl rfl rfl rfl ?_; clear HF a; intro a HF
       refine wl_as HF rfl rfl rfl rfl rfl ?_; clear HF a; intro a HF
       refine wl_ne ?_
       refine wp_ret ?_
       refine ex_block_ret ?_
       refine ex_then_ret ?_
       refine ex_then_ret ?_
       refine ex_block_ret ?_
       refine ex_then_ret ?_
       refine bp_ret2 HF Try.results64 (HF.res rfl) (HF.res rfl) ?_
       have hwin : tryP ps y0 y1 y2 p n j = true := by unfold tryP; simp only [cc9, cc10, cc11] <;> rfl
       exact ⟨by rw [← hy0, ← hy1, ← hy2, readPF_at (by omega) hb hwin] <;> rfl, HS.out.bel⟩
      ·clear HF; have HF := HF1; clear HF1
       refine wc_false HF rfl ?_
       refine wp_skip ?_
       refine ex_block ?_
       refine ex_then ?_
       refine wp_region_lit ?_
       refine wl_mv HF rfl rfl rfl rfl rfl ?_; clear HF a; intro a HF
       refine wl_y rfl HF rfl rfl (yl_addI rfl (HF.ev rfl) (HF.ev rfl) (i64w (by omega))) ?_; clear HF a; intro a HF
       refine wl_as HF rfl rfl rfl rfl rfl ?_; clear HF a; intro a HF
       refine wl_ne ?_
       have hfail : tryP ps y0 y1 y2 p n j = false := by unfold tryP; simp only [cc9, cc10, cc11] <;> rfl
       have hnext : ∀ i, i < j + 1 → tryP ps y0 y1 y2 p n i = false := fun i hi => by
        by_cases h : i < j
        ·exact hb i h
        ·obtain rfl : i = j := by omega
         exact hfail
       exact ⟨j + 1, ⟨⟨by omega, hnext⟩, HF.less _ ⟨rfl, rfl, rfl, (by show _ = some (Value.int .i64 (((j + 1 : Nat) : Int) - 1)); rw [show (((j + 1 : Nat) : Int) - 1) = (j : Int) - 1 + 1 by omega]; rfl), trivial⟩, HS.out⟩, (by omega)⟩
     ·clear HF; have HF := HF1; clear HF1
      refine wl_skip HF rfl rfl rfl rfl rfl rfl ?_; clear HF a; intro a HF
      refine wl_skip HF rfl rfl rfl rfl rfl rfl ?_; clear HF a; intro a HF
      refine wl_skip HF rfl rfl rfl rfl rfl rfl ?_; clear HF a; intro a HF
      refine wl_y rfl HF rfl rfl (yl_pick_f rfl (HF.ev rfl) (HF.ev rfl)) ?_; clear HF a; intro a HF
      refine wl_ne ?_
      refine wc_false HF rfl ?_
      refine wp_skip ?_
      refine ex_block ?_
      refine ex_then ?_
      refine wp_region_lit ?_
      refine wl_mv HF rfl rfl rfl rfl rfl ?_; clear HF a; intro a HF
      refine wl_y rfl HF rfl rfl (yl_addI rfl (HF.ev rfl) (HF.ev rfl) (i64w (by omega))) ?_; clear HF a; intro a HF
      refine wl_as HF rfl rfl rfl rfl rfl ?_; clear HF a; intro a HF
      refine wl_ne ?_
      have hfail : tryP ps y0 y1 y2 p n j = false := by unfold tryP; simp only [cc9, cc10] <;> rfl
      have hnext : ∀ i, i < j + 1 → tryP ps y0 y1 y2 p n i = false := fun i hi => by
       by_cases h : i < j
       ·exact hb i h
       ·obtain rfl : i = j := by omega
        exact hfail
      exact ⟨j + 1, ⟨⟨by omega, hnext⟩, HF.less _ ⟨rfl, rfl, rfl, (by show _ = some (Value.int .i64 (((j + 1 : Nat) : Int) - 1)); rw [show (((j + 1 : Nat) : Int) - 1) = (j : Int) - 1 + 1 by omega]; rfl), trivial⟩, HS.out⟩, (by omega)⟩
  ·clear HF; have HF := HF1; clear HF1
   have dcc3 := of_decide_eq_false cc3
   refine wc_false HF rfl ?_
   refine wp_exit ?_
   refine ex_then_exit ?_
   refine ex_then_exit ?_
   refine ex_block_hit ?_
   refine ex_then ?_
   refine wp_sr ?_
   refine wl_as HF rfl rfl rfl rfl rfl ?_; clear HF a; intro a HF
   refine wl_as HF rfl rfl rfl rfl rfl ?_; clear HF a; intro a HF
   refine wl_ne ?_
   refine wp_ret ?_
   refine bp_ret2 HF Try.results64 (HF.res rfl) (HF.res rfl) ?_
   obtain rfl : j = 3 := by omega
   exact ⟨by rw [← hy0, ← hy1, ← hy2, readPF_none hb] <;> rfl, HS.out.bel⟩

end Go.Proofs.Ytfijfjjleelphaa

/- The two readings agree. -/
namespace Go.Proofs.Ytfijfjjleelphaa
set_option maxHeartbeats 1000000
set_option maxRecDepth 100000
open Go.RowKit

def tryS (x0 x1 x2 : ByteArray) (p : PtrD) (n j : Nat) : Bool := (joinB x0 x1 x2 n ((j : Int) - 1)).isSome && p.fits ((joinB x0 x1 x2 n ((j : Int) - 1)).getD ByteArray.empty)
theorem readF_eq (x0 x1 x2 : ByteArray) (p : PtrD) (n : Nat) : readF x0 x1 x2 p n = bif tryS x0 x1 x2 p n 0 then ((joinB x0 x1 x2 n (-1)).getD ByteArray.empty, true)
  else bif tryS x0 x1 x2 p n 1 then ((joinB x0 x1 x2 n 0).getD ByteArray.empty, true)
  else bif tryS x0 x1 x2 p n 2 then ((joinB x0 x1 x2 n 1).getD ByteArray.empty, true) else (ByteArray.empty, false) := by
  unfold readF tryS
  have e0 : ((0 : Nat) : Int) - 1 = -1 := rfl
  have e1 : ((1 : Nat) : Int) - 1 = 0 := rfl
  have e2 : ((2 : Nat) : Int) - 1 = 1 := rfl
  rw [e0, e1, e2]
  cases (joinB x0 x1 x2 n (-1)).isSome <;> cases p.fits ((joinB x0 x1 x2 n (-1)).getD ByteArray.empty) <;> cases (joinB x0 x1 x2 n 0).isSome <;> cases p.fits ((joinB x0 x1 x2 n 0).getD ByteArray.empty) <;> cases (joinB x0 x1 x2 n 1).isSome <;> cases p.fits ((joinB x0 x1 x2 n 1).getD ByteArray.empty) <;> rfl
theorem joinN_of (c0 c1 c2 c2' : ByteArray) (n : Nat) : joinB c0 c1 c2 n (-1) = joinB c0 c1 c2' n (-1) := by
  unfold joinB
  simp
theorem joinZ_of (c0 c0' c1 c2 : ByteArray) (n : Nat) : joinB c0 c1 c2 n 0 = joinB c0' c1 c2 n 0 := by
  unfold joinB
  simp
theorem joinO_of (c0 c1 c1' c2 : ByteArray) (n : Nat) : joinB c0 c1 c2 n 1 = joinB c0 c1' c2 n 1 := by
  unfold joinB
  simp
theorem joinN_no (c0 c1 c2 : ByteArray) (n : Nat) (h1 : 1 ≤ n) (h2 : n ≤ 128) (h : c0.size = 200 ∨ c1.size = 200) : joinB c0 c1 c2 n (-1) = none := by
  have hb := half_bounds n h1
  have hh : half n ≤ 64 := by unfold half; omega
  unfold joinB
  rw [if_neg (by omega), if_neg (by omega), if_neg (by omega)]
theorem joinZ_no (c0 c1 c2 : ByteArray) (n : Nat) (h1 : 1 ≤ n) (h2 : n ≤ 128) (h : c1.size = 200 ∨ c2.size = 200) : joinB c0 c1 c2 n 0 = none := by
  have hb := half_bounds n h1
  have hh : half n ≤ 64 := by unfold half; omega
  unfold joinB
  rw [if_neg (by omega), if_neg (by omega), if_neg (by omega)]
theorem joinO_no (c0 c1 c2 : ByteArray) (n : Nat) (h1 : 1 ≤ n) (h2 : n ≤ 128) (h : c0.size = 200 ∨ c2.size = 200) : joinB c0 c1 c2 n 1 = none := by
  have hb := half_bounds n h1
  have hh : half n ≤ 64 := by unfold half; omega
  unfold joinB
  rw [if_neg (by omega), if_neg (by omega), if_neg (by omega)]
theorem colS_gone {d : DiskD} {m : Nat} (h : d.fGone = true) : (colS d m).size = 200 := by unfold colS; rw [h]; exact goneX_size
theorem colS_there {d : DiskD} {m : Nat} (h : d.fGone = false) : colP d m = colS d m := by unfold colS colP; rw [h]; rfl
/-- One way, both readings. -/
theorem try_eq (p0 p1 p2 : HD) (p : PtrD) (n m : Nat) (h1 : 1 ≤ n) (h2 : n ≤ 128) :
    (tryP [p0, p1, p2] (colP p0.d m) (colP p1.d m) (colP p2.d m) p n 0 = tryS (colS p0.d m) (colS p1.d m) (colS p2.d m) p n 0 ∧ (tryS (colS p0.d m) (colS p1.d m) (colS p2.d m) p n 0 = true → joinB (colP p0.d m) (colP p1.d m) (colP p2.d m) n (-1) = joinB (colS p0.d m) (colS p1.d m) (colS p2.d m) n (-1))) ∧
    (tryP [p0, p1, p2] (colP p0.d m) (colP p1.d m) (colP p2.d m) p n 1 = tryS (colS p0.d m) (colS p1.d m) (colS p2.d m) p n 1 ∧ (tryS (colS p0.d m) (colS p1.d m) (colS p2.d m) p n 1 = true → joinB (colP p0.d m) (colP p1.d m) (colP p2.d m) n 0 = joinB (colS p0.d m) (colS p1.d m) (colS p2.d m) n 0)) ∧
    (tryP [p0, p1, p2] (colP p0.d m) (colP p1.d m) (colP p2.d m) p n 2 = tryS (colS p0.d m) (colS p1.d m) (colS p2.d m) p n 2 ∧ (tryS (colS p0.d m) (colS p1.d m) (colS p2.d m) p n 2 = true → joinB (colP p0.d m) (colP p1.d m) (colP p2.d m) n 1 = joinB (colS p0.d m) (colS p1.d m) (colS p2.d m) n 1)) := by
  have e0 : ((0 : Nat) : Int) - 1 = -1 := rfl
  have e1 : ((1 : Nat) : Int) - 1 = 0 := rfl
  have e2 : ((2 : Nat) : Int) - 1 = 1 := rfl
  unfold tryP tryS
  rw [e0, e1, e2]
  have g0 : goneT [p0, p1, p2] (-1) [p0, p1, p2].length = (p0.d.fGone || p1.d.fGone) := by simp [goneT]
  have g1 : goneT [p0, p1, p2] 0 [p0, p1, p2].length = (p1.d.fGone || p2.d.fGone) := by simp [goneT]
  have g2 : goneT [p0, p1, p2] 1 [p0, p1, p2].length = (p0.d.fGone || p2.d.fGone) := by simp [goneT]
  rw [g0, g1, g2]
  refine ⟨?_, ?_, ?_⟩
  · cases h3 : p0.d.fGone with
    | true => rw [joinN_no _ _ _ n h1 h2 (.inl (colS_gone h3))]; exact ⟨rfl, fun h => by cases h⟩
    | false =>
      cases h4 : p1.d.fGone with
      | true => rw [joinN_no _ _ _ n h1 h2 (.inr (colS_gone h4))]; exact ⟨rfl, fun h => by cases h⟩
      | false => rw [colS_there h3, colS_there h4, joinN_of _ _ (colP p2.d m) (colS p2.d m)]; exact ⟨rfl, fun _ => rfl⟩
  · cases h3 : p1.d.fGone with
    | true => rw [joinZ_no _ _ _ n h1 h2 (.inl (colS_gone h3))]; exact ⟨rfl, fun h => by cases h⟩
    | false =>
      cases h4 : p2.d.fGone with
      | true => rw [joinZ_no _ _ _ n h1 h2 (.inr (colS_gone h4))]; exact ⟨rfl, fun h => by cases h⟩
      | false => rw [colS_there h3, colS_there h4, joinZ_of (colP p0.d m) (colS p0.d m)]; exact ⟨rfl, fun _ => rfl⟩
  · cases h3 : p0.d.fGone with
    | true => rw [joinO_no _ _ _ n h1 h2 (.inl (colS_gone h3))]; exact ⟨rfl, fun h => by cases h⟩
    | false =>
      cases h4 : p2.d.fGone with
      | true => rw [joinO_no _ _ _ n h1 h2 (.inr (colS_gone h4))]; exact ⟨rfl, fun h => by cases h⟩
      | false => rw [colS_there h3, colS_there h4, joinO_of _ (colP p1.d m) (colS p1.d m)]; exact ⟨rfl, fun _ => rfl⟩
theorem readPF_eq (p0 p1 p2 : HD) (p : PtrD) (n m : Nat) (h1 : 1 ≤ n) (h2 : n ≤ 128) : readPF [p0, p1, p2] (colP p0.d m) (colP p1.d m) (colP p2.d m) p n = readF (colS p0.d m) (colS p1.d m) (colS p2.d m) p n := by
  obtain ⟨⟨a0, b0⟩, ⟨a1, b1⟩, ⟨a2, b2⟩⟩ := try_eq p0 p1 p2 p n m h1 h2
  rw [readF_eq]
  unfold readPF
  rw [a0, a1, a2]
  cases h3 : tryS (colS p0.d m) (colS p1.d m) (colS p2.d m) p n 0 with
  | true => rw [b0 h3]; rfl
  | false =>
    cases h4 : tryS (colS p0.d m) (colS p1.d m) (colS p2.d m) p n 1 with
    | true => rw [b1 h4]; rfl
    | false =>
      cases h5 : tryS (colS p0.d m) (colS p1.d m) (colS p2.d m) p n 2 with
      | true => rw [b2 h5]; rfl
      | false => rfl
/-- What RaidRead returns. -/
def readR (ds : List DiskD) (p : PtrD) : ByteArray × Bool := bif okR ds && (p.ok && !p.hole) then readD ds p else (ByteArray.empty, false)
theorem colP_le {d : DiskD} (h : d.ok = true) (m : Nat) (hm : m < 64) : (colP d m).size ≤ 1048576 := by
  unfold colP
  cases d.fGone with
  | true => exact Nat.zero_le _
  | false => exact Nat.le_trans (look_le h m hm) (by decide)
theorem readD_any (a0 : Option Addr) (c0 : Nat) (ps : List HD) (w0 : World) (hk : okR (dsOf ps) = true) (p : PtrD) (h1 : p.ok = true) (h2 : p.hole = false) (hR : Rd HD.cells 3 w0 a0 ps.length ps) (hP : ∀ k, k < ps.length → (ps.getD k default).reads w0) : Calls Try.prog 64 #[.agg #[.slice a0 ps.length c0], .agg #[.int .i64 p.fAt, .int .i64 p.fBirth, .int .i64 p.fSize, .int .i64 p.fSum, .int .i64 p.fLevel]] w0 fun e w' => e = .returned (.tuple #[.string (readD (dsOf ps) p).1, .bool (readD (dsOf ps) p).2]) ∧ Below w0.heap.size w0 w' := by
  obtain ⟨hl, hok⟩ := okR_three hk
  have hbd := PtrD.ok_bounds h1 h2
  have := read_any a0 c0 ps w0 hl hok hR hP p p.fAt.toNat p.fSize.toNat (by omega) (by omega) (by omega) (by omega) (by omega) (fun k hk => colP_le (hok k (by omega)) _ (by omega))
  have e : readPF ps (colP (ps.getD 0 default).d p.fAt.toNat) (colP (ps.getD 1 default).d p.fAt.toNat) (colP (ps.getD 2 default).d p.fAt.toNat) p p.fSize.toNat = readD (dsOf ps) p := by
    match ps, hl with
    | [p0, p1, p2], _ => exact readPF_eq p0 p1 p2 p _ _ (by omega) (by omega)
  rw [e] at this
  exact this

theorem implRaidRead_any (a0 : Option Addr) (c0 : Nat) (ps : List HD) (w0 : World) (hl : ps.length ≤ 1048576) (hf : ∀ k, (ps.getD k default).d.fits) (hR : Rd HD.cells 3 w0 a0 ps.length ps) (hP : ∀ k, k < ps.length → (ps.getD k default).reads w0) (p : PtrD) : Calls Try.prog 16 #[.agg #[.slice a0 ps.length c0], .agg #[.int .i64 p.fAt, .int .i64 p.fBirth, .int .i64 p.fSize, .int .i64 p.fSum, .int .i64 p.fLevel]] w0 fun e w' => e = .returned (.tuple #[.string (readR (dsOf ps) p).1, .bool (readR (dsOf ps) p).2]) ∧ Below w0.heap.size w0 w' := by
 have HR := Bx.mk hR; have HP := Bx.mk hP; clear hR hP
 have HS := Bx.mk (St.start w0)
 refine wc_enter Try.func16 rfl Try.ntmps16 [(0, .agg #[.slice a0 ps.length c0]), (1, .agg #[.int .i64 p.fAt, .int .i64 p.fBirth, .int .i64 p.fSize, .int .i64 p.fSum, .int .i64 p.fLevel])] ⟨rfl, rfl, trivial⟩ rfl ?_; intro a HF
 refine wp_sr ?_
 refine wl_box rfl HF rfl (HF.ev rfl) (Z := [.slice a0 ps.length c0]) rfl rfl rfl rfl HS.out ?_; clear HF HS a; intro a w1 b1 HF HS; replace HS := Bx.mk HS
 refine wl_box rfl HF rfl (HF.ev rfl) (Z := [.int .i64 p.fAt, .int .i64 p.fBirth, .int .i64 p.fSize, .int .i64 p.fSum, .int .i64 p.fLevel]) rfl rfl rfl rfl HS.out ?_; clear HF HS a; intro a w2 b2 HF HS; replace HS := Bx.mk HS
 refine wl_as HF rfl rfl rfl rfl rfl ?_; clear HF a; intro a HF
 refine wl_as HF rfl rfl rfl rfl rfl ?_; clear HF a; intro a HF
 refine wl_ne ?_
 refine wp_seq ?_
 refine wp_sr ?_
 refine wl_y rfl HF rfl rfl (yl_loadR (cs := [.slice a0 ps.length c0]) rfl (HF.ev rfl) ((HS.out.box 1 rfl).sub 0 1) (by kernel_rfl)) ?_; clear HF a; intro a HF
 refine wl_callB rfl HF rfl (enter_of Try.func45 (by kernel_rfl) rfl) (args := #[.agg #[.slice a0 ps.length c0]]) rfl (v := .bool (okR (dsOf ps))) (implRaidOk_any a0 c0 ps _ hl hf (HR.out.below HS.out.bel) (fun k hk => (HP.out k hk).below HS.out.bel)) rfl rfl HS.out ?_; clear HF HS a; intro w3 a HS HF; replace HS := Bx.mk HS
 refine wl_y rfl HF rfl rfl (yl_not rfl (HF.ev rfl)) ?_; clear HF a; intro a HF
 refine wl_mv HF rfl rfl rfl rfl rfl ?_; clear HF a; intro a HF
 refine HF.cases 9 rfl (fun cc1 HF1 => ?_) (fun cc1 HF1 => ?_)
 ·clear HF; have HF := HF1; clear HF1
  have q1 : okR (dsOf ps) = false := by simpa using cc1
  refine wl_skip HF rfl rfl rfl rfl rfl rfl ?_; clear HF a; intro a HF
  refine wl_skip HF rfl rfl rfl rfl rfl rfl ?_; clear HF a; intro a HF
  refine wl_skip HF rfl rfl rfl rfl rfl rfl ?_; clear HF a; intro a HF
  refine wl_y rfl HF rfl rfl (yl_pick_t rfl (HF.ev rfl) (HF.ev rfl)) ?_; clear HF a; intro a HF
  refine wl_mv HF rfl rfl rfl rfl rfl ?_; clear HF a; intro a HF
  refine wl_skip HF rfl rfl rfl rfl rfl rfl ?_; clear HF a; intro a HF
  refine wl_skip HF rfl rfl rfl rfl rfl rfl ?_; clear HF a; intro a HF
  refine wl_y rfl HF rfl rfl (yl_pick_t rfl (HF.ev rfl) (HF.ev rfl)) ?_; clear HF a; intro a HF
  refine wl_ne ?_
  refine wc_true HF rfl ?_
  refine wp_sr ?_
  refine wl_as HF rfl rfl rfl rfl rfl ?_; clear HF a; intro a HF
  refine wl_as HF rfl rfl rfl rfl rfl ?_; clear HF a; intro a HF
  refine wl_ne ?_
  refine wp_ret ?_
  refine ex_then_ret ?_
  refine bp_ret2 HF Try.results16 (HF.res rfl) (HF.res rfl) ?_
  have hfn : readR (dsOf ps) p = (ByteArray.empty, false) := by unfold readR; rw [q1]; simp
  exact ⟨by rw [hfn] <;> rfl, HS.out.bel⟩
 ·clear HF; have HF := HF1; clear HF1
  have q1 : okR (dsOf ps) = true := by simpa using cc1
  refine wl_yg HF rfl rfl rfl rfl rfl (yl_loadR (cs := [.int .i64 p.fAt, .int .i64 p.fBirth, .int .i64 p.fSize, .int .i64 p.fSum, .int .i64 p.fLevel]) rfl (HF.ev rfl) ((HS.out.box 0 rfl).sub 0 5) (by kernel_rfl)) ?_; clear HF a; intro a HF
  refine wl_callBg HF rfl rfl rfl rfl (enter_of Try.func60 (by kernel_rfl) rfl) (args := #[.agg #[.int .i64 p.fAt, .int .i64 p.fBirth, .int .i64 p.fSize, .int .i64 p.fSum, .int .i64 p.fLevel]]) rfl (v := .bool p.ok) (implPtrOk_any p _) rfl rfl HS.out ?_; clear HF HS a; intro w4 a HS HF; replace HS := Bx.mk HS
  refine wl_yg HF rfl rfl rfl rfl rfl (yl_not rfl (HF.ev rfl)) ?_; clear HF a; intro a HF
  refine wl_y rfl HF rfl rfl (yl_pick_f rfl (HF.ev rfl) (HF.ev rfl)) ?_; clear HF a; intro a HF
  refine wl_mv HF rfl rfl rfl rfl rfl ?_; clear HF a; intro a HF
  refine HF.cases 14 rfl (fun cc2 HF1 => ?_) (fun cc2 HF1 => ?_)
  ·clear HF; have HF := HF1; clear HF1
   have q2 : p.ok = false := by simpa using cc2
   refine wl_skip HF rfl rfl rfl rfl rfl rfl ?_; clear HF a; intro a HF
   refine wl_skip HF rfl rfl rfl rfl rfl rfl ?_; clear HF a; intro a HF
   refine wl_y rfl HF rfl rfl (yl_pick_t rfl (HF.ev rfl) (HF.ev rfl)) ?_; clear HF a; intro a HF
   refine wl_ne ?_
   refine wc_true HF rfl ?_
   refine wp_sr ?_
   refine wl_as HF rfl rfl rfl rfl rfl ?_; clear HF a; intro a HF
   refine wl_as HF rfl rfl rfl rfl rfl ?_; clear HF a; intro a HF
   refine wl_ne ?_
   refine wp_ret ?_
   refine ex_then_ret ?_
   refine bp_ret2 HF Try.results16 (HF.res rfl) (HF.res rfl) ?_
   have hfn : readR (dsOf ps) p = (ByteArray.empty, false) := by unfold readR; rw [q1, q2]; simp
   exact ⟨by rw [hfn] <;> rfl, HS.out.bel⟩
  ·clear HF; have HF := HF1; clear HF1
   have q2 : p.ok = true := by simpa using cc2
   refine wl_yg HF rfl rfl rfl rfl rfl (yl_loadR (cs := [.int .i64 p.fAt, .int .i64 p.fBirth, .int .i64 p.fSize, .int .i64 p.fSum, .int .i64 p.fLevel]) rfl (HF.ev rfl) ((HS.out.box 0 rfl).sub 0 5) (by kernel_rfl)) ?_; clear HF a; intro a HF
   refine wl_callBg HF rfl rfl rfl rfl (enter_of Try.func63 (by kernel_rfl) rfl) (args := #[.agg #[.int .i64 p.fAt, .int .i64 p.fBirth, .int .i64 p.fSize, .int .i64 p.fSum, .int .i64 p.fLevel]]) rfl (v := .bool p.hole) (implHole_any p _) rfl rfl HS.out ?_; clear HF HS a; intro w5 a HS HF; replace HS := Bx.mk HS
   refine wl_y rfl HF rfl rfl (yl_pick_f rfl (HF.ev rfl) (HF.ev rfl)) ?_; clear HF a; intro a HF
   refine wl_ne ?_
   refine HF.cases 17 rfl (fun cc3 HF1 => ?_) (fun cc3 HF1 => ?_)
   ·clear HF; have HF := HF1; clear HF1
    have q3 : p.hole = true := by simpa using cc3
    refine wc_true HF rfl ?_
    refine wp_sr ?_
    refine wl_as HF rfl rfl rfl rfl rfl ?_; clear HF a; intro a HF
    refine wl_as HF rfl rfl rfl rfl rfl ?_; clear HF a; intro a HF
    refine wl_ne ?_
    refine wp_ret ?_
    refine ex_then_ret ?_
    refine bp_ret2 HF Try.results16 (HF.res rfl) (HF.res rfl) ?_
    have hfn : readR (dsOf ps) p = (ByteArray.empty, false) := by unfold readR; rw [q1, q2, q3]; simp
    exact ⟨by rw [hfn] <;> rfl, HS.out.bel⟩
   ·clear HF; have HF := HF1; clear HF1
    have q3 : p.hole = false := by simpa using cc3
    refine wc_false HF rfl ?_
    refine wp_skip ?_
    refine ex_then ?_
    refine wp_sr ?_
    refine wl_y rfl HF rfl rfl (yl_loadR (cs := [.slice a0 ps.length c0]) rfl (HF.ev rfl) ((HS.out.box 1 rfl).sub 0 1) (by kernel_rfl)) ?_; clear HF a; intro a HF
    refine wl_y rfl HF rfl rfl (yl_loadR (cs := [.int .i64 p.fAt, .int .i64 p.fBirth, .int .i64 p.fSize, .int .i64 p.fSum, .int .i64 p.fLevel]) rfl (HF.ev rfl) ((HS.out.box 0 rfl).sub 0 5) (by kernel_rfl)) ?_; clear HF a; intro a HF
    refine wl_callB rfl HF rfl (enter_of Try.func64 (by kernel_rfl) rfl) (args := #[.agg #[.slice a0 ps.length c0], .agg #[.int .i64 p.fAt, .int .i64 p.fBirth, .int .i64 p.fSize, .int .i64 p.fSum, .int .i64 p.fLevel]]) rfl (v := .tuple #[.string ((readD (dsOf ps) p).1), .bool ((readD (dsOf ps) p).2)]) (readD_any a0 c0 ps _ q1 p q2 q3 (HR.out.below HS.out.bel) (fun k hk => (HP.out k hk).below HS.out.bel)) rfl rfl HS.out ?_; clear HF HS a; intro w6 a HS HF; replace HS := Bx.mk HS
    refine wl_y rfl HF rfl rfl (yl_extract rfl (HF.ev rfl) rfl) ?_; clear HF a; intro a HF
    refine wl_y rfl HF rfl rfl (yl_extract rfl (HF.ev rfl) rfl) ?_; clear HF a; intro a HF
    refine wl_as HF rfl rfl rfl rfl rfl ?_; clear HF a; intro a HF
    refine wl_as HF rfl rfl rfl rfl rfl ?_; clear HF a; intro a HF
    refine wl_ne ?_
    refine wp_ret ?_
    refine bp_ret2 HF Try.results16 (HF.res rfl) (HF.res rfl) ?_
    have hfn : readR (dsOf ps) p = readD (dsOf ps) p := by unfold readR; rw [q1, q2, q3]; simp
    exact ⟨by rw [hfn] <;> rfl, HS.out.bel⟩

end Go.Proofs.Ytfijfjjleelphaa

/- A round over the disks, by a function value. -/
namespace Go.Proofs.Ytfijfjjleelphaa
set_option maxHeartbeats 1000000
set_option maxRecDepth 100000
open Go.RowKit

theorem each_any (w0 w : World) (a0 : Option Addr) (c0 : Nat) (ps : List HD) (f : FuncId) (caps : Array Value) (step : Nat → DiskD → Option DiskD) (C : Nat → List Asr) (F : List Asr) (hl : ps.length ≤ 1048576) (HE : ∀ (args : Array Value) (w : World), (callFunc f args).run Try.prog w = .ok (.enter f args) w) (hR : Rd HD.cells 3 w0 a0 ps.length ps) (hf : ∀ k, k < ps.length → ∀ (w : World) (X : List Asr), (∃ xs, eachTo step (dsOf ps) k = some xs) → St w0 (C k ++ X) w → Calls Try.prog f (#[] ++ #[.int .i64 (k : Int), .agg #[.slice ((ps.getD k default).a0) ((ps.getD k default).d.fCells.length) ((ps.getD k default).c0), .slice ((ps.getD k default).a1) ((ps.getD k default).d.fWaits.length) ((ps.getD k default).c1), .bool ((ps.getD k default).d.fGone)]] ++ caps) w fun e w' => (step k (ps.getD k default).d = none ∧ ∃ q : HD, e = .returned (.tuple #[.agg #[.slice q.a0 q.d.fCells.length q.c0, .slice q.a1 q.d.fWaits.length q.c1, .bool q.d.fGone], .bool false]) ∧ St w0 X w') ∨ (∃ q : HD, step k (ps.getD k default).d = some q.d ∧ e = .returned (.tuple #[.agg #[.slice q.a0 q.d.fCells.length q.c0, .slice q.a1 q.d.fWaits.length q.c1, .bool q.d.fGone], .bool true]) ∧ St w0 (q.asr :: (C (k + 1) ++ X)) w')) (hS : St w0 (C 0 ++ F) w) : Calls Try.prog 47 #[.agg #[.slice a0 ps.length c0], .func (.func f) #[] caps] w fun e w' => (eachTo step (dsOf ps) ps.length = none ∧ e = .returned (.tuple #[.agg #[.slice none 0 0], .bool false]) ∧ St w0 F w') ∨ (∃ ao cp qs, eachTo step (dsOf ps) ps.length = some (dsOf qs) ∧ e = .returned (.tuple #[.agg #[.slice ao qs.length cp], .bool true]) ∧ St w0 (rowA HD.cells 3 44 (.slice ao qs.length cp) qs :: sepA (qs.map HD.asr) :: (C ps.length ++ F)) w') := by
 have HR := Bx.mk hR; have HF0 := Bx.mk hf; clear hR hf
 have HS := Bx.mk hS; clear hS
 refine wc_enter Try.func47 rfl Try.ntmps47 [(0, .agg #[.slice a0 ps.length c0]), (1, .func (.func f) #[] caps)] ⟨rfl, rfl, trivial⟩ rfl ?_; intro a HF
 refine wp_sr ?_
 refine wl_box rfl HF rfl (HF.ev rfl) (Z := [.slice a0 ps.length c0]) rfl rfl rfl rfl HS.out ?_; clear HF HS a; intro a w1 b1 HF HS; replace HS := Bx.mk HS
 refine wl_alloc rfl HF rfl rfl rfl (Z := [.slice none 0 0]) (by kernel_rfl) rfl HS.out ?_; clear HF HS a; intro a w2 b2 HF HS; replace HS := Bx.mk HS
 refine wl_as HF rfl rfl rfl rfl rfl ?_; clear HF a; intro a HF
 refine wl_ne ?_
 refine wp_sr ?_
 refine wl_alloc rfl HF rfl rfl rfl (Z := [.slice none 0 0]) (by kernel_rfl) rfl HS.out ?_; clear HF HS a; intro a w3 b3 HF HS; replace HS := Bx.mk HS
 refine wl_ne ?_
 refine wp_seq ?_
 refine wp_sr ?_
 refine wl_y rfl HF rfl rfl (yl_fieldAddr (j := 0) rfl (HF.ev rfl) (by kernel_rfl)) ?_; clear HF a; intro a HF
 refine wl_y rfl HF rfl rfl (yl_load (v := .slice a0 ps.length c0) rfl (HF.ev rfl) (((HS.out.box 2 rfl).cell 0).trans rfl) (by kernel_rfl)) ?_; clear HF a; intro a HF
 refine wl_y rfl HF rfl rfl (yl_lenL (e := 44) (size := 3) rfl (HF.ev rfl) (by kernel_rfl)) ?_; clear HF a; intro a HF
 refine wl_mv HF rfl rfl rfl rfl rfl ?_; clear HF a; intro a HF
 refine wl_ne ?_
 refine wp_block ?_
 replace HS := Bx.mk ((HS.out.hdNil).nilRow HD.cells 3 44 none)
 refine wc_loop (ι := Nat) (fun k a w => ∃ (ao : Option Addr) (cp : Nat) (qs : List HD), (k ≤ ps.length ∧ qs.length = k ∧ eachTo step (dsOf ps) k = some (dsOf qs)) ∧ Fr 37 a [(1, .func (.func f) #[] caps), (2, .pointer (some ⟨b1, 0, none⟩)), (4, .pointer (some ⟨b2, 0, none⟩)), (5, .bool false), (6, .pointer (some ⟨b3, 0, none⟩)), (12, .slice a0 ps.length c0), (13, .int .i64 (ps.length : Int)), (14, .int .i64 (k : Int))] ∧ St w0 (rowA HD.cells 3 44 (.slice ao qs.length cp) qs :: sepA (qs.map HD.asr) :: boxA b3 1 25 (.agg #[.slice ao qs.length cp]) :: boxA b2 1 25 (.agg #[.slice none 0 0]) :: boxA b1 1 25 (.agg #[.slice a0 ps.length c0]) :: (C k ++ F)) w) (fun k => ps.length - k) 0 ⟨_, _, [], ⟨Nat.zero_le _, rfl, rfl⟩, HF.less _ ⟨rfl, rfl, rfl, rfl, rfl, rfl, rfl, rfl, trivial⟩, HS.out⟩ ?_
 clear HF HS; clear a
 rintro k a w4 ⟨ao, cp, qs, ⟨hk, hql, hq⟩, HF, HS⟩
 replace HS := Bx.mk HS
 refine wp_sr ?_
 refine wl_y rfl HF rfl rfl (yl_lssI rfl (HF.ev rfl) (HF.ev rfl)) ?_; clear HF a; intro a HF
 refine wl_ne ?_
 refine wp_seq ?_
 refine HF.cases 15 rfl (fun cc1 HF1 => ?_) (fun cc1 HF1 => ?_)
 ·clear HF; have HF := HF1; clear HF1
  have dcc1 := of_decide_eq_true cc1
  refine wc_true HF rfl ?_
  refine wp_skip ?_
  refine ex_then ?_
  refine wp_seq ?_
  refine wp_block ?_
  refine wp_seq ?_
  obtain ⟨g0, o0, r0⟩ := HR.out.opn; have R0 := Bx.mk r0; clear r0
  refine wp_region_lit ?_
  refine wl_mv HF rfl rfl rfl rfl rfl ?_; clear HF a; intro a HF
  refine wl_y rfl HF rfl rfl (yl_indexAddrR (e := 44) (i := k) (size := 3) rfl (HF.ev rfl) (HF.ev rfl) (by kernel_rfl) rfl (by omega) (R0.out.ao k (by omega))) ?_; clear HF a; intro a HF
  refine wl_y rfl HF rfl rfl (yl_loadR (cs := [.slice ((ps.getD k default).a0) ((ps.getD k default).d.fCells.length) ((ps.getD k default).c0), .slice ((ps.getD k default).a1) ((ps.getD k default).d.fWaits.length) ((ps.getD k default).c1), .bool ((ps.getD k default).d.fGone)]) rfl (HF.ev rfl) (R0.out.elem HS.out (get_getD (xs := ps) (j := k) (d := default) (by omega))) (by kernel_rfl)) ?_; clear HF a; intro a HF
  refine wl_alloc rfl HF rfl rfl rfl (Z := [.slice none 0 0, .slice none 0 0, .bool false]) (by kernel_rfl) rfl HS.out ?_; clear HF HS a; intro a w5 b4 HF HS; replace HS := Bx.mk HS
  refine wl_as HF rfl rfl rfl rfl rfl ?_; clear HF a; intro a HF
  refine wl_storeBox rfl HF rfl rfl (HF.ev rfl) (HF.ev rfl) HS.out 0 rfl (cells_lit [.slice ((ps.getD k default).a0) ((ps.getD k default).d.fCells.length) ((ps.getD k default).c0), .slice ((ps.getD k default).a1) ((ps.getD k default).d.fWaits.length) ((ps.getD k default).c1), .bool ((ps.getD k default).d.fGone)] rfl rfl) (by kernel_rfl) ?_; clear HS; intro w6 HS; replace HS := Bx.mk HS
  have HS : Bx (St w0 (boxA b4 3 44 (.agg #[.slice ((ps.getD k default).a0) ((ps.getD k default).d.fCells.length) ((ps.getD k default).c0), .slice ((ps.getD k default).a1) ((ps.getD k default).d.fWaits.length) ((ps.getD k default).c1), .bool ((ps.getD k default).d.fGone)]) :: rowA HD.cells 3 44 (.slice ao qs.length cp) qs :: sepA (qs.map HD.asr) :: boxA b3 1 25 (.agg #[.slice ao qs.length cp]) :: boxA b2 1 25 (.agg #[.slice none 0 0]) :: boxA b1 1 25 (.agg #[.slice a0 ps.length c0]) :: (C k ++ F)) _) := HS
  refine wl_ne ?_
  refine wp_sr ?_
  refine wl_mv HF rfl rfl rfl rfl rfl ?_; clear HF a; intro a HF
  refine wl_mv HF rfl rfl rfl rfl rfl ?_; clear HF a; intro a HF
  refine wl_y rfl HF rfl rfl (yl_loadR (cs := [.slice ((ps.getD k default).a0) ((ps.getD k default).d.fCells.length) ((ps.getD k default).c0), .slice ((ps.getD k default).a1) ((ps.getD k default).d.fWaits.length) ((ps.getD k default).c1), .bool ((ps.getD k default).d.fGone)]) rfl (HF.ev rfl) ((HS.out.box 0 rfl).sub 0 3) (by kernel_rfl)) ?_; clear HF a; intro a HF
  refine wl_callv rfl HF rfl (HF.ev rfl) HE (args := #[.int .i64 (k : Int), .agg #[.slice ((ps.getD k default).a0) ((ps.getD k default).d.fCells.length) ((ps.getD k default).c0), .slice ((ps.getD k default).a1) ((ps.getD k default).d.fWaits.length) ((ps.getD k default).c1), .bool ((ps.getD k default).d.fGone)]]) rfl (HF0.out k (by omega) _ ([boxA b4 3 44 (.agg #[.slice ((ps.getD k default).a0) ((ps.getD k default).d.fCells.length) ((ps.getD k default).c0), .slice ((ps.getD k default).a1) ((ps.getD k default).d.fWaits.length) ((ps.getD k default).c1), .bool ((ps.getD k default).d.fGone)]), rowA HD.cells 3 44 (.slice ao qs.length cp) qs, sepA (qs.map HD.asr), boxA b3 1 25 (.agg #[.slice ao qs.length cp]), boxA b2 1 25 (.agg #[.slice none 0 0]), boxA b1 1 25 (.agg #[.slice a0 ps.length c0])] ++ F) ⟨_, hq⟩ (St.midl (L := [boxA b4 3 44 (.agg #[.slice ((ps.getD k default).a0) ((ps.getD k default).d.fCells.length) ((ps.getD k default).c0), .slice ((ps.getD k default).a1) ((ps.getD k default).d.fWaits.length) ((ps.getD k default).c1), .bool ((ps.getD k default).d.fGone)]), rowA HD.cells 3 44 (.slice ao qs.length cp) qs, sepA (qs.map HD.asr), boxA b3 1 25 (.agg #[.slice ao qs.length cp]), boxA b2 1 25 (.agg #[.slice none 0 0]), boxA b1 1 25 (.agg #[.slice a0 ps.length c0])]) HS.out)) rfl rfl ?_
  rintro _ w7 (⟨hev, q, rfl, hs⟩ | ⟨q, hev, rfl, hs⟩)
  ·skip
   refine ⟨_, rfl, ?_⟩; replace HS := Bx.mk hs; clear hs HF; clear a; intro a HF
   replace HS : Bx (St w0 (boxA b4 3 44 (.agg #[.slice ((ps.getD k default).a0) ((ps.getD k default).d.fCells.length) ((ps.getD k default).c0), .slice ((ps.getD k default).a1) ((ps.getD k default).d.fWaits.length) ((ps.getD k default).c1), .bool ((ps.getD k default).d.fGone)]) :: rowA HD.cells 3 44 (.slice ao qs.length cp) qs :: sepA (qs.map HD.asr) :: boxA b3 1 25 (.agg #[.slice ao qs.length cp]) :: boxA b2 1 25 (.agg #[.slice none 0 0]) :: boxA b1 1 25 (.agg #[.slice a0 ps.length c0]) :: F) _) := ⟨HS.out⟩
   refine wl_mv HF rfl rfl rfl rfl rfl ?_; clear HF a; intro a HF
   refine wl_y rfl HF rfl rfl (yl_extract rfl (HF.ev rfl) rfl) ?_; clear HF a; intro a HF
   refine wl_y rfl HF rfl rfl (yl_extract rfl (HF.ev rfl) rfl) ?_; clear HF a; intro a HF
   refine wl_alloc rfl HF rfl rfl rfl (Z := [.slice none 0 0, .slice none 0 0, .bool false]) (by kernel_rfl) rfl HS.out ?_; clear HF HS a; intro a w8 b5 HF HS; replace HS := Bx.mk HS
   refine wl_storeBox rfl HF rfl rfl (HF.ev rfl) (HF.ev rfl) HS.out 0 rfl (cells_lit [.slice q.a0 q.d.fCells.length q.c0, .slice q.a1 q.d.fWaits.length q.c1, .bool q.d.fGone] rfl rfl) (by kernel_rfl) ?_; clear HS; intro w9 HS; replace HS := Bx.mk HS
   have HS : Bx (St w0 (boxA b5 3 44 (.agg #[.slice q.a0 q.d.fCells.length q.c0, .slice q.a1 q.d.fWaits.length q.c1, .bool q.d.fGone]) :: boxA b4 3 44 (.agg #[.slice ((ps.getD k default).a0) ((ps.getD k default).d.fCells.length) ((ps.getD k default).c0), .slice ((ps.getD k default).a1) ((ps.getD k default).d.fWaits.length) ((ps.getD k default).c1), .bool ((ps.getD k default).d.fGone)]) :: rowA HD.cells 3 44 (.slice ao qs.length cp) qs :: sepA (qs.map HD.asr) :: boxA b3 1 25 (.agg #[.slice ao qs.length cp]) :: boxA b2 1 25 (.agg #[.slice none 0 0]) :: boxA b1 1 25 (.agg #[.slice a0 ps.length c0]) :: F) _) := HS
   refine wl_as HF rfl rfl rfl rfl rfl ?_; clear HF a; intro a HF
   refine wl_ne ?_
   refine wp_seq ?_
   refine wp_sr ?_
   refine wl_mv HF rfl rfl rfl rfl rfl ?_; clear HF a; intro a HF
   refine wl_y rfl HF rfl rfl (yl_not rfl (HF.ev rfl)) ?_; clear HF a; intro a HF
   refine wl_ne ?_
   refine wc_true HF rfl ?_
   refine wp_sr ?_
   refine wl_y rfl HF rfl rfl (yl_build HF rfl (ps := []) rfl (cs := #[.slice none 0 0]) (by kernel_rfl)) ?_; clear HF a; intro a HF
   refine wl_storeBox rfl HF rfl rfl (HF.ev rfl) (HF.ev rfl) HS.out 5 rfl (cells_lit [.slice none 0 0] rfl rfl) (by kernel_rfl) ?_; clear HS; intro w10 HS; replace HS := Bx.mk HS
   have HS : Bx (St w0 (boxA b5 3 44 (.agg #[.slice q.a0 q.d.fCells.length q.c0, .slice q.a1 q.d.fWaits.length q.c1, .bool q.d.fGone]) :: boxA b4 3 44 (.agg #[.slice ((ps.getD k default).a0) ((ps.getD k default).d.fCells.length) ((ps.getD k default).c0), .slice ((ps.getD k default).a1) ((ps.getD k default).d.fWaits.length) ((ps.getD k default).c1), .bool ((ps.getD k default).d.fGone)]) :: rowA HD.cells 3 44 (.slice ao qs.length cp) qs :: sepA (qs.map HD.asr) :: boxA b3 1 25 (.agg #[.slice ao qs.length cp]) :: boxA b2 1 25 (.agg #[.slice none 0 0]) :: boxA b1 1 25 (.agg #[.slice a0 ps.length c0]) :: F) _) := HS
   refine wl_as HF rfl rfl rfl rfl rfl ?_; clear HF a; intro a HF
   refine wl_ne ?_
   refine wp_ret ?_
   refine ex_then_ret ?_
   refine ex_block_ret ?_
   refine ex_then_ret ?_
   refine ex_then_ret ?_
   refine ex_block_ret ?_
   refine ex_then_ret ?_
   refine bp_ret2 HF Try.results47 (HF.resBox rfl (HS.out.box 5 rfl) (by kernel_rfl)) (HF.res rfl) ?_
   exact .inl ⟨eachTo_fail (k := k) (by rw [dsOf_get]; exact hev) (by omega), rfl, (((((((HS.out.erase 6).erase 5).erase 4).erase 3).erase 2).erase 1).erase 0)⟩
  ·skip
   refine ⟨_, rfl, ?_⟩; replace HS := Bx.mk (St.midl (L := C (k + 1)) (C := HD.asr q :: [boxA b4 3 44 (.agg #[.slice ((ps.getD k default).a0) ((ps.getD k default).d.fCells.length) ((ps.getD k default).c0), .slice ((ps.getD k default).a1) ((ps.getD k default).d.fWaits.length) ((ps.getD k default).c1), .bool ((ps.getD k default).d.fGone)]), rowA HD.cells 3 44 (.slice ao qs.length cp) qs, sepA (qs.map HD.asr), boxA b3 1 25 (.agg #[.slice ao qs.length cp]), boxA b2 1 25 (.agg #[.slice none 0 0]), boxA b1 1 25 (.agg #[.slice a0 ps.length c0])]) (St.midl (L := [HD.asr q]) hs)); clear hs HF; clear a; intro a HF
   replace HS : Bx (St w0 (HD.asr q :: boxA b4 3 44 (.agg #[.slice ((ps.getD k default).a0) ((ps.getD k default).d.fCells.length) ((ps.getD k default).c0), .slice ((ps.getD k default).a1) ((ps.getD k default).d.fWaits.length) ((ps.getD k default).c1), .bool ((ps.getD k default).d.fGone)]) :: rowA HD.cells 3 44 (.slice ao qs.length cp) qs :: sepA (qs.map HD.asr) :: boxA b3 1 25 (.agg #[.slice ao qs.length cp]) :: boxA b2 1 25 (.agg #[.slice none 0 0]) :: boxA b1 1 25 (.agg #[.slice a0 ps.length c0]) :: (C (k + 1) ++ F)) _) := ⟨HS.out⟩
   refine wl_mv HF rfl rfl rfl rfl rfl ?_; clear HF a; intro a HF
   refine wl_y rfl HF rfl rfl (yl_extract rfl (HF.ev rfl) rfl) ?_; clear HF a; intro a HF
   refine wl_y rfl HF rfl rfl (yl_extract rfl (HF.ev rfl) rfl) ?_; clear HF a; intro a HF
   refine wl_alloc rfl HF rfl rfl rfl (Z := [.slice none 0 0, .slice none 0 0, .bool false]) (by kernel_rfl) rfl HS.out ?_; clear HF HS a; intro a w11 b6 HF HS; replace HS := Bx.mk HS
   refine wl_storeBox rfl HF rfl rfl (HF.ev rfl) (HF.ev rfl) HS.out 0 rfl (cells_lit [.slice q.a0 q.d.fCells.length q.c0, .slice q.a1 q.d.fWaits.length q.c1, .bool q.d.fGone] rfl rfl) (by kernel_rfl) ?_; clear HS; intro w12 HS; replace HS := Bx.mk HS
   have HS : Bx (St w0 (boxA b6 3 44 (.agg #[.slice q.a0 q.d.fCells.length q.c0, .slice q.a1 q.d.fWaits.length q.c1, .bool q.d.fGone]) :: HD.asr q :: boxA b4 3 44 (.agg #[.slice ((ps.getD k default).a0) ((ps.getD k default).d.fCells.length) ((ps.getD k default).c0), .slice ((ps.getD k default).a1) ((ps.getD k default).d.fWaits.length) ((ps.getD k default).c1), .bool ((ps.getD k default).d.fGone)]) :: rowA HD.cells 3 44 (.slice ao qs.length cp) qs :: sepA (qs.map HD.asr) :: boxA b3 1 25 (.agg #[.slice ao qs.length cp]) :: boxA b2 1 25 (.agg #[.slice none 0 0]) :: boxA b1 1 25 (.agg #[.slice a0 ps.length c0]) :: (C (k + 1) ++ F)) _) := HS
   refine wl_as HF rfl rfl rfl rfl rfl ?_; clear HF a; intro a HF
   refine wl_ne ?_
   refine wp_seq ?_
   refine wp_sr ?_
   refine wl_mv HF rfl rfl rfl rfl rfl ?_; clear HF a; intro a HF
   refine wl_y rfl HF rfl rfl (yl_not rfl (HF.ev rfl)) ?_; clear HF a; intro a HF
   refine wl_ne ?_
   refine wc_false HF rfl ?_
   refine wp_skip ?_
   refine ex_then ?_
   refine wp_region_lit ?_
   refine wl_y rfl HF rfl rfl (yl_fieldAddr (j := 0) rfl (HF.ev rfl) (by kernel_rfl)) ?_; clear HF a; intro a HF
   refine wl_y rfl HF rfl rfl (yl_load (v := .slice ao qs.length cp) rfl (HF.ev rfl) (((HS.out.box 5 rfl).cell 0).trans rfl) (by kernel_rfl)) ?_; clear HF a; intro a HF
   refine wl_y rfl HF rfl rfl (yl_loadR (cs := [.slice q.a0 q.d.fCells.length q.c0, .slice q.a1 q.d.fWaits.length q.c1, .bool q.d.fGone]) rfl (HF.ev rfl) ((HS.out.box 0 rfl).sub 0 3) (by kernel_rfl)) ?_; clear HF a; intro a HF
   refine wl_buildS (enc := HD.cells) (e := 44) (size := 3) rfl HF rfl rfl rfl (ps := [(0, .agg #[.slice q.a0 q.d.fCells.length q.c0, .slice q.a1 q.d.fWaits.length q.c1, .bool q.d.fGone])]) rfl (cells := [.slice q.a0 q.d.fCells.length q.c0, .slice q.a1 q.d.fWaits.length q.c1, .bool q.d.fGone]) (by kernel_rfl) [q] rfl rfl (by unfold maxLen; omega) rfl HS.out ?_; clear HF HS a; intro b7 a w13 HF HS; replace HS := Bx.mk HS
   refine wl_appL rfl HF rfl rfl rfl (HF.ev rfl) (HF.ev rfl) elemD HD.cells_len HS.out 4 (xs := qs) rfl (ys := [q]) (St.rdN HS.out HD.cells_len 0 rfl) (cells_one_D _) (by unfold maxLen; simp only [List.length_cons, List.length_nil]; omega) (by simp only [List.length_cons, List.length_nil]; omega) ?_; clear HF HS a; intro ao8 cp9 w14 a HF HS; replace HS := Bx.mk HS
   replace HS : Bx (St w0 (rowA HD.cells 3 44 (.slice (some ⟨b7, 0, none⟩) 1 1) ([q]) :: boxA b6 3 44 (.agg #[.slice q.a0 q.d.fCells.length q.c0, .slice q.a1 q.d.fWaits.length q.c1, .bool q.d.fGone]) :: HD.asr q :: boxA b4 3 44 (.agg #[.slice ((ps.getD k default).a0) ((ps.getD k default).d.fCells.length) ((ps.getD k default).c0), .slice ((ps.getD k default).a1) ((ps.getD k default).d.fWaits.length) ((ps.getD k default).c1), .bool ((ps.getD k default).d.fGone)]) :: rowA HD.cells 3 44 (.slice ao8 (qs.length + ([q]).length) cp9) (qs ++ ([q])) :: sepA (qs.map HD.asr) :: boxA b3 1 25 (.agg #[.slice ao qs.length cp]) :: boxA b2 1 25 (.agg #[.slice none 0 0]) :: boxA b1 1 25 (.agg #[.slice a0 ps.length c0]) :: (C (k + 1) ++ F)) _) := ⟨HS.out⟩
   refine wl_y rfl HF rfl rfl (yl_fieldAddr (j := 0) rfl (HF.ev rfl) (by kernel_rfl)) ?_; clear HF a; intro a HF
   refine wl_storeF rfl rfl rfl (HF.ev rfl) (HF.ev rfl) (by kernel_rfl) HS.out 6 rfl rfl rfl ?_; clear HS; intro w15 HS; replace HS := Bx.mk HS
   have HS : Bx (St w0 (rowA HD.cells 3 44 (.slice (some ⟨b7, 0, none⟩) 1 1) ([q]) :: boxA b6 3 44 (.agg #[.slice q.a0 q.d.fCells.length q.c0, .slice q.a1 q.d.fWaits.length q.c1, .bool q.d.fGone]) :: HD.asr q :: boxA b4 3 44 (.agg #[.slice ((ps.getD k default).a0) ((ps.getD k default).d.fCells.length) ((ps.getD k default).c0), .slice ((ps.getD k default).a1) ((ps.getD k default).d.fWaits.length) ((ps.getD k default).c1), .bool ((ps.getD k default).d.fGone)]) :: rowA HD.cells 3 44 (.slice ao8 (qs.length + ([q]).length) cp9) (qs ++ ([q])) :: sepA (qs.map HD.asr) :: boxA b3 1 25 (.agg #[.slice ao8 (qs.length + ([q]).length) cp9]) :: boxA b2 1 25 (.agg #[.slice none 0 0]) :: boxA b1 1 25 (.agg #[.slice a0 ps.length c0]) :: (C (k + 1) ++ F)) _) := HS
   refine wpList_nil ?_
   refine ex_block ?_
   refine ex_then ?_
   refine wp_region_lit ?_
   refine wl_y rfl HF rfl rfl (yl_addI rfl (HF.ev rfl) (HF.ev rfl) (i64w (by omega))) ?_; clear HF a; intro a HF
   refine wl_mv HF rfl rfl rfl rfl rfl ?_; clear HF a; intro a HF
   refine wl_ne ?_
   have hz : qs.length + [q].length = (qs ++ [q]).length := (List.length_append ..).symm
   rw [hz] at HS
   replace HS := Bx.mk (St.hdSnoc (((HS.out).pick 5 rfl).pick 3 rfl))
   replace HS := Bx.mk ((((((((((HS.out).pick 7 rfl).pick 7 rfl).pick 7 rfl).pick 3 rfl).pick 7 rfl).erase 7).erase 6).erase 5))
   have hnext : eachTo step (dsOf ps) (k + 1) = some (dsOf (qs ++ [q])) := by rw [dsOf_append]; exact eachTo_next (x := q.d) hq (by rw [dsOf_get]; exact hev)
   exact ⟨k + 1, ⟨_, _, qs ++ [q], ⟨by omega, by rw [List.length_append]; show qs.length + 1 = k + 1; omega, hnext⟩, HF.less _ ⟨rfl, rfl, rfl, rfl, rfl, rfl, rfl, rfl, trivial⟩, HS.out⟩, (by omega)⟩
 ·clear HF; have HF := HF1; clear HF1
  have dcc1 := of_decide_eq_false cc1
  refine wc_false HF rfl ?_
  refine wp_exit ?_
  refine ex_then_exit ?_
  refine ex_then_exit ?_
  refine ex_block_hit ?_
  refine ex_then ?_
  refine wp_sr ?_
  refine wl_y rfl HF rfl rfl (yl_loadR (cs := [.slice ao qs.length cp]) rfl (HF.ev rfl) ((HS.out.box 2 rfl).sub 0 1) (by kernel_rfl)) ?_; clear HF a; intro a HF
  refine wl_storeBox rfl HF rfl rfl (HF.ev rfl) (HF.ev rfl) HS.out 3 rfl (cells_lit [.slice ao qs.length cp] rfl rfl) (by kernel_rfl) ?_; clear HS; intro w16 HS; replace HS := Bx.mk HS
  have HS : Bx (St w0 (rowA HD.cells 3 44 (.slice ao qs.length cp) qs :: sepA (qs.map HD.asr) :: boxA b3 1 25 (.agg #[.slice ao qs.length cp]) :: boxA b2 1 25 (.agg #[.slice ao qs.length cp]) :: boxA b1 1 25 (.agg #[.slice a0 ps.length c0]) :: (C k ++ F)) _) := HS
  refine wl_as HF rfl rfl rfl rfl rfl ?_; clear HF a; intro a HF
  refine wl_ne ?_
  refine wp_ret ?_
  refine bp_ret2 HF Try.results47 (HF.resBox rfl (HS.out.box 3 rfl) (by kernel_rfl)) (HF.res rfl) ?_
  replace HS : Bx (St w0 (rowA HD.cells 3 44 (.slice ao qs.length cp) qs :: sepA (qs.map HD.asr) :: boxA b3 1 25 (.agg #[.slice ao qs.length cp]) :: boxA b2 1 25 (.agg #[.slice ao qs.length cp]) :: boxA b1 1 25 (.agg #[.slice a0 ps.length c0]) :: (C k ++ F)) _) := ⟨((HS.out).pick 1 rfl).pick 1 rfl⟩
  obtain rfl : k = ps.length := by omega
  exact .inr ⟨_, _, qs, hq, rfl, (((HS.out.erase 4).erase 3).erase 2)⟩

end Go.Proofs.Ytfijfjjleelphaa
