/- A part of the proof in YtfijfjjleelphaaCrashY17. -/
import Derived.ArgAppend
import Derived.BigQuiet
import Derived.BigRegion
import Derived.Deep.AppendLies
import Derived.Deep.MidRow
import Derived.Deep.Quiet
import Derived.Deep.QuietTactic
import Derived.Deep.RegionHeld3
import Derived.Deep.RegionWith
import Derived.IntWalk
import Derived.Laws.BytesArg
import Derived.Lib.Hide
import Derived.Lib.LazyBuf
import Derived.Lib.SlBytesConst
import Derived.LoopIn
import Derived.LoopN
import Derived.LoopNIn
import Derived.Orders
import Derived.OrdersHeld
import Derived.OwnWalkIn
import Derived.RangeFuncLeaves
import Derived.RangeFuncNested
import Derived.Shelf.Abstract
import Derived.Still
import Derived.StillTail
import Derived.StillTailTactics
import Derived.TacticsInMore
import Derived.Test.YtfijfjjleelphaaRows
import Derived.WalkKit
import Derived.WalkLawsBesides
import Derived.WalkSpells
import Derived.Test.YtfijfjjleelphaaCrashY15
/- FnRaidCrashed: the law, walked. -/
namespace Go.Proofs.Ytfijfjjleelphaa
set_option maxHeartbeats 1000000
set_option maxRecDepth 100000
open Go.RowKit

theorem fnRaidCrashed_walk (w0 : World) (ab : Option Addr) (n0 cb : Nat) (bs : List UInt8) (hcap : n0 ≤ cb) (hR : Rd encB 1 w0 ab n0 bs) (am : Option Addr) (n1 cm : Nat) (bs1 : List UInt8) (hcap1 : n1 ≤ cm) (hR1 : Rd encB 1 w0 am n1 bs1) : Calls Try.prog 5 #[.slice ab n0 cb, .slice am n1 cm] w0 fun e w' => e = .returned (.bool true) ∧ Below w0.heap.size w0 w' := by
 have HS := Bx.mk (St.start w0)
 refine wc_enter Try.func5 rfl Try.ntmps5 [(0, .slice ab n0 cb), (1, .slice am n1 cm)] ⟨rfl, rfl, trivial⟩ rfl ?_; intro a HF
 refine wp_sr ?_
 refine wl_as HF rfl rfl rfl rfl rfl ?_; clear HF a; intro a HF
 refine wl_ne ?_
 refine wp_seq ?_
 refine wp_sr ?_
 refine wl_mv HF rfl rfl rfl rfl rfl ?_; clear HF a; intro a HF
 refine wl_y rfl HF rfl rfl (yl_lenL (e := 5) (size := 1) rfl (HF.ev rfl) (by kernel_rfl)) ?_; clear HF a; intro a HF
 refine wl_y rfl HF rfl rfl (yl_gtrI rfl (HF.ev rfl) (HF.ev rfl)) ?_; clear HF a; intro a HF
 refine wl_mv HF rfl rfl rfl rfl rfl ?_; clear HF a; intro a HF
 refine HF.cases 28 rfl (fun cc1 HF1 => ?_) (fun cc1 HF1 => ?_)
 ·clear HF; have HF := HF1; clear HF1
  have dcc1 := of_decide_eq_true cc1
  refine wl_skip HF rfl rfl rfl rfl rfl rfl ?_; clear HF a; intro a HF
  refine wl_skip HF rfl rfl rfl rfl rfl rfl ?_; clear HF a; intro a HF
  refine wl_skip HF rfl rfl rfl rfl rfl rfl ?_; clear HF a; intro a HF
  refine wl_y rfl HF rfl rfl (yl_pick_t rfl (HF.ev rfl) (HF.ev rfl)) ?_; clear HF a; intro a HF
  refine wl_ne ?_
  refine wc_true HF rfl ?_
  refine wp_sr ?_
  refine wl_as HF rfl rfl rfl rfl rfl ?_; clear HF a; intro a HF
  refine wl_ne ?_
  refine wp_ret ?_
  refine ex_then_ret ?_
  refine bp_ret1 HF Try.results5 (HF.res rfl) ?_
  exact ⟨rfl, HS.out.bel⟩
 ·clear HF; have HF := HF1; clear HF1
  have dcc1 := of_decide_eq_false cc1
  refine wl_yg HF rfl rfl rfl rfl rfl (yl_move rfl (HF.ev rfl)) ?_; clear HF a; intro a HF
  refine wl_yg HF rfl rfl rfl rfl rfl (yl_lenL (e := 5) (size := 1) rfl (HF.ev rfl) (by kernel_rfl)) ?_; clear HF a; intro a HF
  refine wl_yg HF rfl rfl rfl rfl rfl (yl_gtrI rfl (HF.ev rfl) (HF.ev rfl)) ?_; clear HF a; intro a HF
  refine wl_y rfl HF rfl rfl (yl_pick_f rfl (HF.ev rfl) (HF.ev rfl)) ?_; clear HF a; intro a HF
  refine wl_ne ?_
  refine HF.cases 32 rfl (fun cc2 HF1 => ?_) (fun cc2 HF1 => ?_)
  ·clear HF; have HF := HF1; clear HF1
   have dcc2 := of_decide_eq_true cc2
   refine wc_true HF rfl ?_
   refine wp_sr ?_
   refine wl_as HF rfl rfl rfl rfl rfl ?_; clear HF a; intro a HF
   refine wl_ne ?_
   refine wp_ret ?_
   refine ex_then_ret ?_
   refine bp_ret1 HF Try.results5 (HF.res rfl) ?_
   exact ⟨rfl, HS.out.bel⟩
  ·clear HF; have HF := HF1; clear HF1
   have dcc2 := of_decide_eq_false cc2
   refine wc_false HF rfl ?_
   refine wp_skip ?_
   refine ex_then ?_
   refine wp_sr ?_
   refine wl_mv HF rfl rfl rfl rfl rfl ?_; clear HF a; intro a HF
   refine wl_call rfl HF rfl (enter_of Try.func9 (by kernel_rfl) rfl) (args := #[.slice ab n0 cb]) rfl (drawRaidWrite_any _ ab n0 cb bs hcap (by omega) (hR.below HS.out.bel)) rfl rfl ?_
   rintro _ w1 ⟨ao, co, ps, row, t, rfl, hpl, hpf, hra, hrb, htz, hs⟩
   refine ⟨_, rfl, ?_⟩; replace HS := Bx.mk (HS.out.add hs); clear hs HF; clear a; intro a HF
   replace HS : Bx (St w0 ([holdsA (rdsP ao ps)]) _) := ⟨HS.out⟩
   refine wl_mv HF rfl rfl rfl rfl rfl ?_; clear HF a; intro a HF
   refine wl_y rfl HF rfl rfl (yl_extract rfl (HF.ev rfl) rfl) ?_; clear HF a; intro a HF
   refine wl_y rfl HF rfl rfl (yl_extract rfl (HF.ev rfl) rfl) ?_; clear HF a; intro a HF
   refine wl_y rfl HF rfl rfl (yl_extract rfl (HF.ev rfl) rfl) ?_; clear HF a; intro a HF
   refine wl_alloc rfl HF rfl rfl rfl (Z := [.slice none 0 0]) (by kernel_rfl) rfl HS.out ?_; clear HF HS a; intro a w2 b2 HF HS; replace HS := Bx.mk HS
   refine wl_storeBox rfl HF rfl rfl (HF.ev rfl) (HF.ev rfl) HS.out 0 rfl (cells_lit [.slice ao ps.length co] rfl rfl) (by kernel_rfl) ?_; clear HS; intro w3 HS; replace HS := Bx.mk HS
   have HS : Bx (St w0 ([boxA b2 1 25 (.agg #[.slice ao ps.length co]), holdsA (rdsP ao ps)]) _) := HS
   refine wl_as HF rfl rfl rfl rfl rfl ?_; clear HF a; intro a HF
   refine wl_as HF rfl rfl rfl rfl rfl ?_; clear HF a; intro a HF
   refine wl_ne ?_
   refine wp_sr ?_
   refine wl_mv HF rfl rfl rfl rfl rfl ?_; clear HF a; intro a HF
   refine wl_call rfl HF rfl (enter_of Try.func9 (by kernel_rfl) rfl) (args := #[.slice am n1 cm]) rfl (drawRaidWrite_any _ am n1 cm bs1 hcap1 (by omega) (hR1.below HS.out.bel)) rfl rfl ?_
   rintro _ w4 ⟨ao2, co2, ps2, row2, t2, rfl, hpl2, hpf2, hra2, hrb2, htz2, hs⟩
   refine ⟨_, rfl, ?_⟩; replace HS := Bx.mk (HS.out.add hs); clear hs HF; clear a; intro a HF
   replace HS : Bx (St w0 ([holdsA (rdsP ao2 ps2), boxA b2 1 25 (.agg #[.slice ao ps.length co]), holdsA (rdsP ao ps)]) _) := ⟨HS.out⟩
   refine wl_mv HF rfl rfl rfl rfl rfl ?_; clear HF a; intro a HF
   refine wl_y rfl HF rfl rfl (yl_extract rfl (HF.ev rfl) rfl) ?_; clear HF a; intro a HF
   refine wl_y rfl HF rfl rfl (yl_extract rfl (HF.ev rfl) rfl) ?_; clear HF a; intro a HF
   refine wl_y rfl HF rfl rfl (yl_extract rfl (HF.ev rfl) rfl) ?_; clear HF a; intro a HF
   refine wl_alloc rfl HF rfl rfl rfl (Z := [.slice none 0 0]) (by kernel_rfl) rfl HS.out ?_; clear HF HS a; intro a w5 b4 HF HS; replace HS := Bx.mk HS
   refine wl_storeBox rfl HF rfl rfl (HF.ev rfl) (HF.ev rfl) HS.out 0 rfl (cells_lit [.slice ao2 ps2.length co2] rfl rfl) (by kernel_rfl) ?_; clear HS; intro w6 HS; replace HS := Bx.mk HS
   have HS : Bx (St w0 ([boxA b4 1 25 (.agg #[.slice ao2 ps2.length co2]), holdsA (rdsP ao2 ps2), boxA b2 1 25 (.agg #[.slice ao ps.length co]), holdsA (rdsP ao ps)]) _) := HS
   refine wl_as HF rfl rfl rfl rfl rfl ?_; clear HF a; intro a HF
   refine wl_as HF rfl rfl rfl rfl rfl ?_; clear HF a; intro a HF
   refine wl_ne ?_
   refine wp_sr ?_
   refine wl_mv HF rfl rfl rfl rfl rfl ?_; clear HF a; intro a HF
   refine wl_call rfl HF rfl (enter_of Try.func22 (by kernel_rfl) rfl) (args := #[.slice am n1 cm]) rfl (drawRaidCrash_any _ am n1 cm bs1 hcap1 (by omega) (hR1.below HS.out.bel)) rfl rfl ?_
   rintro _ w7 ⟨ao3, co3, ps3, ak, nk, ck, xs, at_, nt, ct, ys, rfl, hnk, hnt, hs⟩
   refine ⟨_, rfl, ?_⟩; replace HS := Bx.mk (HS.out.add hs); clear hs HF; clear a; intro a HF
   replace HS : Bx (St w0 ([holdsA (fun w => Rd encI 1 w ak nk xs), holdsA (fun w => Rd encI 1 w at_ nt ys), boxA b4 1 25 (.agg #[.slice ao2 ps2.length co2]), holdsA (rdsP ao2 ps2), boxA b2 1 25 (.agg #[.slice ao ps.length co]), holdsA (rdsP ao ps)]) _) := ⟨HS.out⟩
   refine wl_mv HF rfl rfl rfl rfl rfl ?_; clear HF a; intro a HF
   refine wl_y rfl HF rfl rfl (yl_extract rfl (HF.ev rfl) rfl) ?_; clear HF a; intro a HF
   refine wl_y rfl HF rfl rfl (yl_extract rfl (HF.ev rfl) rfl) ?_; clear HF a; intro a HF
   refine wl_y rfl HF rfl rfl (yl_extract rfl (HF.ev rfl) rfl) ?_; clear HF a; intro a HF
   refine wl_alloc rfl HF rfl rfl rfl (Z := [.slice none 0 0]) (by kernel_rfl) rfl HS.out ?_; clear HF HS a; intro a w8 b5 HF HS; replace HS := Bx.mk HS
   refine wl_storeBox rfl HF rfl rfl (HF.ev rfl) (HF.ev rfl) HS.out 0 rfl (cells_lit [.slice ao3 ps3.length co3] rfl rfl) (by kernel_rfl) ?_; clear HS; intro w9 HS; replace HS := Bx.mk HS
   have HS : Bx (St w0 ([boxA b5 1 25 (.agg #[.slice ao3 ps3.length co3]), holdsA (fun w => Rd encI 1 w ak nk xs), holdsA (fun w => Rd encI 1 w at_ nt ys), boxA b4 1 25 (.agg #[.slice ao2 ps2.length co2]), holdsA (rdsP ao2 ps2), boxA b2 1 25 (.agg #[.slice ao ps.length co]), holdsA (rdsP ao ps)]) _) := HS
   refine wl_as HF rfl rfl rfl rfl rfl ?_; clear HF a; intro a HF
   refine wl_as HF rfl rfl rfl rfl rfl ?_; clear HF a; intro a HF
   refine wl_ne ?_
   refine wp_sr ?_
   refine wl_y rfl HF rfl rfl (yl_loadR (cs := [.slice ao ps.length co]) rfl (HF.ev rfl) ((HS.out.box 5 rfl).sub 0 1) (by kernel_rfl)) ?_; clear HF a; intro a HF
   refine wl_mv HF rfl rfl rfl rfl rfl ?_; clear HF a; intro a HF
   refine wl_mv HF rfl rfl rfl rfl rfl ?_; clear HF a; intro a HF
   refine wl_call rfl HF rfl (enter_of Try.func10 (by kernel_rfl) rfl) (args := #[.agg #[.slice ao ps.length co], .int .i64 row, .string t]) rfl (implRaidWrite_any ao co ps _ (by omega) hpf (HS.out.holds 6 rfl) row t (by omega)) rfl rfl ?_
   rintro _ w10 (⟨hev, rfl, hs⟩ | ⟨ao1, cp1, qs1, hev, rfl, hs⟩)
   ·skip
    refine ⟨_, rfl, ?_⟩; replace HS := Bx.mk (HS.out.add hs); clear hs HF; clear a; intro a HF
    replace HS : Bx (St w0 ([boxA b5 1 25 (.agg #[.slice ao3 ps3.length co3]), holdsA (fun w => Rd encI 1 w ak nk xs), holdsA (fun w => Rd encI 1 w at_ nt ys), boxA b4 1 25 (.agg #[.slice ao2 ps2.length co2]), holdsA (rdsP ao2 ps2), boxA b2 1 25 (.agg #[.slice ao ps.length co]), holdsA (rdsP ao ps)]) _) := ⟨HS.out⟩
    refine wl_mv HF rfl rfl rfl rfl rfl ?_; clear HF a; intro a HF
    refine wl_y rfl HF rfl rfl (yl_extract rfl (HF.ev rfl) rfl) ?_; clear HF a; intro a HF
    refine wl_y rfl HF rfl rfl (yl_extract rfl (HF.ev rfl) rfl) ?_; clear HF a; intro a HF
    refine wl_alloc rfl HF rfl rfl rfl (Z := [.slice none 0 0]) (by kernel_rfl) rfl HS.out ?_; clear HF HS a; intro a w11 b7 HF HS; replace HS := Bx.mk HS
    refine wl_storeBox rfl HF rfl rfl (HF.ev rfl) (HF.ev rfl) HS.out 0 rfl (cells_lit [.slice none 0 0] rfl rfl) (by kernel_rfl) ?_; clear HS; intro w12 HS; replace HS := Bx.mk HS
    have HS : Bx (St w0 ([boxA b7 1 25 (.agg #[.slice none 0 0]), boxA b5 1 25 (.agg #[.slice ao3 ps3.length co3]), holdsA (fun w => Rd encI 1 w ak nk xs), holdsA (fun w => Rd encI 1 w at_ nt ys), boxA b4 1 25 (.agg #[.slice ao2 ps2.length co2]), holdsA (rdsP ao2 ps2), boxA b2 1 25 (.agg #[.slice ao ps.length co]), holdsA (rdsP ao ps)]) _) := HS
    refine wl_as HF rfl rfl rfl rfl rfl ?_; clear HF a; intro a HF
    refine wl_ne ?_
    refine wp_sr ?_
    refine wl_y rfl HF rfl rfl (yl_loadR (cs := [.slice ao ps.length co]) rfl (HF.ev rfl) ((HS.out.box 6 rfl).sub 0 1) (by kernel_rfl)) ?_; clear HF a; intro a HF
    refine wl_mv HF rfl rfl rfl rfl rfl ?_; clear HF a; intro a HF
    refine wl_mv HF rfl rfl rfl rfl rfl ?_; clear HF a; intro a HF
    refine wl_call rfl HF rfl (enter_of Try.func11 (by kernel_rfl) rfl) (args := #[.agg #[.slice ao ps.length co], .int .i64 row, .string t]) rfl (specRaidWrite_any ao co ps _ (by omega) hpf (HS.out.holds 7 rfl) row t (by omega)) rfl rfl ?_
    rintro _ w13 (⟨hev2, rfl, hs⟩ | ⟨ao9, cp9, qs9, hev2, rfl, hs⟩)
    ·skip
     refine ⟨_, rfl, ?_⟩; replace HS := Bx.mk (HS.out.add hs); clear hs HF; clear a; intro a HF
     replace HS : Bx (St w0 ([boxA b7 1 25 (.agg #[.slice none 0 0]), boxA b5 1 25 (.agg #[.slice ao3 ps3.length co3]), holdsA (fun w => Rd encI 1 w ak nk xs), holdsA (fun w => Rd encI 1 w at_ nt ys), boxA b4 1 25 (.agg #[.slice ao2 ps2.length co2]), holdsA (rdsP ao2 ps2), boxA b2 1 25 (.agg #[.slice ao ps.length co]), holdsA (rdsP ao ps)]) _) := ⟨HS.out⟩
     refine wl_mv HF rfl rfl rfl rfl rfl ?_; clear HF a; intro a HF
     refine wl_y rfl HF rfl rfl (yl_extract rfl (HF.ev rfl) rfl) ?_; clear HF a; intro a HF
     refine wl_y rfl HF rfl rfl (yl_extract rfl (HF.ev rfl) rfl) ?_; clear HF a; intro a HF
     refine wl_alloc rfl HF rfl rfl rfl (Z := [.slice none 0 0]) (by kernel_rfl) rfl HS.out ?_; clear HF HS a; intro a w14 b9 HF HS; replace HS := Bx.mk HS
     refine wl_storeBox rfl HF rfl rfl (HF.ev rfl) (HF.ev rfl) HS.out 0 rfl (cells_lit [.slice none 0 0] rfl rfl) (by kernel_rfl) ?_; clear HS; intro w15 HS; replace HS := Bx.mk HS
     have HS : Bx (St w0 ([boxA b9 1 25 (.agg #[.slice none 0 0]), boxA b7 1 25 (.agg #[.slice none 0 0]), boxA b5 1 25 (.agg #[.slice ao3 ps3.length co3]), holdsA (fun w => Rd encI 1 w ak nk xs), holdsA (fun w => Rd encI 1 w at_ nt ys), boxA b4 1 25 (.agg #[.slice ao2 ps2.length co2]), holdsA (rdsP ao2 ps2), boxA b2 1 25 (.agg #[.slice ao ps.length co]), holdsA (rdsP ao ps)]) _) := HS
     refine wl_as HF rfl rfl rfl rfl rfl ?_; clear HF a; intro a HF
     refine wl_ne ?_
     refine wp_seq ?_
     refine wp_sr ?_
     refine wl_mv HF rfl rfl rfl rfl rfl ?_; clear HF a; intro a HF
     refine wl_mv HF rfl rfl rfl rfl rfl ?_; clear HF a; intro a HF
     refine wl_y rfl HF rfl rfl (yl_neqBs rfl (HF.ev rfl) (HF.ev rfl) (by kernel_rfl)) ?_; clear HF a; intro a HF
     refine wl_mv HF rfl rfl rfl rfl rfl ?_; clear HF a; intro a HF
     refine wl_yg HF rfl rfl rfl rfl rfl (yl_loadR (cs := [.slice none 0 0]) rfl (HF.ev rfl) ((HS.out.box 1 rfl).sub 0 1) (by kernel_rfl)) ?_; clear HF a; intro a HF
     refine wl_yg HF rfl rfl rfl rfl rfl (yl_loadR (cs := [.slice none 0 0]) rfl (HF.ev rfl) ((HS.out.box 0 rfl).sub 0 1) (by kernel_rfl)) ?_; clear HF a; intro a HF
     refine wl_callBg HF rfl rfl rfl rfl (enter_of Try.func12 (by kernel_rfl) rfl) (args := #[.agg #[.slice none 0 0], .agg #[.slice none 0 0]]) rfl (v := .bool true) ((pfRaid_yes none none 0 0 0 [] [] rfl rfl _ (by decide) fitsL_nil (rds_nil _) (rds_nil _))) rfl rfl HS.out ?_; clear HF HS a; intro w16 a HS HF; replace HS := Bx.mk HS
     refine wl_yg HF rfl rfl rfl rfl rfl (yl_not rfl (HF.ev rfl)) ?_; clear HF a; intro a HF
     refine wl_y rfl HF rfl rfl (yl_pick_f rfl (HF.ev rfl) (HF.ev rfl)) ?_; clear HF a; intro a HF
     refine wl_mv HF rfl rfl rfl rfl rfl ?_; clear HF a; intro a HF
     refine wl_yg HF rfl rfl rfl rfl rfl (yl_move rfl (HF.ev rfl)) ?_; clear HF a; intro a HF
     refine wl_yg HF rfl rfl rfl rfl rfl (yl_not rfl (HF.ev rfl)) ?_; clear HF a; intro a HF
     refine wl_y rfl HF rfl rfl (yl_pick_f rfl (HF.ev rfl) (HF.ev rfl)) ?_; clear HF a; intro a HF
     refine wl_mv HF rfl rfl rfl rfl rfl ?_; clear HF a; intro a HF
     refine wl_skip HF rfl rfl rfl rfl rfl rfl ?_; clear HF a; intro a HF
     refine wl_skip HF rfl rfl rfl rfl rfl rfl ?_; clear HF a; intro a HF
     refine wl_skip HF rfl rfl rfl rfl rfl rfl ?_; clear HF a; intro a HF
     refine wl_y rfl HF rfl rfl (yl_pick_t rfl (HF.ev rfl) (HF.ev rfl)) ?_; clear HF a; intro a HF
     refine wl_mv HF rfl rfl rfl rfl rfl ?_; clear HF a; intro a HF
     refine wl_skip HF rfl rfl rfl rfl rfl rfl ?_; clear HF a; intro a HF
     refine wl_skip HF rfl rfl rfl rfl rfl rfl ?_; clear HF a; intro a HF
     refine wl_skip HF rfl rfl rfl rfl rfl rfl ?_; clear HF a; intro a HF
     refine wl_y rfl HF rfl rfl (yl_pick_t rfl (HF.ev rfl) (HF.ev rfl)) ?_; clear HF a; intro a HF
     refine wl_ne ?_
     refine wc_true HF rfl ?_
     refine wp_sr ?_
     refine wl_mv HF rfl rfl rfl rfl rfl ?_; clear HF a; intro a HF
     refine wl_mv HF rfl rfl rfl rfl rfl ?_; clear HF a; intro a HF
     refine wl_y rfl HF rfl rfl (yl_eqlBs rfl (HF.ev rfl) (HF.ev rfl) (by kernel_rfl)) ?_; clear HF a; intro a HF
     refine wl_mv HF rfl rfl rfl rfl rfl ?_; clear HF a; intro a HF
     refine wl_yg HF rfl rfl rfl rfl rfl (yl_loadR (cs := [.slice none 0 0]) rfl (HF.ev rfl) ((HS.out.box 1 rfl).sub 0 1) (by kernel_rfl)) ?_; clear HF a; intro a HF
     refine wl_yg HF rfl rfl rfl rfl rfl (yl_loadR (cs := [.slice none 0 0]) rfl (HF.ev rfl) ((HS.out.box 0 rfl).sub 0 1) (by kernel_rfl)) ?_; clear HF a; intro a HF
     refine wl_callBg HF rfl rfl rfl rfl (enter_of Try.func12 (by kernel_rfl) rfl) (args := #[.agg #[.slice none 0 0], .agg #[.slice none 0 0]]) rfl (v := .bool true) ((pfRaid_yes none none 0 0 0 [] [] rfl rfl _ (by decide) fitsL_nil (rds_nil _) (rds_nil _))) rfl rfl HS.out ?_; clear HF HS a; intro w17 a HS HF; replace HS := Bx.mk HS
     refine wl_y rfl HF rfl rfl (yl_pick_t rfl (HF.ev rfl) (HF.ev rfl)) ?_; clear HF a; intro a HF
     refine wl_as HF rfl rfl rfl rfl rfl ?_; clear HF a; intro a HF
     refine wl_ne ?_
     refine wp_ret ?_
     refine ex_then_ret ?_
     refine bp_ret1 HF Try.results5 (HF.res rfl) ?_
     exact ⟨rfl, HS.out.bel⟩
    ·skip
     exact absurd (hev2.symm.trans hev) (by simp)
   ·skip
    obtain ⟨k1, k2, k3, k4, k5, k6, k7, k8, k9⟩ := write_cols hev; rw [dsOf_len] at k5 k6; have hf1 : fitsL qs1 := okR_fits k4
    have hrb := inB_bounds k2; have HSx := HS; have HFx := hs; obtain ⟨m, rfl⟩ : ∃ m : Nat, row = (m : Int) := ⟨row.toNat, by omega⟩; have hsb := inB_bounds k3; have HS := HSx; have hs := HFx; clear HSx HFx
    refine ⟨_, rfl, ?_⟩; replace HS := Bx.mk (HS.out.add (raid_holdG rfl hs)); clear hs HF; clear a; intro a HF
    replace HS : Bx (St w0 ([holdsA (rdsP ao1 qs1), boxA b5 1 25 (.agg #[.slice ao3 ps3.length co3]), holdsA (fun w => Rd encI 1 w ak nk xs), holdsA (fun w => Rd encI 1 w at_ nt ys), boxA b4 1 25 (.agg #[.slice ao2 ps2.length co2]), holdsA (rdsP ao2 ps2), boxA b2 1 25 (.agg #[.slice ao ps.length co]), holdsA (rdsP ao ps)]) _) := ⟨HS.out⟩
    refine wl_mv HF rfl rfl rfl rfl rfl ?_; clear HF a; intro a HF
    refine wl_y rfl HF rfl rfl (yl_extract rfl (HF.ev rfl) rfl) ?_; clear HF a; intro a HF
    refine wl_y rfl HF rfl rfl (yl_extract rfl (HF.ev rfl) rfl) ?_; clear HF a; intro a HF
    refine wl_alloc rfl HF rfl rfl rfl (Z := [.slice none 0 0]) (by kernel_rfl) rfl HS.out ?_; clear HF HS a; intro a w18 b10 HF HS; replace HS := Bx.mk HS
    refine wl_storeBox rfl HF rfl rfl (HF.ev rfl) (HF.ev rfl) HS.out 0 rfl (cells_lit [.slice ao1 qs1.length cp1] rfl rfl) (by kernel_rfl) ?_; clear HS; intro w19 HS; replace HS := Bx.mk HS
    have HS : Bx (St w0 ([boxA b10 1 25 (.agg #[.slice ao1 qs1.length cp1]), holdsA (rdsP ao1 qs1), boxA b5 1 25 (.agg #[.slice ao3 ps3.length co3]), holdsA (fun w => Rd encI 1 w ak nk xs), holdsA (fun w => Rd encI 1 w at_ nt ys), boxA b4 1 25 (.agg #[.slice ao2 ps2.length co2]), holdsA (rdsP ao2 ps2), boxA b2 1 25 (.agg #[.slice ao ps.length co]), holdsA (rdsP ao ps)]) _) := HS
    refine wl_as HF rfl rfl rfl rfl rfl ?_; clear HF a; intro a HF
    refine wl_ne ?_
    refine wp_sr ?_
    refine wl_y rfl HF rfl rfl (yl_loadR (cs := [.slice ao ps.length co]) rfl (HF.ev rfl) ((HS.out.box 7 rfl).sub 0 1) (by kernel_rfl)) ?_; clear HF a; intro a HF
    refine wl_mv HF rfl rfl rfl rfl rfl ?_; clear HF a; intro a HF
    refine wl_mv HF rfl rfl rfl rfl rfl ?_; clear HF a; intro a HF
    refine wl_call rfl HF rfl (enter_of Try.func11 (by kernel_rfl) rfl) (args := #[.agg #[.slice ao ps.length co], .int .i64 (m : Int), .string t]) rfl (specRaidWrite_any ao co ps _ (by omega) hpf (HS.out.holds 8 rfl) (m : Int) t (by omega)) rfl rfl ?_
    rintro _ w20 (⟨hev2, rfl, hs⟩ | ⟨ao9, cp9, qs9, hev2, rfl, hs⟩)
    ·skip
     exact absurd (hev2.symm.trans hev) (by simp)
    ·skip
     have hq9 : dsOf qs9 = dsOf qs1 := Option.some.inj (hev2.symm.trans hev)
     refine ⟨_, rfl, ?_⟩; replace HS := Bx.mk (HS.out.add (raid_holdG rfl hs)); clear hs HF; clear a; intro a HF
     replace HS : Bx (St w0 ([holdsA (rdsP ao9 qs9), boxA b10 1 25 (.agg #[.slice ao1 qs1.length cp1]), holdsA (rdsP ao1 qs1), boxA b5 1 25 (.agg #[.slice ao3 ps3.length co3]), holdsA (fun w => Rd encI 1 w ak nk xs), holdsA (fun w => Rd encI 1 w at_ nt ys), boxA b4 1 25 (.agg #[.slice ao2 ps2.length co2]), holdsA (rdsP ao2 ps2), boxA b2 1 25 (.agg #[.slice ao ps.length co]), holdsA (rdsP ao ps)]) _) := ⟨HS.out⟩
     refine wl_mv HF rfl rfl rfl rfl rfl ?_; clear HF a; intro a HF
     refine wl_y rfl HF rfl rfl (yl_extract rfl (HF.ev rfl) rfl) ?_; clear HF a; intro a HF
     refine wl_y rfl HF rfl rfl (yl_extract rfl (HF.ev rfl) rfl) ?_; clear HF a; intro a HF
     refine wl_alloc rfl HF rfl rfl rfl (Z := [.slice none 0 0]) (by kernel_rfl) rfl HS.out ?_; clear HF HS a; intro a w21 b12 HF HS; replace HS := Bx.mk HS
     refine wl_storeBox rfl HF rfl rfl (HF.ev rfl) (HF.ev rfl) HS.out 0 rfl (cells_lit [.slice ao9 qs9.length cp9] rfl rfl) (by kernel_rfl) ?_; clear HS; intro w22 HS; replace HS := Bx.mk HS
     have HS : Bx (St w0 ([boxA b12 1 25 (.agg #[.slice ao9 qs9.length cp9]), holdsA (rdsP ao9 qs9), boxA b10 1 25 (.agg #[.slice ao1 qs1.length cp1]), holdsA (rdsP ao1 qs1), boxA b5 1 25 (.agg #[.slice ao3 ps3.length co3]), holdsA (fun w => Rd encI 1 w ak nk xs), holdsA (fun w => Rd encI 1 w at_ nt ys), boxA b4 1 25 (.agg #[.slice ao2 ps2.length co2]), holdsA (rdsP ao2 ps2), boxA b2 1 25 (.agg #[.slice ao ps.length co]), holdsA (rdsP ao ps)]) _) := HS
     refine wl_as HF rfl rfl rfl rfl rfl ?_; clear HF a; intro a HF
     refine wl_ne ?_
     refine wp_seq ?_
     refine wp_sr ?_
     refine wl_mv HF rfl rfl rfl rfl rfl ?_; clear HF a; intro a HF
     refine wl_mv HF rfl rfl rfl rfl rfl ?_; clear HF a; intro a HF
     refine wl_y rfl HF rfl rfl (yl_neqBs rfl (HF.ev rfl) (HF.ev rfl) (by kernel_rfl)) ?_; clear HF a; intro a HF
     refine wl_mv HF rfl rfl rfl rfl rfl ?_; clear HF a; intro a HF
     refine wl_yg HF rfl rfl rfl rfl rfl (yl_loadR (cs := [.slice ao1 qs1.length cp1]) rfl (HF.ev rfl) ((HS.out.box 2 rfl).sub 0 1) (by kernel_rfl)) ?_; clear HF a; intro a HF
     refine wl_yg HF rfl rfl rfl rfl rfl (yl_loadR (cs := [.slice ao9 qs9.length cp9]) rfl (HF.ev rfl) ((HS.out.box 0 rfl).sub 0 1) (by kernel_rfl)) ?_; clear HF a; intro a HF
     refine wl_callBg HF rfl rfl rfl rfl (enter_of Try.func12 (by kernel_rfl) rfl) (args := #[.agg #[.slice ao1 qs1.length cp1], .agg #[.slice ao9 qs9.length cp9]]) rfl (v := .bool true) ((pfRaid_yes ao1 ao9 cp1 cp9 _ qs1 qs9 rfl hq9 _ (by omega) hf1 (HS.out.holds 3 rfl) (HS.out.holds 1 rfl))) rfl rfl HS.out ?_; clear HF HS a; intro w23 a HS HF; replace HS := Bx.mk HS
     refine wl_yg HF rfl rfl rfl rfl rfl (yl_not rfl (HF.ev rfl)) ?_; clear HF a; intro a HF
     refine wl_y rfl HF rfl rfl (yl_pick_f rfl (HF.ev rfl) (HF.ev rfl)) ?_; clear HF a; intro a HF
     refine wl_mv HF rfl rfl rfl rfl rfl ?_; clear HF a; intro a HF
     refine wl_yg HF rfl rfl rfl rfl rfl (yl_move rfl (HF.ev rfl)) ?_; clear HF a; intro a HF
     refine wl_yg HF rfl rfl rfl rfl rfl (yl_not rfl (HF.ev rfl)) ?_; clear HF a; intro a HF
     refine wl_y rfl HF rfl rfl (yl_pick_f rfl (HF.ev rfl) (HF.ev rfl)) ?_; clear HF a; intro a HF
     refine wl_mv HF rfl rfl rfl rfl rfl ?_; clear HF a; intro a HF
     refine wl_yg HF rfl rfl rfl rfl rfl (yl_loadR (cs := [.slice ao ps.length co]) rfl (HF.ev rfl) ((HS.out.box 9 rfl).sub 0 1) (by kernel_rfl)) ?_; clear HF a; intro a HF
     refine wl_callBg HF rfl rfl rfl rfl (enter_of Try.func13 (by kernel_rfl) rfl) (args := #[.agg #[.slice ao ps.length co]]) rfl (v := .int .i64 (lostN (dsOf ps) 3 : Int)) ((pfLost_three ao co ps _ k5 (HS.out.holds 10 rfl))) rfl rfl HS.out ?_; clear HF HS a; intro w24 a HS HF; replace HS := Bx.mk HS
     refine wl_yg HF rfl rfl rfl rfl rfl (yl_gtrI rfl (HF.ev rfl) (HF.ev rfl)) ?_; clear HF a; intro a HF
     refine wl_y rfl HF rfl rfl (yl_pick_f rfl (HF.ev rfl) (HF.ev rfl)) ?_; clear HF a; intro a HF
     refine wl_mv HF rfl rfl rfl rfl rfl ?_; clear HF a; intro a HF
     refine HF.cases 83 rfl (fun cc3 HF1 => ?_) (fun cc3 HF1 => ?_)
     ·clear HF; have HF := HF1; clear HF1
      have dcc3 := of_decide_eq_true cc3
      refine wl_skip HF rfl rfl rfl rfl rfl rfl ?_; clear HF a; intro a HF
      refine wl_skip HF rfl rfl rfl rfl rfl rfl ?_; clear HF a; intro a HF
      refine wl_skip HF rfl rfl rfl rfl rfl rfl ?_; clear HF a; intro a HF
      refine wl_y rfl HF rfl rfl (yl_pick_t rfl (HF.ev rfl) (HF.ev rfl)) ?_; clear HF a; intro a HF
      refine wl_ne ?_
      refine wc_true HF rfl ?_
      refine wp_sr ?_
      refine wl_mv HF rfl rfl rfl rfl rfl ?_; clear HF a; intro a HF
      refine wl_mv HF rfl rfl rfl rfl rfl ?_; clear HF a; intro a HF
      refine wl_y rfl HF rfl rfl (yl_eqlBs rfl (HF.ev rfl) (HF.ev rfl) (by kernel_rfl)) ?_; clear HF a; intro a HF
      refine wl_mv HF rfl rfl rfl rfl rfl ?_; clear HF a; intro a HF
      refine wl_yg HF rfl rfl rfl rfl rfl (yl_loadR (cs := [.slice ao1 qs1.length cp1]) rfl (HF.ev rfl) ((HS.out.box 2 rfl).sub 0 1) (by kernel_rfl)) ?_; clear HF a; intro a HF
      refine wl_yg HF rfl rfl rfl rfl rfl (yl_loadR (cs := [.slice ao9 qs9.length cp9]) rfl (HF.ev rfl) ((HS.out.box 0 rfl).sub 0 1) (by kernel_rfl)) ?_; clear HF a; intro a HF
      refine wl_callBg HF rfl rfl rfl rfl (enter_of Try.func12 (by kernel_rfl) rfl) (args := #[.agg #[.slice ao1 qs1.length cp1], .agg #[.slice ao9 qs9.length cp9]]) rfl (v := .bool true) ((pfRaid_yes ao1 ao9 cp1 cp9 _ qs1 qs9 rfl hq9 _ (by omega) hf1 (HS.out.holds 3 rfl) (HS.out.holds 1 rfl))) rfl rfl HS.out ?_; clear HF HS a; intro w25 a HS HF; replace HS := Bx.mk HS
      refine wl_y rfl HF rfl rfl (yl_pick_t rfl (HF.ev rfl) (HF.ev rfl)) ?_; clear HF a; intro a HF
      refine wl_as HF rfl rfl rfl rfl rfl ?_; clear HF a; intro a HF
      refine wl_ne ?_
      refine wp_ret ?_
      refine ex_then_ret ?_
      refine bp_ret1 HF Try.results5 (HF.res rfl) ?_
      exact ⟨rfl, HS.out.bel⟩
     ·clear HF; have HF := HF1; clear HF1
      have dcc3 := of_decide_eq_false cc3
      refine wl_yg HF rfl rfl rfl rfl rfl (yl_move rfl (HF.ev rfl)) ?_; clear HF a; intro a HF
      refine wl_yg HF rfl rfl rfl rfl rfl (yl_move rfl (HF.ev rfl)) ?_; clear HF a; intro a HF
      refine wl_yg HF rfl rfl rfl rfl rfl (yl_eqlI rfl (HF.ev rfl) (HF.ev rfl)) ?_; clear HF a; intro a HF
      refine wl_y rfl HF rfl rfl (yl_pick_f rfl (HF.ev rfl) (HF.ev rfl)) ?_; clear HF a; intro a HF
      refine wl_ne ?_
      refine HF.cases 87 rfl (fun cc4 HF1 => ?_) (fun cc4 HF1 => ?_)
      ·clear HF; have HF := HF1; clear HF1
       have dcc4 := eq_of_beq cc4
       refine wc_true HF rfl ?_
       refine wp_sr ?_
       refine wl_mv HF rfl rfl rfl rfl rfl ?_; clear HF a; intro a HF
       refine wl_mv HF rfl rfl rfl rfl rfl ?_; clear HF a; intro a HF
       refine wl_y rfl HF rfl rfl (yl_eqlBs rfl (HF.ev rfl) (HF.ev rfl) (by kernel_rfl)) ?_; clear HF a; intro a HF
       refine wl_mv HF rfl rfl rfl rfl rfl ?_; clear HF a; intro a HF
       refine wl_yg HF rfl rfl rfl rfl rfl (yl_loadR (cs := [.slice ao1 qs1.length cp1]) rfl (HF.ev rfl) ((HS.out.box 2 rfl).sub 0 1) (by kernel_rfl)) ?_; clear HF a; intro a HF
       refine wl_yg HF rfl rfl rfl rfl rfl (yl_loadR (cs := [.slice ao9 qs9.length cp9]) rfl (HF.ev rfl) ((HS.out.box 0 rfl).sub 0 1) (by kernel_rfl)) ?_; clear HF a; intro a HF
       refine wl_callBg HF rfl rfl rfl rfl (enter_of Try.func12 (by kernel_rfl) rfl) (args := #[.agg #[.slice ao1 qs1.length cp1], .agg #[.slice ao9 qs9.length cp9]]) rfl (v := .bool true) ((pfRaid_yes ao1 ao9 cp1 cp9 _ qs1 qs9 rfl hq9 _ (by omega) hf1 (HS.out.holds 3 rfl) (HS.out.holds 1 rfl))) rfl rfl HS.out ?_; clear HF HS a; intro w26 a HS HF; replace HS := Bx.mk HS
       refine wl_y rfl HF rfl rfl (yl_pick_t rfl (HF.ev rfl) (HF.ev rfl)) ?_; clear HF a; intro a HF
       refine wl_as HF rfl rfl rfl rfl rfl ?_; clear HF a; intro a HF
       refine wl_ne ?_
       refine wp_ret ?_
       refine ex_then_ret ?_
       refine bp_ret1 HF Try.results5 (HF.res rfl) ?_
       exact ⟨rfl, HS.out.bel⟩
      ·clear HF; have HF := HF1; clear HF1
       have dcc4 := ne_of_beq_false cc4
       refine wc_false HF rfl ?_
       refine wp_skip ?_
       refine ex_then ?_
       refine wp_sr ?_
       refine wl_y rfl HF rfl rfl (yl_loadR (cs := [.slice ao1 qs1.length cp1]) rfl (HF.ev rfl) ((HS.out.box 2 rfl).sub 0 1) (by kernel_rfl)) ?_; clear HF a; intro a HF
       refine wl_call rfl HF rfl (enter_of Try.func15 (by kernel_rfl) rfl) (args := #[.agg #[.slice ao1 qs1.length cp1]]) rfl (raidFlush_any ao1 cp1 qs1 _ (by omega) hf1 (HS.out.holds 3 rfl) k4) rfl rfl ?_
       rintro _ w27 ⟨ao2f, cp2f, qs2, hq2, rfl, hs⟩
       have hok2 : okR (dsOf qs2) = true := by rw [hq2]; exact okR_flush k4
       have hf2 : fitsL qs2 := okR_fits hok2; have hl2 : qs2.length = 3 := by rw [← dsOf_len]; exact (okR_at hok2).1
       refine ⟨_, rfl, ?_⟩; replace HS := Bx.mk (HS.out.add (raid_holdG rfl hs)); clear hs HF; clear a; intro a HF
       replace HS : Bx (St w0 ([holdsA (rdsP ao2f qs2), boxA b12 1 25 (.agg #[.slice ao9 qs9.length cp9]), holdsA (rdsP ao9 qs9), boxA b10 1 25 (.agg #[.slice ao1 qs1.length cp1]), holdsA (rdsP ao1 qs1), boxA b5 1 25 (.agg #[.slice ao3 ps3.length co3]), holdsA (fun w => Rd encI 1 w ak nk xs), holdsA (fun w => Rd encI 1 w at_ nt ys), boxA b4 1 25 (.agg #[.slice ao2 ps2.length co2]), holdsA (rdsP ao2 ps2), boxA b2 1 25 (.agg #[.slice ao ps.length co]), holdsA (rdsP ao ps)]) _) := ⟨HS.out⟩
       refine wl_mv HF rfl rfl rfl rfl rfl ?_; clear HF a; intro a HF
       refine wl_mv HF rfl rfl rfl rfl rfl ?_; clear HF a; intro a HF
       refine wl_call rfl HF rfl (enter_of Try.func10 (by kernel_rfl) rfl) (args := #[.agg #[.slice ao2f qs2.length cp2f], .int .i64 row2, .string t2]) rfl (implRaidWrite_any ao2f cp2f qs2 _ (by omega) hf2 (HS.out.holds 0 rfl) row2 t2 (by omega)) rfl rfl ?_
       rintro _ w28 (⟨hev3, rfl, hs⟩ | ⟨ao8, cp8, qs8, hev3, rfl, hs⟩)
       ·skip
        refine ⟨_, rfl, ?_⟩; replace HS := Bx.mk (HS.out.add hs); clear hs HF; clear a; intro a HF
        replace HS : Bx (St w0 ([holdsA (rdsP ao2f qs2), boxA b12 1 25 (.agg #[.slice ao9 qs9.length cp9]), holdsA (rdsP ao9 qs9), boxA b10 1 25 (.agg #[.slice ao1 qs1.length cp1]), holdsA (rdsP ao1 qs1), boxA b5 1 25 (.agg #[.slice ao3 ps3.length co3]), holdsA (fun w => Rd encI 1 w ak nk xs), holdsA (fun w => Rd encI 1 w at_ nt ys), boxA b4 1 25 (.agg #[.slice ao2 ps2.length co2]), holdsA (rdsP ao2 ps2), boxA b2 1 25 (.agg #[.slice ao ps.length co]), holdsA (rdsP ao ps)]) _) := ⟨HS.out⟩
        refine wl_mv HF rfl rfl rfl rfl rfl ?_; clear HF a; intro a HF
        refine wl_y rfl HF rfl rfl (yl_extract rfl (HF.ev rfl) rfl) ?_; clear HF a; intro a HF
        refine wl_y rfl HF rfl rfl (yl_extract rfl (HF.ev rfl) rfl) ?_; clear HF a; intro a HF
        refine wl_alloc rfl HF rfl rfl rfl (Z := [.slice none 0 0]) (by kernel_rfl) rfl HS.out ?_; clear HF HS a; intro a w29 b15 HF HS; replace HS := Bx.mk HS
        refine wl_storeBox rfl HF rfl rfl (HF.ev rfl) (HF.ev rfl) HS.out 0 rfl (cells_lit [.slice none 0 0] rfl rfl) (by kernel_rfl) ?_; clear HS; intro w30 HS; replace HS := Bx.mk HS
        have HS : Bx (St w0 ([boxA b15 1 25 (.agg #[.slice none 0 0]), holdsA (rdsP ao2f qs2), boxA b12 1 25 (.agg #[.slice ao9 qs9.length cp9]), holdsA (rdsP ao9 qs9), boxA b10 1 25 (.agg #[.slice ao1 qs1.length cp1]), holdsA (rdsP ao1 qs1), boxA b5 1 25 (.agg #[.slice ao3 ps3.length co3]), holdsA (fun w => Rd encI 1 w ak nk xs), holdsA (fun w => Rd encI 1 w at_ nt ys), boxA b4 1 25 (.agg #[.slice ao2 ps2.length co2]), holdsA (rdsP ao2 ps2), boxA b2 1 25 (.agg #[.slice ao ps.length co]), holdsA (rdsP ao ps)]) _) := HS
        refine wl_as HF rfl rfl rfl rfl rfl ?_; clear HF a; intro a HF
        refine wl_ne ?_
        refine wp_sr ?_
        refine wl_y rfl HF rfl rfl (yl_loadR (cs := [.slice none 0 0]) rfl (HF.ev rfl) ((HS.out.box 0 rfl).sub 0 1) (by kernel_rfl)) ?_; clear HF a; intro a HF
        refine wl_mv HF rfl rfl rfl rfl rfl ?_; clear HF a; intro a HF
        refine wl_mv HF rfl rfl rfl rfl rfl ?_; clear HF a; intro a HF
        refine wl_call rfl HF rfl (enter_of Try.func23 (by kernel_rfl) rfl) (args := #[.agg #[.slice none 0 0], .slice ak nk ck, .slice at_ nt ct]) rfl (raidCrash_any none 0 ([] : List HD) _ (by decide) fitsL_nil (rds_nil _) ak nk ck xs at_ nt ct ys hnk hnt (HS.out.holds 7 rfl) (HS.out.holds 8 rfl)) rfl rfl ?_
        rintro _ w31 (⟨rfl, hb⟩ | ⟨hko, ao6, cp6, zs, hz, rfl, hs⟩)
        ·skip
         refine ⟨_, rfl, ?_⟩; replace HS := Bx.mk (HS.out.later hb); clear hb HF; clear a; intro a HF
         replace HS : Bx (St w0 ([boxA b15 1 25 (.agg #[.slice none 0 0]), holdsA (rdsP ao2f qs2), boxA b12 1 25 (.agg #[.slice ao9 qs9.length cp9]), holdsA (rdsP ao9 qs9), boxA b10 1 25 (.agg #[.slice ao1 qs1.length cp1]), holdsA (rdsP ao1 qs1), boxA b5 1 25 (.agg #[.slice ao3 ps3.length co3]), holdsA (fun w => Rd encI 1 w ak nk xs), holdsA (fun w => Rd encI 1 w at_ nt ys), boxA b4 1 25 (.agg #[.slice ao2 ps2.length co2]), holdsA (rdsP ao2 ps2), boxA b2 1 25 (.agg #[.slice ao ps.length co]), holdsA (rdsP ao ps)]) _) := ⟨HS.out⟩
         refine wl_alloc rfl HF rfl rfl rfl (Z := [.slice none 0 0]) (by kernel_rfl) rfl HS.out ?_; clear HF HS a; intro a w32 b17 HF HS; replace HS := Bx.mk HS
         refine wl_storeBox rfl HF rfl rfl (HF.ev rfl) (HF.ev rfl) HS.out 0 rfl (cells_lit [.slice none 0 0] rfl rfl) (by kernel_rfl) ?_; clear HS; intro w33 HS; replace HS := Bx.mk HS
         have HS : Bx (St w0 ([boxA b17 1 25 (.agg #[.slice none 0 0]), boxA b15 1 25 (.agg #[.slice none 0 0]), holdsA (rdsP ao2f qs2), boxA b12 1 25 (.agg #[.slice ao9 qs9.length cp9]), holdsA (rdsP ao9 qs9), boxA b10 1 25 (.agg #[.slice ao1 qs1.length cp1]), holdsA (rdsP ao1 qs1), boxA b5 1 25 (.agg #[.slice ao3 ps3.length co3]), holdsA (fun w => Rd encI 1 w ak nk xs), holdsA (fun w => Rd encI 1 w at_ nt ys), boxA b4 1 25 (.agg #[.slice ao2 ps2.length co2]), holdsA (rdsP ao2 ps2), boxA b2 1 25 (.agg #[.slice ao ps.length co]), holdsA (rdsP ao ps)]) _) := HS
         refine wl_ne ?_
         refine wp_sr ?_
         refine wl_mv HF rfl rfl rfl rfl rfl ?_; clear HF a; intro a HF
         refine wl_mv HF rfl rfl rfl rfl rfl ?_; clear HF a; intro a HF
         refine wl_callB rfl HF rfl (enter_of Try.func14 (by kernel_rfl) rfl) (args := #[.int .i64 (m : Int), .int .i64 1, .int .i64 0, .string t]) rfl (v := .tuple #[.agg #[.int .i64 ((ptrOf (m : Int) 1 0 t).fAt), .int .i64 ((ptrOf (m : Int) 1 0 t).fBirth), .int .i64 ((ptrOf (m : Int) 1 0 t).fSize), .int .i64 ((ptrOf (m : Int) 1 0 t).fSum), .int .i64 ((ptrOf (m : Int) 1 0 t).fLevel)], .bool (ptrOk (m : Int) 1 0 t)]) ((ptrOfI_any (m : Int) 1 0 t _ (by omega))) rfl rfl HS.out ?_; clear HF HS a; intro w34 a HS HF; replace HS := Bx.mk HS
         refine wl_mv HF rfl rfl rfl rfl rfl ?_; clear HF a; intro a HF
         refine wl_y rfl HF rfl rfl (yl_extract rfl (HF.ev rfl) rfl) ?_; clear HF a; intro a HF
         refine wl_y rfl HF rfl rfl (yl_extract rfl (HF.ev rfl) rfl) ?_; clear HF a; intro a HF
         refine wl_alloc rfl HF rfl rfl rfl (Z := [.int .i64 0, .int .i64 0, .int .i64 0, .int .i64 0, .int .i64 0]) (by kernel_rfl) rfl HS.out ?_; clear HF HS a; intro a w35 b18 HF HS; replace HS := Bx.mk HS
         refine wl_storeBox rfl HF rfl rfl (HF.ev rfl) (HF.ev rfl) HS.out 0 rfl (cells_lit [.int .i64 ((ptrOf (m : Int) 1 0 t).fAt), .int .i64 ((ptrOf (m : Int) 1 0 t).fBirth), .int .i64 ((ptrOf (m : Int) 1 0 t).fSize), .int .i64 ((ptrOf (m : Int) 1 0 t).fSum), .int .i64 ((ptrOf (m : Int) 1 0 t).fLevel)] rfl rfl) (by kernel_rfl) ?_; clear HS; intro w36 HS; replace HS := Bx.mk HS
         have HS : Bx (St w0 ([boxA b18 5 33 (.agg #[.int .i64 ((ptrOf (m : Int) 1 0 t).fAt), .int .i64 ((ptrOf (m : Int) 1 0 t).fBirth), .int .i64 ((ptrOf (m : Int) 1 0 t).fSize), .int .i64 ((ptrOf (m : Int) 1 0 t).fSum), .int .i64 ((ptrOf (m : Int) 1 0 t).fLevel)]), boxA b17 1 25 (.agg #[.slice none 0 0]), boxA b15 1 25 (.agg #[.slice none 0 0]), holdsA (rdsP ao2f qs2), boxA b12 1 25 (.agg #[.slice ao9 qs9.length cp9]), holdsA (rdsP ao9 qs9), boxA b10 1 25 (.agg #[.slice ao1 qs1.length cp1]), holdsA (rdsP ao1 qs1), boxA b5 1 25 (.agg #[.slice ao3 ps3.length co3]), holdsA (fun w => Rd encI 1 w ak nk xs), holdsA (fun w => Rd encI 1 w at_ nt ys), boxA b4 1 25 (.agg #[.slice ao2 ps2.length co2]), holdsA (rdsP ao2 ps2), boxA b2 1 25 (.agg #[.slice ao ps.length co]), holdsA (rdsP ao ps)]) _) := HS
         refine wl_as HF rfl rfl rfl rfl rfl ?_; clear HF a; intro a HF
         refine wl_ne ?_
         refine wp_sr ?_
         refine wl_y rfl HF rfl rfl (yl_loadR (cs := [.slice none 0 0]) rfl (HF.ev rfl) ((HS.out.box 1 rfl).sub 0 1) (by kernel_rfl)) ?_; clear HF a; intro a HF
         refine wl_y rfl HF rfl rfl (yl_loadR (cs := [.int .i64 ((ptrOf (m : Int) 1 0 t).fAt), .int .i64 ((ptrOf (m : Int) 1 0 t).fBirth), .int .i64 ((ptrOf (m : Int) 1 0 t).fSize), .int .i64 ((ptrOf (m : Int) 1 0 t).fSum), .int .i64 ((ptrOf (m : Int) 1 0 t).fLevel)]) rfl (HF.ev rfl) ((HS.out.box 0 rfl).sub 0 5) (by kernel_rfl)) ?_; clear HF a; intro a HF
         refine wl_callB rfl HF rfl (enter_of Try.func16 (by kernel_rfl) rfl) (args := #[.agg #[.slice none 0 0], .agg #[.int .i64 ((ptrOf (m : Int) 1 0 t).fAt), .int .i64 ((ptrOf (m : Int) 1 0 t).fBirth), .int .i64 ((ptrOf (m : Int) 1 0 t).fSize), .int .i64 ((ptrOf (m : Int) 1 0 t).fSum), .int .i64 ((ptrOf (m : Int) 1 0 t).fLevel)]]) rfl (v := .tuple #[.string ((readR (dsOf []) (ptrOf (m : Int) 1 0 t)).1), .bool ((readR (dsOf []) (ptrOf (m : Int) 1 0 t)).2)]) ((implRaidRead_any none 0 [] _ (by decide) fitsL_nil.at (rds_nil _).1 (rds_nil _).at (ptrOf (m : Int) 1 0 t))) rfl rfl HS.out ?_; clear HF HS a; intro w37 a HS HF; replace HS := Bx.mk HS
         refine wl_mv HF rfl rfl rfl rfl rfl ?_; clear HF a; intro a HF
         refine wl_y rfl HF rfl rfl (yl_extract rfl (HF.ev rfl) rfl) ?_; clear HF a; intro a HF
         refine wl_y rfl HF rfl rfl (yl_extract rfl (HF.ev rfl) rfl) ?_; clear HF a; intro a HF
         refine wl_as HF rfl rfl rfl rfl rfl ?_; clear HF a; intro a HF
         refine wl_as HF rfl rfl rfl rfl rfl ?_; clear HF a; intro a HF
         refine wl_ne ?_
         refine wp_sr ?_
         refine wl_mv HF rfl rfl rfl rfl rfl ?_; clear HF a; intro a HF
         refine wl_y rfl HF rfl rfl (yl_not rfl (HF.ev rfl)) ?_; clear HF a; intro a HF
         refine wl_mv HF rfl rfl rfl rfl rfl ?_; clear HF a; intro a HF
         refine wl_skip HF rfl rfl rfl rfl rfl rfl ?_; clear HF a; intro a HF
         refine wl_skip HF rfl rfl rfl rfl rfl rfl ?_; clear HF a; intro a HF
         refine wl_skip HF rfl rfl rfl rfl rfl rfl ?_; clear HF a; intro a HF
         refine wl_skip HF rfl rfl rfl rfl rfl rfl ?_; clear HF a; intro a HF
         refine wl_y rfl HF rfl rfl (yl_pick_t rfl (HF.ev rfl) (HF.ev rfl)) ?_; clear HF a; intro a HF
         refine wl_mv HF rfl rfl rfl rfl rfl ?_; clear HF a; intro a HF
         refine wl_skip HF rfl rfl rfl rfl rfl rfl ?_; clear HF a; intro a HF
         refine wl_skip HF rfl rfl rfl rfl rfl rfl ?_; clear HF a; intro a HF
         refine wl_skipU HF rfl rfl rfl rfl rfl ?_; clear HF a; intro a HF
         refine wl_skipU HF rfl rfl rfl rfl rfl ?_; clear HF a; intro a HF
         refine wl_skipU HF rfl rfl rfl rfl rfl ?_; clear HF a; intro a HF
         refine wl_skip HF rfl rfl rfl rfl rfl rfl ?_; clear HF a; intro a HF
         refine wl_y rfl HF rfl rfl (yl_pick_t rfl (HF.ev rfl) (HF.ev rfl)) ?_; clear HF a; intro a HF
         refine wl_as HF rfl rfl rfl rfl rfl ?_; clear HF a; intro a HF
         refine wl_ne ?_
         refine wp_ret ?_
         refine bp_ret1 HF Try.results5 (HF.res rfl) ?_
         exact ⟨rfl, HS.out.bel⟩
        ·skip
         exact absurd hko (by decide)
       ·skip
        obtain ⟨_, _, _, j4, _, j6, _⟩ := write_cols hev3; rw [dsOf_len] at j6; have hf8 : fitsL qs8 := okR_fits j4
        refine ⟨_, rfl, ?_⟩; replace HS := Bx.mk (HS.out.add (raid_holdG rfl hs)); clear hs HF; clear a; intro a HF
        replace HS : Bx (St w0 ([holdsA (rdsP ao8 qs8), holdsA (rdsP ao2f qs2), boxA b12 1 25 (.agg #[.slice ao9 qs9.length cp9]), holdsA (rdsP ao9 qs9), boxA b10 1 25 (.agg #[.slice ao1 qs1.length cp1]), holdsA (rdsP ao1 qs1), boxA b5 1 25 (.agg #[.slice ao3 ps3.length co3]), holdsA (fun w => Rd encI 1 w ak nk xs), holdsA (fun w => Rd encI 1 w at_ nt ys), boxA b4 1 25 (.agg #[.slice ao2 ps2.length co2]), holdsA (rdsP ao2 ps2), boxA b2 1 25 (.agg #[.slice ao ps.length co]), holdsA (rdsP ao ps)]) _) := ⟨HS.out⟩
        refine wl_mv HF rfl rfl rfl rfl rfl ?_; clear HF a; intro a HF
        refine wl_y rfl HF rfl rfl (yl_extract rfl (HF.ev rfl) rfl) ?_; clear HF a; intro a HF
        refine wl_y rfl HF rfl rfl (yl_extract rfl (HF.ev rfl) rfl) ?_; clear HF a; intro a HF
        refine wl_alloc rfl HF rfl rfl rfl (Z := [.slice none 0 0]) (by kernel_rfl) rfl HS.out ?_; clear HF HS a; intro a w38 b19 HF HS; replace HS := Bx.mk HS
        refine wl_storeBox rfl HF rfl rfl (HF.ev rfl) (HF.ev rfl) HS.out 0 rfl (cells_lit [.slice ao8 qs8.length cp8] rfl rfl) (by kernel_rfl) ?_; clear HS; intro w39 HS; replace HS := Bx.mk HS
        have HS : Bx (St w0 ([boxA b19 1 25 (.agg #[.slice ao8 qs8.length cp8]), holdsA (rdsP ao8 qs8), holdsA (rdsP ao2f qs2), boxA b12 1 25 (.agg #[.slice ao9 qs9.length cp9]), holdsA (rdsP ao9 qs9), boxA b10 1 25 (.agg #[.slice ao1 qs1.length cp1]), holdsA (rdsP ao1 qs1), boxA b5 1 25 (.agg #[.slice ao3 ps3.length co3]), holdsA (fun w => Rd encI 1 w ak nk xs), holdsA (fun w => Rd encI 1 w at_ nt ys), boxA b4 1 25 (.agg #[.slice ao2 ps2.length co2]), holdsA (rdsP ao2 ps2), boxA b2 1 25 (.agg #[.slice ao ps.length co]), holdsA (rdsP ao ps)]) _) := HS
        refine wl_as HF rfl rfl rfl rfl rfl ?_; clear HF a; intro a HF
        refine wl_ne ?_
        refine wp_sr ?_
        refine wl_y rfl HF rfl rfl (yl_loadR (cs := [.slice ao8 qs8.length cp8]) rfl (HF.ev rfl) ((HS.out.box 0 rfl).sub 0 1) (by kernel_rfl)) ?_; clear HF a; intro a HF
        refine wl_mv HF rfl rfl rfl rfl rfl ?_; clear HF a; intro a HF
        refine wl_mv HF rfl rfl rfl rfl rfl ?_; clear HF a; intro a HF
        refine wl_call rfl HF rfl (enter_of Try.func23 (by kernel_rfl) rfl) (args := #[.agg #[.slice ao8 qs8.length cp8], .slice ak nk ck, .slice at_ nt ct]) rfl (raidCrash_any ao8 cp8 qs8 _ (by omega) hf8 (HS.out.holds 1 rfl) ak nk ck xs at_ nt ct ys hnk hnt (HS.out.holds 8 rfl) (HS.out.holds 9 rfl)) rfl rfl ?_
        rintro _ w40 (⟨rfl, hb⟩ | ⟨hko, ao6, cp6, zs, hz, rfl, hs⟩)
        ·skip
         refine ⟨_, rfl, ?_⟩; replace HS := Bx.mk (HS.out.later hb); clear hb HF; clear a; intro a HF
         replace HS : Bx (St w0 ([boxA b19 1 25 (.agg #[.slice ao8 qs8.length cp8]), holdsA (rdsP ao8 qs8), holdsA (rdsP ao2f qs2), boxA b12 1 25 (.agg #[.slice ao9 qs9.length cp9]), holdsA (rdsP ao9 qs9), boxA b10 1 25 (.agg #[.slice ao1 qs1.length cp1]), holdsA (rdsP ao1 qs1), boxA b5 1 25 (.agg #[.slice ao3 ps3.length co3]), holdsA (fun w => Rd encI 1 w ak nk xs), holdsA (fun w => Rd encI 1 w at_ nt ys), boxA b4 1 25 (.agg #[.slice ao2 ps2.length co2]), holdsA (rdsP ao2 ps2), boxA b2 1 25 (.agg #[.slice ao ps.length co]), holdsA (rdsP ao ps)]) _) := ⟨HS.out⟩
         refine wl_alloc rfl HF rfl rfl rfl (Z := [.slice none 0 0]) (by kernel_rfl) rfl HS.out ?_; clear HF HS a; intro a w41 b21 HF HS; replace HS := Bx.mk HS
         refine wl_storeBox rfl HF rfl rfl (HF.ev rfl) (HF.ev rfl) HS.out 0 rfl (cells_lit [.slice none 0 0] rfl rfl) (by kernel_rfl) ?_; clear HS; intro w42 HS; replace HS := Bx.mk HS
         have HS : Bx (St w0 ([boxA b21 1 25 (.agg #[.slice none 0 0]), boxA b19 1 25 (.agg #[.slice ao8 qs8.length cp8]), holdsA (rdsP ao8 qs8), holdsA (rdsP ao2f qs2), boxA b12 1 25 (.agg #[.slice ao9 qs9.length cp9]), holdsA (rdsP ao9 qs9), boxA b10 1 25 (.agg #[.slice ao1 qs1.length cp1]), holdsA (rdsP ao1 qs1), boxA b5 1 25 (.agg #[.slice ao3 ps3.length co3]), holdsA (fun w => Rd encI 1 w ak nk xs), holdsA (fun w => Rd encI 1 w at_ nt ys), boxA b4 1 25 (.agg #[.slice ao2 ps2.length co2]), holdsA (rdsP ao2 ps2), boxA b2 1 25 (.agg #[.slice ao ps.length co]), holdsA (rdsP ao ps)]) _) := HS
         refine wl_ne ?_
         refine wp_sr ?_
         refine wl_mv HF rfl rfl rfl rfl rfl ?_; clear HF a; intro a HF
         refine wl_mv HF rfl rfl rfl rfl rfl ?_; clear HF a; intro a HF
         refine wl_callB rfl HF rfl (enter_of Try.func14 (by kernel_rfl) rfl) (args := #[.int .i64 (m : Int), .int .i64 1, .int .i64 0, .string t]) rfl (v := .tuple #[.agg #[.int .i64 ((ptrOf (m : Int) 1 0 t).fAt), .int .i64 ((ptrOf (m : Int) 1 0 t).fBirth), .int .i64 ((ptrOf (m : Int) 1 0 t).fSize), .int .i64 ((ptrOf (m : Int) 1 0 t).fSum), .int .i64 ((ptrOf (m : Int) 1 0 t).fLevel)], .bool (ptrOk (m : Int) 1 0 t)]) ((ptrOfI_any (m : Int) 1 0 t _ (by omega))) rfl rfl HS.out ?_; clear HF HS a; intro w43 a HS HF; replace HS := Bx.mk HS
         refine wl_mv HF rfl rfl rfl rfl rfl ?_; clear HF a; intro a HF
         refine wl_y rfl HF rfl rfl (yl_extract rfl (HF.ev rfl) rfl) ?_; clear HF a; intro a HF
         refine wl_y rfl HF rfl rfl (yl_extract rfl (HF.ev rfl) rfl) ?_; clear HF a; intro a HF
         refine wl_alloc rfl HF rfl rfl rfl (Z := [.int .i64 0, .int .i64 0, .int .i64 0, .int .i64 0, .int .i64 0]) (by kernel_rfl) rfl HS.out ?_; clear HF HS a; intro a w44 b22 HF HS; replace HS := Bx.mk HS
         refine wl_storeBox rfl HF rfl rfl (HF.ev rfl) (HF.ev rfl) HS.out 0 rfl (cells_lit [.int .i64 ((ptrOf (m : Int) 1 0 t).fAt), .int .i64 ((ptrOf (m : Int) 1 0 t).fBirth), .int .i64 ((ptrOf (m : Int) 1 0 t).fSize), .int .i64 ((ptrOf (m : Int) 1 0 t).fSum), .int .i64 ((ptrOf (m : Int) 1 0 t).fLevel)] rfl rfl) (by kernel_rfl) ?_; clear HS; intro w45 HS; replace HS := Bx.mk HS
         have HS : Bx (St w0 ([boxA b22 5 33 (.agg #[.int .i64 ((ptrOf (m : Int) 1 0 t).fAt), .int .i64 ((ptrOf (m : Int) 1 0 t).fBirth), .int .i64 ((ptrOf (m : Int) 1 0 t).fSize), .int .i64 ((ptrOf (m : Int) 1 0 t).fSum), .int .i64 ((ptrOf (m : Int) 1 0 t).fLevel)]), boxA b21 1 25 (.agg #[.slice none 0 0]), boxA b19 1 25 (.agg #[.slice ao8 qs8.length cp8]), holdsA (rdsP ao8 qs8), holdsA (rdsP ao2f qs2), boxA b12 1 25 (.agg #[.slice ao9 qs9.length cp9]), holdsA (rdsP ao9 qs9), boxA b10 1 25 (.agg #[.slice ao1 qs1.length cp1]), holdsA (rdsP ao1 qs1), boxA b5 1 25 (.agg #[.slice ao3 ps3.length co3]), holdsA (fun w => Rd encI 1 w ak nk xs), holdsA (fun w => Rd encI 1 w at_ nt ys), boxA b4 1 25 (.agg #[.slice ao2 ps2.length co2]), holdsA (rdsP ao2 ps2), boxA b2 1 25 (.agg #[.slice ao ps.length co]), holdsA (rdsP ao ps)]) _) := HS
         refine wl_as HF rfl rfl rfl rfl rfl ?_; clear HF a; intro a HF
         refine wl_ne ?_
         refine wp_sr ?_
         refine wl_y rfl HF rfl rfl (yl_loadR (cs := [.slice none 0 0]) rfl (HF.ev rfl) ((HS.out.box 1 rfl).sub 0 1) (by kernel_rfl)) ?_; clear HF a; intro a HF
         refine wl_y rfl HF rfl rfl (yl_loadR (cs := [.int .i64 ((ptrOf (m : Int) 1 0 t).fAt), .int .i64 ((ptrOf (m : Int) 1 0 t).fBirth), .int .i64 ((ptrOf (m : Int) 1 0 t).fSize), .int .i64 ((ptrOf (m : Int) 1 0 t).fSum), .int .i64 ((ptrOf (m : Int) 1 0 t).fLevel)]) rfl (HF.ev rfl) ((HS.out.box 0 rfl).sub 0 5) (by kernel_rfl)) ?_; clear HF a; intro a HF
         refine wl_callB rfl HF rfl (enter_of Try.func16 (by kernel_rfl) rfl) (args := #[.agg #[.slice none 0 0], .agg #[.int .i64 ((ptrOf (m : Int) 1 0 t).fAt), .int .i64 ((ptrOf (m : Int) 1 0 t).fBirth), .int .i64 ((ptrOf (m : Int) 1 0 t).fSize), .int .i64 ((ptrOf (m : Int) 1 0 t).fSum), .int .i64 ((ptrOf (m : Int) 1 0 t).fLevel)]]) rfl (v := .tuple #[.string ((readR (dsOf []) (ptrOf (m : Int) 1 0 t)).1), .bool ((readR (dsOf []) (ptrOf (m : Int) 1 0 t)).2)]) ((implRaidRead_any none 0 [] _ (by decide) fitsL_nil.at (rds_nil _).1 (rds_nil _).at (ptrOf (m : Int) 1 0 t))) rfl rfl HS.out ?_; clear HF HS a; intro w46 a HS HF; replace HS := Bx.mk HS
         refine wl_mv HF rfl rfl rfl rfl rfl ?_; clear HF a; intro a HF
         refine wl_y rfl HF rfl rfl (yl_extract rfl (HF.ev rfl) rfl) ?_; clear HF a; intro a HF
         refine wl_y rfl HF rfl rfl (yl_extract rfl (HF.ev rfl) rfl) ?_; clear HF a; intro a HF
         refine wl_as HF rfl rfl rfl rfl rfl ?_; clear HF a; intro a HF
         refine wl_as HF rfl rfl rfl rfl rfl ?_; clear HF a; intro a HF
         refine wl_ne ?_
         refine wp_sr ?_
         refine wl_mv HF rfl rfl rfl rfl rfl ?_; clear HF a; intro a HF
         refine wl_y rfl HF rfl rfl (yl_not rfl (HF.ev rfl)) ?_; clear HF a; intro a HF
         refine wl_mv HF rfl rfl rfl rfl rfl ?_; clear HF a; intro a HF
         refine wl_yg HF rfl rfl rfl rfl rfl (yl_fieldAddr (j := 0) rfl (HF.ev rfl) (by kernel_rfl)) ?_; clear HF a; intro a HF
         refine wl_yg HF rfl rfl rfl rfl rfl (yl_load (v := .slice none 0 0) rfl (HF.ev rfl) (((HS.out.box 1 rfl).cell 0).trans rfl) (by kernel_rfl)) ?_; clear HF a; intro a HF
         refine wl_yg HF rfl rfl rfl rfl rfl (yl_lenL (e := 44) (size := 3) rfl (HF.ev rfl) (by kernel_rfl)) ?_; clear HF a; intro a HF
         refine wl_yg HF rfl rfl rfl rfl rfl (yl_eqlI rfl (HF.ev rfl) (HF.ev rfl)) ?_; clear HF a; intro a HF
         refine wl_y rfl HF rfl rfl (yl_pick_f rfl (HF.ev rfl) (HF.ev rfl)) ?_; clear HF a; intro a HF
         refine wl_mv HF rfl rfl rfl rfl rfl ?_; clear HF a; intro a HF
         replace HF := HF.know (k := 128) (c := true) rfl (by decide)
         refine wl_skip HF rfl rfl rfl rfl rfl rfl ?_; clear HF a; intro a HF
         refine wl_skip HF rfl rfl rfl rfl rfl rfl ?_; clear HF a; intro a HF
         refine wl_skipU HF rfl rfl rfl rfl rfl ?_; clear HF a; intro a HF
         refine wl_skipU HF rfl rfl rfl rfl rfl ?_; clear HF a; intro a HF
         refine wl_skipU HF rfl rfl rfl rfl rfl ?_; clear HF a; intro a HF
         refine wl_skip HF rfl rfl rfl rfl rfl rfl ?_; clear HF a; intro a HF
         refine wl_y rfl HF rfl rfl (yl_pick_t rfl (HF.ev rfl) (HF.ev rfl)) ?_; clear HF a; intro a HF
         refine wl_as HF rfl rfl rfl rfl rfl ?_; clear HF a; intro a HF
         refine wl_ne ?_
         refine wp_ret ?_
         refine bp_ret1 HF Try.results5 (HF.res rfl) ?_
         exact ⟨rfl, HS.out.bel⟩
        ·skip
         obtain ⟨hzo, hzr⟩ := crash_law (row := row2) (t2 := t2) hev (by rw [← hq2]; exact hev3) (by omega) (by omega) hz; have hfz : fitsL zs := okR_fits hzo; have hzl : zs.length = 3 := by rw [← dsOf_len]; exact (okR_at hzo).1
         refine ⟨_, rfl, ?_⟩; replace HS := Bx.mk (HS.out.add (raid_holdG rfl hs)); clear hs HF; clear a; intro a HF
         replace HS : Bx (St w0 ([holdsA (rdsP ao6 zs), boxA b19 1 25 (.agg #[.slice ao8 qs8.length cp8]), holdsA (rdsP ao8 qs8), holdsA (rdsP ao2f qs2), boxA b12 1 25 (.agg #[.slice ao9 qs9.length cp9]), holdsA (rdsP ao9 qs9), boxA b10 1 25 (.agg #[.slice ao1 qs1.length cp1]), holdsA (rdsP ao1 qs1), boxA b5 1 25 (.agg #[.slice ao3 ps3.length co3]), holdsA (fun w => Rd encI 1 w ak nk xs), holdsA (fun w => Rd encI 1 w at_ nt ys), boxA b4 1 25 (.agg #[.slice ao2 ps2.length co2]), holdsA (rdsP ao2 ps2), boxA b2 1 25 (.agg #[.slice ao ps.length co]), holdsA (rdsP ao ps)]) _) := ⟨HS.out⟩
         refine wl_alloc rfl HF rfl rfl rfl (Z := [.slice none 0 0]) (by kernel_rfl) rfl HS.out ?_; clear HF HS a; intro a w47 b23 HF HS; replace HS := Bx.mk HS
         refine wl_storeBox rfl HF rfl rfl (HF.ev rfl) (HF.ev rfl) HS.out 0 rfl (cells_lit [.slice ao6 zs.length cp6] rfl rfl) (by kernel_rfl) ?_; clear HS; intro w48 HS; replace HS := Bx.mk HS
         have HS : Bx (St w0 ([boxA b23 1 25 (.agg #[.slice ao6 zs.length cp6]), holdsA (rdsP ao6 zs), boxA b19 1 25 (.agg #[.slice ao8 qs8.length cp8]), holdsA (rdsP ao8 qs8), holdsA (rdsP ao2f qs2), boxA b12 1 25 (.agg #[.slice ao9 qs9.length cp9]), holdsA (rdsP ao9 qs9), boxA b10 1 25 (.agg #[.slice ao1 qs1.length cp1]), holdsA (rdsP ao1 qs1), boxA b5 1 25 (.agg #[.slice ao3 ps3.length co3]), holdsA (fun w => Rd encI 1 w ak nk xs), holdsA (fun w => Rd encI 1 w at_ nt ys), boxA b4 1 25 (.agg #[.slice ao2 ps2.length co2]), holdsA (rdsP ao2 ps2), boxA b2 1 25 (.agg #[.slice ao ps.length co]), holdsA (rdsP ao ps)]) _) := HS
         refine wl_ne ?_
         refine wp_sr ?_
         refine wl_mv HF rfl rfl rfl rfl rfl ?_; clear HF a; intro a HF
         refine wl_mv HF rfl rfl rfl rfl rfl ?_; clear HF a; intro a HF
         refine wl_callB rfl HF rfl (enter_of Try.func14 (by kernel_rfl) rfl) (args := #[.int .i64 (m : Int), .int .i64 1, .int .i64 0, .string t]) rfl (v := .tuple #[.agg #[.int .i64 ((ptrOf (m : Int) 1 0 t).fAt), .int .i64 ((ptrOf (m : Int) 1 0 t).fBirth), .int .i64 ((ptrOf (m : Int) 1 0 t).fSize), .int .i64 ((ptrOf (m : Int) 1 0 t).fSum), .int .i64 ((ptrOf (m : Int) 1 0 t).fLevel)], .bool (ptrOk (m : Int) 1 0 t)]) ((ptrOfI_any (m : Int) 1 0 t _ (by omega))) rfl rfl HS.out ?_; clear HF HS a; intro w49 a HS HF; replace HS := Bx.mk HS
         refine wl_mv HF rfl rfl rfl rfl rfl ?_; clear HF a; intro a HF
         refine wl_y rfl HF rfl rfl (yl_extract rfl (HF.ev rfl) rfl) ?_; clear HF a; intro a HF
         refine wl_y rfl HF rfl rfl (yl_extract rfl (HF.ev rfl) rfl) ?_; clear HF a; intro a HF
         refine wl_alloc rfl HF rfl rfl rfl (Z := [.int .i64 0, .int .i64 0, .int .i64 0, .int .i64 0, .int .i64 0]) (by kernel_rfl) rfl HS.out ?_; clear HF HS a; intro a w50 b24 HF HS; replace HS := Bx.mk HS
         refine wl_storeBox rfl HF rfl rfl (HF.ev rfl) (HF.ev rfl) HS.out 0 rfl (cells_lit [.int .i64 ((ptrOf (m : Int) 1 0 t).fAt), .int .i64 ((ptrOf (m : Int) 1 0 t).fBirth), .int .i64 ((ptrOf (m : Int) 1 0 t).fSize), .int .i64 ((ptrOf (m : Int) 1 0 t).fSum), .int .i64 ((ptrOf (m : Int) 1 0 t).fLevel)] rfl rfl) (by kernel_rfl) ?_; clear HS; intro w51 HS; replace HS := Bx.mk HS
         have HS : Bx (St w0 ([boxA b24 5 33 (.agg #[.int .i64 ((ptrOf (m : Int) 1 0 t).fAt), .int .i64 ((ptrOf (m : Int) 1 0 t).fBirth), .int .i64 ((ptrOf (m : Int) 1 0 t).fSize), .int .i64 ((ptrOf (m : Int) 1 0 t).fSum), .int .i64 ((ptrOf (m : Int) 1 0 t).fLevel)]), boxA b23 1 25 (.agg #[.slice ao6 zs.length cp6]), holdsA (rdsP ao6 zs), boxA b19 1 25 (.agg #[.slice ao8 qs8.length cp8]), holdsA (rdsP ao8 qs8), holdsA (rdsP ao2f qs2), boxA b12 1 25 (.agg #[.slice ao9 qs9.length cp9]), holdsA (rdsP ao9 qs9), boxA b10 1 25 (.agg #[.slice ao1 qs1.length cp1]), holdsA (rdsP ao1 qs1), boxA b5 1 25 (.agg #[.slice ao3 ps3.length co3]), holdsA (fun w => Rd encI 1 w ak nk xs), holdsA (fun w => Rd encI 1 w at_ nt ys), boxA b4 1 25 (.agg #[.slice ao2 ps2.length co2]), holdsA (rdsP ao2 ps2), boxA b2 1 25 (.agg #[.slice ao ps.length co]), holdsA (rdsP ao ps)]) _) := HS
         refine wl_as HF rfl rfl rfl rfl rfl ?_; clear HF a; intro a HF
         refine wl_ne ?_
         refine wp_sr ?_
         refine wl_y rfl HF rfl rfl (yl_loadR (cs := [.slice ao6 zs.length cp6]) rfl (HF.ev rfl) ((HS.out.box 1 rfl).sub 0 1) (by kernel_rfl)) ?_; clear HF a; intro a HF
         refine wl_y rfl HF rfl rfl (yl_loadR (cs := [.int .i64 ((ptrOf (m : Int) 1 0 t).fAt), .int .i64 ((ptrOf (m : Int) 1 0 t).fBirth), .int .i64 ((ptrOf (m : Int) 1 0 t).fSize), .int .i64 ((ptrOf (m : Int) 1 0 t).fSum), .int .i64 ((ptrOf (m : Int) 1 0 t).fLevel)]) rfl (HF.ev rfl) ((HS.out.box 0 rfl).sub 0 5) (by kernel_rfl)) ?_; clear HF a; intro a HF
         refine wl_callB rfl HF rfl (enter_of Try.func16 (by kernel_rfl) rfl) (args := #[.agg #[.slice ao6 zs.length cp6], .agg #[.int .i64 ((ptrOf (m : Int) 1 0 t).fAt), .int .i64 ((ptrOf (m : Int) 1 0 t).fBirth), .int .i64 ((ptrOf (m : Int) 1 0 t).fSize), .int .i64 ((ptrOf (m : Int) 1 0 t).fSum), .int .i64 ((ptrOf (m : Int) 1 0 t).fLevel)]]) rfl (v := .tuple #[.string t, .bool true]) ((by have := implRaidRead_any ao6 cp6 zs _ (by omega) hfz.at (HS.out.holds 2 rfl).1 (HS.out.holds 2 rfl).at (ptrOf (m : Int) 1 0 t); rw [hzr] at this; exact this)) rfl rfl HS.out ?_; clear HF HS a; intro w52 a HS HF; replace HS := Bx.mk HS
         refine wl_mv HF rfl rfl rfl rfl rfl ?_; clear HF a; intro a HF
         refine wl_y rfl HF rfl rfl (yl_extract rfl (HF.ev rfl) rfl) ?_; clear HF a; intro a HF
         refine wl_y rfl HF rfl rfl (yl_extract rfl (HF.ev rfl) rfl) ?_; clear HF a; intro a HF
         refine wl_as HF rfl rfl rfl rfl rfl ?_; clear HF a; intro a HF
         refine wl_as HF rfl rfl rfl rfl rfl ?_; clear HF a; intro a HF
         refine wl_ne ?_
         refine wp_sr ?_
         refine wl_mv HF rfl rfl rfl rfl rfl ?_; clear HF a; intro a HF
         refine wl_y rfl HF rfl rfl (yl_not rfl (HF.ev rfl)) ?_; clear HF a; intro a HF
         refine wl_mv HF rfl rfl rfl rfl rfl ?_; clear HF a; intro a HF
         refine wl_yg HF rfl rfl rfl rfl rfl (yl_fieldAddr (j := 0) rfl (HF.ev rfl) (by kernel_rfl)) ?_; clear HF a; intro a HF
         refine wl_yg HF rfl rfl rfl rfl rfl (yl_load (v := .slice ao6 zs.length cp6) rfl (HF.ev rfl) (((HS.out.box 1 rfl).cell 0).trans rfl) (by kernel_rfl)) ?_; clear HF a; intro a HF
         refine wl_yg HF rfl rfl rfl rfl rfl (yl_lenL (e := 44) (size := 3) rfl (HF.ev rfl) (by kernel_rfl)) ?_; clear HF a; intro a HF
         refine wl_yg HF rfl rfl rfl rfl rfl (yl_eqlI rfl (HF.ev rfl) (HF.ev rfl)) ?_; clear HF a; intro a HF
         refine wl_y rfl HF rfl rfl (yl_pick_f rfl (HF.ev rfl) (HF.ev rfl)) ?_; clear HF a; intro a HF
         refine wl_mv HF rfl rfl rfl rfl rfl ?_; clear HF a; intro a HF
         refine HF.cases 128 rfl (fun cc5 HF1 => ?_) (fun cc5 HF1 => ?_)
         ·clear HF; have HF := HF1; clear HF1
          have := eq_of_beq cc5; omega
         ·clear HF; have HF := HF1; clear HF1
          refine wl_yg HF rfl rfl rfl rfl rfl (yl_move rfl (HF.ev rfl)) ?_; clear HF a; intro a HF
          refine wl_yg HF rfl rfl rfl rfl rfl (yl_move rfl (HF.ev rfl)) ?_; clear HF a; intro a HF
          refine wl_yg HF rfl rfl rfl rfl rfl (yl_move rfl (HF.ev rfl)) ?_; clear HF a; intro a HF
          refine wl_yg HF rfl rfl rfl rfl rfl (yl_move rfl (HF.ev rfl)) ?_; clear HF a; intro a HF
          refine wl_yg HF rfl rfl rfl rfl rfl (yl_eqlS rfl (HF.ev rfl) (HF.ev rfl)) ?_; clear HF a; intro a HF
          refine wl_yg HF rfl rfl rfl rfl rfl (yl_pick_t rfl (HF.ev rfl) (HF.ev rfl)) ?_; clear HF a; intro a HF
          refine wl_y rfl HF rfl rfl (yl_pick_f rfl (HF.ev rfl) (HF.ev rfl)) ?_; clear HF a; intro a HF
          refine wl_as HF rfl rfl rfl rfl rfl ?_; clear HF a; intro a HF
          refine wl_ne ?_
          refine wp_ret ?_
          refine bp_ret1 HF Try.results5 (HF.res rfl) ?_
          exact ⟨by simp, HS.out.bel⟩

end Go.Proofs.Ytfijfjjleelphaa
