/- A part of the proof in YtoaopmkbfifhaaaGreatDoorRwZ20. -/
import Derived.ArgAppend
import Derived.BigQuiet
import Derived.BigRegion
import Derived.Deep.AppendLies
import Derived.Deep.MidRow
import Derived.Deep.Quiet
import Derived.Deep.QuietTactic
import Derived.Deep.RegionHeld3
import Derived.Deep.RegionWith
import Derived.IntWalk
import Derived.Laws.BytesArg
import Derived.Lib.AppendIntMem
import Derived.Lib.Hide
import Derived.Lib.ItoaNum
import Derived.Lib.LazyBuf
import Derived.Lib.SlBytesConst
import Derived.LoopIn
import Derived.LoopN
import Derived.LoopNIn
import Derived.Orders
import Derived.OrdersHeld
import Derived.OwnWalkIn
import Derived.RangeFuncLeaves
import Derived.RangeFuncNested
import Derived.Shelf.Abstract
import Derived.Shelf.Strconv.Itoa3
import Derived.Shelf.Strings.BuilderF
import Derived.Shelf.Strings.BuilderK
import Derived.Shelf.Strings.OnBuilder
import Derived.Still
import Derived.StillTail
import Derived.StillTailTactics
import Derived.TacticsInMore
import Derived.Test.YtoaopmkbfifhaaaGreatDoorRows
import Derived.WalkKit
import Derived.WalkLawsBesides
import Derived.WalkSpells
import Derived.Test.YtoaopmkbfifhaaaGreatDoorRwZ16
/- Roots handed in. -/
namespace Go.Proofs.YtoaopmkbfifhaaaGreatDoor
set_option linter.unusedVariables false
set_option linter.unusedSimpArgs false
set_option maxHeartbeats 1000000
set_option maxRecDepth 100000
open Go.RowKit

theorem toTree_any (t : TreeD) (w0 : World) : Calls Tryz.prog 34 #[.agg #[.int .i64 t.fRoot.fAt, .int .i64 t.fRoot.fBirth, .int .i64 t.fRoot.fSize, .int .i64 t.fRoot.fSum, .int .i64 t.fRoot.fLevel, .int .i64 t.fDepth, .int .i64 t.fMany]] w0 fun e w' => e = .returned (.agg #[.int .i64 t.fRoot.fAt, .int .i64 t.fRoot.fBirth, .int .i64 t.fRoot.fSize, .int .i64 t.fRoot.fSum, .int .i64 t.fRoot.fLevel, .int .i64 t.fDepth, .int .i64 t.fMany]) ∧ Below w0.heap.size w0 w' := by
 have HS := Bx.mk (St.start w0)
 refine wc_enter Tryz.func34 rfl Tryz.ntmps34 [(0, .agg #[.int .i64 t.fRoot.fAt, .int .i64 t.fRoot.fBirth, .int .i64 t.fRoot.fSize, .int .i64 t.fRoot.fSum, .int .i64 t.fRoot.fLevel, .int .i64 t.fDepth, .int .i64 t.fMany])] ⟨rfl, trivial⟩ rfl ?_; intro a HF
 refine wp_sr ?_
 refine wl_box rfl HF rfl (HF.ev rfl) (Z := [.int .i64 t.fRoot.fAt, .int .i64 t.fRoot.fBirth, .int .i64 t.fRoot.fSize, .int .i64 t.fRoot.fSum, .int .i64 t.fRoot.fLevel, .int .i64 t.fDepth, .int .i64 t.fMany]) rfl rfl rfl rfl HS.out ?_; clear HF HS a; intro a w1 b1 HF HS; replace HS := Bx.mk HS
 refine wl_alloc rfl HF rfl rfl rfl (Z := [.int .i64 0, .int .i64 0, .int .i64 0, .int .i64 0, .int .i64 0, .int .i64 0, .int .i64 0]) (by kernel_rfl) rfl HS.out ?_; clear HF HS a; intro a w2 b2 HF HS; replace HS := Bx.mk HS
 refine wl_ne ?_
 refine wp_sr ?_
 refine wl_alloc rfl HF rfl rfl rfl (Z := [.int .i64 0, .int .i64 0, .int .i64 0, .int .i64 0, .int .i64 0, .int .i64 0, .int .i64 0]) (by kernel_rfl) rfl HS.out ?_; clear HF HS a; intro a w3 b3 HF HS; replace HS := Bx.mk HS
 refine wl_ne ?_
 refine wp_sr ?_
 refine wl_y rfl HF rfl rfl (yl_fieldAddr (j := 0) rfl (HF.ev rfl) (by kernel_rfl)) ?_; clear HF a; intro a HF
 refine wl_y rfl HF rfl rfl (yl_loadR (cs := [.int .i64 t.fRoot.fAt, .int .i64 t.fRoot.fBirth, .int .i64 t.fRoot.fSize, .int .i64 t.fRoot.fSum, .int .i64 t.fRoot.fLevel]) rfl (HF.ev rfl) ((HS.out.box 2 rfl).sub 0 5) (by kernel_rfl)) ?_; clear HF a; intro a HF
 refine wl_callB rfl HF rfl (enter_of Tryz.func70 (by kernel_rfl) rfl) (args := #[.agg #[.int .i64 t.fRoot.fAt, .int .i64 t.fRoot.fBirth, .int .i64 t.fRoot.fSize, .int .i64 t.fRoot.fSum, .int .i64 t.fRoot.fLevel]]) rfl (v := .agg #[.int .i64 t.fRoot.fAt, .int .i64 t.fRoot.fBirth, .int .i64 t.fRoot.fSize, .int .i64 t.fRoot.fSum, .int .i64 t.fRoot.fLevel]) (toPtr_any t.fRoot _) rfl rfl HS.out ?_; clear HF HS a; intro w4 a HS HF; replace HS := Bx.mk HS
 refine wl_y rfl HF rfl rfl (yl_fieldAddr (j := 0) rfl (HF.ev rfl) (by kernel_rfl)) ?_; clear HF a; intro a HF
 refine wl_storeSub rfl rfl rfl (HF.ev rfl) (HF.ev rfl) HS.out 0 rfl (by kernel_rfl) rfl (by kernel_rfl) (rs := [.int .i64 t.fRoot.fAt, .int .i64 t.fRoot.fBirth, .int .i64 t.fRoot.fSize, .int .i64 t.fRoot.fSum, .int .i64 t.fRoot.fLevel, .int .i64 0, .int .i64 0]) rfl ?_; clear HS; intro w5 HS; replace HS := Bx.mk HS
 have HS : Bx (St w0 ([boxA b3 7 40 (.agg #[.int .i64 t.fRoot.fAt, .int .i64 t.fRoot.fBirth, .int .i64 t.fRoot.fSize, .int .i64 t.fRoot.fSum, .int .i64 t.fRoot.fLevel, .int .i64 0, .int .i64 0]), boxA b2 7 40 (.agg #[.int .i64 0, .int .i64 0, .int .i64 0, .int .i64 0, .int .i64 0, .int .i64 0, .int .i64 0]), boxA b1 7 28 (.agg #[.int .i64 t.fRoot.fAt, .int .i64 t.fRoot.fBirth, .int .i64 t.fRoot.fSize, .int .i64 t.fRoot.fSum, .int .i64 t.fRoot.fLevel, .int .i64 t.fDepth, .int .i64 t.fMany])]) _) := HS
 refine wl_ne ?_
 refine wp_sr ?_
 refine wl_y rfl HF rfl rfl (yl_fieldAddr (j := 5) rfl (HF.ev rfl) (by kernel_rfl)) ?_; clear HF a; intro a HF
 refine wl_y rfl HF rfl rfl (yl_load (v := .int .i64 t.fDepth) rfl (HF.ev rfl) (((HS.out.box 2 rfl).cell 5).trans rfl) (by kernel_rfl)) ?_; clear HF a; intro a HF
 refine wl_y rfl HF rfl rfl (yl_fieldAddr (j := 5) rfl (HF.ev rfl) (by kernel_rfl)) ?_; clear HF a; intro a HF
 refine wl_storeF rfl rfl rfl (HF.ev rfl) (HF.ev rfl) (by kernel_rfl) HS.out 0 rfl rfl rfl ?_; clear HS; intro w6 HS; replace HS := Bx.mk HS
 have HS : Bx (St w0 ([boxA b3 7 40 (.agg #[.int .i64 t.fRoot.fAt, .int .i64 t.fRoot.fBirth, .int .i64 t.fRoot.fSize, .int .i64 t.fRoot.fSum, .int .i64 t.fRoot.fLevel, .int .i64 t.fDepth, .int .i64 0]), boxA b2 7 40 (.agg #[.int .i64 0, .int .i64 0, .int .i64 0, .int .i64 0, .int .i64 0, .int .i64 0, .int .i64 0]), boxA b1 7 28 (.agg #[.int .i64 t.fRoot.fAt, .int .i64 t.fRoot.fBirth, .int .i64 t.fRoot.fSize, .int .i64 t.fRoot.fSum, .int .i64 t.fRoot.fLevel, .int .i64 t.fDepth, .int .i64 t.fMany])]) _) := HS
 refine wl_ne ?_
 refine wp_sr ?_
 refine wl_y rfl HF rfl rfl (yl_fieldAddr (j := 6) rfl (HF.ev rfl) (by kernel_rfl)) ?_; clear HF a; intro a HF
 refine wl_y rfl HF rfl rfl (yl_load (v := .int .i64 t.fMany) rfl (HF.ev rfl) (((HS.out.box 2 rfl).cell 6).trans rfl) (by kernel_rfl)) ?_; clear HF a; intro a HF
 refine wl_y rfl HF rfl rfl (yl_fieldAddr (j := 6) rfl (HF.ev rfl) (by kernel_rfl)) ?_; clear HF a; intro a HF
 refine wl_storeF rfl rfl rfl (HF.ev rfl) (HF.ev rfl) (by kernel_rfl) HS.out 0 rfl rfl rfl ?_; clear HS; intro w7 HS; replace HS := Bx.mk HS
 have HS : Bx (St w0 ([boxA b3 7 40 (.agg #[.int .i64 t.fRoot.fAt, .int .i64 t.fRoot.fBirth, .int .i64 t.fRoot.fSize, .int .i64 t.fRoot.fSum, .int .i64 t.fRoot.fLevel, .int .i64 t.fDepth, .int .i64 t.fMany]), boxA b2 7 40 (.agg #[.int .i64 0, .int .i64 0, .int .i64 0, .int .i64 0, .int .i64 0, .int .i64 0, .int .i64 0]), boxA b1 7 28 (.agg #[.int .i64 t.fRoot.fAt, .int .i64 t.fRoot.fBirth, .int .i64 t.fRoot.fSize, .int .i64 t.fRoot.fSum, .int .i64 t.fRoot.fLevel, .int .i64 t.fDepth, .int .i64 t.fMany])]) _) := HS
 refine wl_ne ?_
 refine wp_sr ?_
 refine wl_y rfl HF rfl rfl (yl_loadR (cs := [.int .i64 t.fRoot.fAt, .int .i64 t.fRoot.fBirth, .int .i64 t.fRoot.fSize, .int .i64 t.fRoot.fSum, .int .i64 t.fRoot.fLevel, .int .i64 t.fDepth, .int .i64 t.fMany]) rfl (HF.ev rfl) ((HS.out.box 0 rfl).sub 0 7) (by kernel_rfl)) ?_; clear HF a; intro a HF
 refine wl_storeBox rfl HF rfl rfl (HF.ev rfl) (HF.ev rfl) HS.out 1 rfl (cells_lit [.int .i64 t.fRoot.fAt, .int .i64 t.fRoot.fBirth, .int .i64 t.fRoot.fSize, .int .i64 t.fRoot.fSum, .int .i64 t.fRoot.fLevel, .int .i64 t.fDepth, .int .i64 t.fMany] rfl rfl) (by kernel_rfl) ?_; clear HS; intro w8 HS; replace HS := Bx.mk HS
 have HS : Bx (St w0 ([boxA b3 7 40 (.agg #[.int .i64 t.fRoot.fAt, .int .i64 t.fRoot.fBirth, .int .i64 t.fRoot.fSize, .int .i64 t.fRoot.fSum, .int .i64 t.fRoot.fLevel, .int .i64 t.fDepth, .int .i64 t.fMany]), boxA b2 7 40 (.agg #[.int .i64 t.fRoot.fAt, .int .i64 t.fRoot.fBirth, .int .i64 t.fRoot.fSize, .int .i64 t.fRoot.fSum, .int .i64 t.fRoot.fLevel, .int .i64 t.fDepth, .int .i64 t.fMany]), boxA b1 7 28 (.agg #[.int .i64 t.fRoot.fAt, .int .i64 t.fRoot.fBirth, .int .i64 t.fRoot.fSize, .int .i64 t.fRoot.fSum, .int .i64 t.fRoot.fLevel, .int .i64 t.fDepth, .int .i64 t.fMany])]) _) := HS
 refine wl_ne ?_
 refine wp_ret ?_
 refine bp_ret1 HF Tryz.results34 (HF.resBox rfl (HS.out.box 1 rfl) (by kernel_rfl)) ?_
 exact ⟨rfl, HS.out.bel⟩

theorem toRoot_any (x : RootD) (w0 : World) : Calls Tryz.prog 10 #[.agg #[.int .i64 x.fTxg, .int .i64 x.fMeta.fRoot.fAt, .int .i64 x.fMeta.fRoot.fBirth, .int .i64 x.fMeta.fRoot.fSize, .int .i64 x.fMeta.fRoot.fSum, .int .i64 x.fMeta.fRoot.fLevel, .int .i64 x.fMeta.fDepth, .int .i64 x.fMeta.fMany]] w0 fun e w' => e = .returned (.agg #[.int .i64 x.fTxg, .int .i64 x.fMeta.fRoot.fAt, .int .i64 x.fMeta.fRoot.fBirth, .int .i64 x.fMeta.fRoot.fSize, .int .i64 x.fMeta.fRoot.fSum, .int .i64 x.fMeta.fRoot.fLevel, .int .i64 x.fMeta.fDepth, .int .i64 x.fMeta.fMany]) ∧ Below w0.heap.size w0 w' := by
 have HS := Bx.mk (St.start w0)
 refine wc_enter Tryz.func10 rfl Tryz.ntmps10 [(0, .agg #[.int .i64 x.fTxg, .int .i64 x.fMeta.fRoot.fAt, .int .i64 x.fMeta.fRoot.fBirth, .int .i64 x.fMeta.fRoot.fSize, .int .i64 x.fMeta.fRoot.fSum, .int .i64 x.fMeta.fRoot.fLevel, .int .i64 x.fMeta.fDepth, .int .i64 x.fMeta.fMany])] ⟨rfl, trivial⟩ rfl ?_; intro a HF
 refine wp_sr ?_
 refine wl_box rfl HF rfl (HF.ev rfl) (Z := [.int .i64 x.fTxg, .int .i64 x.fMeta.fRoot.fAt, .int .i64 x.fMeta.fRoot.fBirth, .int .i64 x.fMeta.fRoot.fSize, .int .i64 x.fMeta.fRoot.fSum, .int .i64 x.fMeta.fRoot.fLevel, .int .i64 x.fMeta.fDepth, .int .i64 x.fMeta.fMany]) rfl rfl rfl rfl HS.out ?_; clear HF HS a; intro a w1 b1 HF HS; replace HS := Bx.mk HS
 refine wl_alloc rfl HF rfl rfl rfl (Z := [.int .i64 0, .int .i64 0, .int .i64 0, .int .i64 0, .int .i64 0, .int .i64 0, .int .i64 0, .int .i64 0]) (by kernel_rfl) rfl HS.out ?_; clear HF HS a; intro a w2 b2 HF HS; replace HS := Bx.mk HS
 refine wl_ne ?_
 refine wp_sr ?_
 refine wl_alloc rfl HF rfl rfl rfl (Z := [.int .i64 0, .int .i64 0, .int .i64 0, .int .i64 0, .int .i64 0, .int .i64 0, .int .i64 0, .int .i64 0]) (by kernel_rfl) rfl HS.out ?_; clear HF HS a; intro a w3 b3 HF HS; replace HS := Bx.mk HS
 refine wl_ne ?_
 refine wp_sr ?_
 refine wl_y rfl HF rfl rfl (yl_fieldAddr (j := 0) rfl (HF.ev rfl) (by kernel_rfl)) ?_; clear HF a; intro a HF
 refine wl_y rfl HF rfl rfl (yl_load (v := .int .i64 x.fTxg) rfl (HF.ev rfl) (((HS.out.box 2 rfl).cell 0).trans rfl) (by kernel_rfl)) ?_; clear HF a; intro a HF
 refine wl_y rfl HF rfl rfl (yl_fieldAddr (j := 0) rfl (HF.ev rfl) (by kernel_rfl)) ?_; clear HF a; intro a HF
 refine wl_storeF rfl rfl rfl (HF.ev rfl) (HF.ev rfl) (by kernel_rfl) HS.out 0 rfl rfl rfl ?_; clear HS; intro w4 HS; replace HS := Bx.mk HS
 have HS : Bx (St w0 ([boxA b3 8 42 (.agg #[.int .i64 x.fTxg, .int .i64 0, .int .i64 0, .int .i64 0, .int .i64 0, .int .i64 0, .int .i64 0, .int .i64 0]), boxA b2 8 42 (.agg #[.int .i64 0, .int .i64 0, .int .i64 0, .int .i64 0, .int .i64 0, .int .i64 0, .int .i64 0, .int .i64 0]), boxA b1 8 30 (.agg #[.int .i64 x.fTxg, .int .i64 x.fMeta.fRoot.fAt, .int .i64 x.fMeta.fRoot.fBirth, .int .i64 x.fMeta.fRoot.fSize, .int .i64 x.fMeta.fRoot.fSum, .int .i64 x.fMeta.fRoot.fLevel, .int .i64 x.fMeta.fDepth, .int .i64 x.fMeta.fMany])]) _) := HS
 refine wl_ne ?_
 refine wp_sr ?_
 refine wl_y rfl HF rfl rfl (yl_fieldAddr (j := 1) rfl (HF.ev rfl) (by kernel_rfl)) ?_; clear HF a; intro a HF
 refine wl_y rfl HF rfl rfl (yl_loadR (cs := [.int .i64 x.fMeta.fRoot.fAt, .int .i64 x.fMeta.fRoot.fBirth, .int .i64 x.fMeta.fRoot.fSize, .int .i64 x.fMeta.fRoot.fSum, .int .i64 x.fMeta.fRoot.fLevel, .int .i64 x.fMeta.fDepth, .int .i64 x.fMeta.fMany]) rfl (HF.ev rfl) ((HS.out.box 2 rfl).sub 1 7) (by kernel_rfl)) ?_; clear HF a; intro a HF
 refine wl_callB rfl HF rfl (enter_of Tryz.func34 (by kernel_rfl) rfl) (args := #[.agg #[.int .i64 x.fMeta.fRoot.fAt, .int .i64 x.fMeta.fRoot.fBirth, .int .i64 x.fMeta.fRoot.fSize, .int .i64 x.fMeta.fRoot.fSum, .int .i64 x.fMeta.fRoot.fLevel, .int .i64 x.fMeta.fDepth, .int .i64 x.fMeta.fMany]]) rfl (v := .agg #[.int .i64 x.fMeta.fRoot.fAt, .int .i64 x.fMeta.fRoot.fBirth, .int .i64 x.fMeta.fRoot.fSize, .int .i64 x.fMeta.fRoot.fSum, .int .i64 x.fMeta.fRoot.fLevel, .int .i64 x.fMeta.fDepth, .int .i64 x.fMeta.fMany]) (toTree_any x.fMeta _) rfl rfl HS.out ?_; clear HF HS a; intro w5 a HS HF; replace HS := Bx.mk HS
 refine wl_y rfl HF rfl rfl (yl_fieldAddr (j := 1) rfl (HF.ev rfl) (by kernel_rfl)) ?_; clear HF a; intro a HF
 refine wl_storeSub rfl rfl rfl (HF.ev rfl) (HF.ev rfl) HS.out 0 rfl (by kernel_rfl) rfl (by kernel_rfl) (rs := [.int .i64 x.fTxg, .int .i64 x.fMeta.fRoot.fAt, .int .i64 x.fMeta.fRoot.fBirth, .int .i64 x.fMeta.fRoot.fSize, .int .i64 x.fMeta.fRoot.fSum, .int .i64 x.fMeta.fRoot.fLevel, .int .i64 x.fMeta.fDepth, .int .i64 x.fMeta.fMany]) rfl ?_; clear HS; intro w6 HS; replace HS := Bx.mk HS
 have HS : Bx (St w0 ([boxA b3 8 42 (.agg #[.int .i64 x.fTxg, .int .i64 x.fMeta.fRoot.fAt, .int .i64 x.fMeta.fRoot.fBirth, .int .i64 x.fMeta.fRoot.fSize, .int .i64 x.fMeta.fRoot.fSum, .int .i64 x.fMeta.fRoot.fLevel, .int .i64 x.fMeta.fDepth, .int .i64 x.fMeta.fMany]), boxA b2 8 42 (.agg #[.int .i64 0, .int .i64 0, .int .i64 0, .int .i64 0, .int .i64 0, .int .i64 0, .int .i64 0, .int .i64 0]), boxA b1 8 30 (.agg #[.int .i64 x.fTxg, .int .i64 x.fMeta.fRoot.fAt, .int .i64 x.fMeta.fRoot.fBirth, .int .i64 x.fMeta.fRoot.fSize, .int .i64 x.fMeta.fRoot.fSum, .int .i64 x.fMeta.fRoot.fLevel, .int .i64 x.fMeta.fDepth, .int .i64 x.fMeta.fMany])]) _) := HS
 refine wl_ne ?_
 refine wp_sr ?_
 refine wl_y rfl HF rfl rfl (yl_loadR (cs := [.int .i64 x.fTxg, .int .i64 x.fMeta.fRoot.fAt, .int .i64 x.fMeta.fRoot.fBirth, .int .i64 x.fMeta.fRoot.fSize, .int .i64 x.fMeta.fRoot.fSum, .int .i64 x.fMeta.fRoot.fLevel, .int .i64 x.fMeta.fDepth, .int .i64 x.fMeta.fMany]) rfl (HF.ev rfl) ((HS.out.box 0 rfl).sub 0 8) (by kernel_rfl)) ?_; clear HF a; intro a HF
 refine wl_storeBox rfl HF rfl rfl (HF.ev rfl) (HF.ev rfl) HS.out 1 rfl (cells_lit [.int .i64 x.fTxg, .int .i64 x.fMeta.fRoot.fAt, .int .i64 x.fMeta.fRoot.fBirth, .int .i64 x.fMeta.fRoot.fSize, .int .i64 x.fMeta.fRoot.fSum, .int .i64 x.fMeta.fRoot.fLevel, .int .i64 x.fMeta.fDepth, .int .i64 x.fMeta.fMany] rfl rfl) (by kernel_rfl) ?_; clear HS; intro w7 HS; replace HS := Bx.mk HS
 have HS : Bx (St w0 ([boxA b3 8 42 (.agg #[.int .i64 x.fTxg, .int .i64 x.fMeta.fRoot.fAt, .int .i64 x.fMeta.fRoot.fBirth, .int .i64 x.fMeta.fRoot.fSize, .int .i64 x.fMeta.fRoot.fSum, .int .i64 x.fMeta.fRoot.fLevel, .int .i64 x.fMeta.fDepth, .int .i64 x.fMeta.fMany]), boxA b2 8 42 (.agg #[.int .i64 x.fTxg, .int .i64 x.fMeta.fRoot.fAt, .int .i64 x.fMeta.fRoot.fBirth, .int .i64 x.fMeta.fRoot.fSize, .int .i64 x.fMeta.fRoot.fSum, .int .i64 x.fMeta.fRoot.fLevel, .int .i64 x.fMeta.fDepth, .int .i64 x.fMeta.fMany]), boxA b1 8 30 (.agg #[.int .i64 x.fTxg, .int .i64 x.fMeta.fRoot.fAt, .int .i64 x.fMeta.fRoot.fBirth, .int .i64 x.fMeta.fRoot.fSize, .int .i64 x.fMeta.fRoot.fSum, .int .i64 x.fMeta.fRoot.fLevel, .int .i64 x.fMeta.fDepth, .int .i64 x.fMeta.fMany])]) _) := HS
 refine wl_ne ?_
 refine wp_ret ?_
 refine bp_ret1 HF Tryz.results10 (HF.resBox rfl (HS.out.box 1 rfl) (by kernel_rfl)) ?_
 exact ⟨rfl, HS.out.bel⟩

end Go.Proofs.YtoaopmkbfifhaaaGreatDoor

/- FnExactRootWrite: the law's walk. -/
namespace Go.Proofs.YtoaopmkbfifhaaaGreatDoor
set_option linter.unusedVariables false
set_option linter.unusedSimpArgs false
set_option maxHeartbeats 1000000
set_option maxRecDepth 100000
open Go.RowKit

def rootY (r : RaidD) (x : RootD) : RaidD := ⟨match rootF r.fDisks x with | some ds => ds | none => []⟩
def rootY2 (r : RaidD) (x : RootD) : Bool := match rootF r.fDisks x with | some _ => true | none => false
theorem same_fit {ds xs : List DiskD} {row : Int} {t : ByteArray} (hok : okR ds = true) (h : sameF ds row t = some xs) : (⟨xs⟩ : RaidD).Fit := by
  unfold okR at hok
  simp only [Bool.and_eq_true, decide_eq_true_eq] at hok
  have hl : xs.length = 3 := eachTo_len h
  have hk : ∀ k, k < 3 → (xs.getD k default).fCells.length ≤ 64 ∧ (xs.getD k default).fWaits.length ≤ 121 := fun k hk => by
    have h4 := stepPut_len (eachTo_at h k hk)
    have h5 := ok_waits (allB_at (p := fun k => (ds.getD k default).ok) hok.2 (show k < ds.length by omega))
    omega
  have ht : tot lenT xs ≤ 10000000 := by
    match xs, hl with
    | [a, b, c], _ =>
      have k0 := hk 0 (by omega)
      have k1 := hk 1 (by omega)
      have k2 := hk 2 (by omega)
      simp only [List.getD_cons_zero, List.getD_cons_succ] at k0 k1 k2
      simp only [tot, lenT]
      omega
  refine ⟨by show xs.length ≤ _; omega, ht, fun k => ?_⟩
  show (xs.getD k default).Fit
  by_cases hkk : k < 3
  · have := hk k hkk; exact ⟨by omega, by omega⟩
  · rw [List.getD_eq_getElem?_getD, List.getElem?_eq_none (by omega)]; exact ⟨Nat.zero_le _, Nat.zero_le _⟩
theorem rootY_fit {r : RaidD} (x : RootD) (hf : r.Fit) : (rootY r x).Fit := by
  unfold rootY
  cases h : rootF r.fDisks x with
  | none => exact ⟨Nat.zero_le _, Nat.zero_le _, fun k => by simp [List.getD]; exact ⟨Nat.zero_le _, Nat.zero_le _⟩⟩
  | some ds =>
    cases h1 : (okR r.fDisks && x.ok) with
    | false => rw [rootF_no h1] at h; cases h
    | true =>
      rw [Bool.and_eq_true] at h1
      rw [rootF_yes h1.1 h1.2] at h
      exact same_fit h1.1 h

theorem specRootW_own (v : Value) (r : RaidD) (x : RootD) (w : World) (hf : ∀ k, (r.fDisks.getD k default).fits) (hr : RaidD.Reads w v r) (hrl0 : r.fDisks.length ≤ 1048576) : Calls Tryz.prog 8 #[v, .agg #[.int .i64 x.fTxg, .int .i64 x.fMeta.fRoot.fAt, .int .i64 x.fMeta.fRoot.fBirth, .int .i64 x.fMeta.fRoot.fSize, .int .i64 x.fMeta.fRoot.fSum, .int .i64 x.fMeta.fRoot.fLevel, .int .i64 x.fMeta.fDepth, .int .i64 x.fMeta.fMany]] w fun e w' => ∃ v', e = .returned (.tuple #[v', .bool (rootY2 r x)]) ∧ RaidD.Own w' w.heap.size w'.heap.size v' (rootY r x) ∧ Below w.heap.size w w' := by
  obtain ⟨a, c, ps, rfl, hx, hr, hp⟩ := hr
  have hl : ps.length ≤ 1048576 := by rw [← dsOf_len, hx]; exact hrl0
  refine (specRootWrite_any a c ps w hl (fitsL_of fun d hd => by obtain ⟨i, hi, rfl⟩ := List.getElem_of_mem hd; have := hf i; rw [← hx] at this; simpa [List.getD, hi] using this) ⟨hr, fun p hm => by obtain ⟨i, hi, rfl⟩ := List.getElem_of_mem hm; have := hp i hi; rwa [getD_get hi] at this⟩ x).mono ?_
  rw [hx]
  rintro e w' (⟨h1, rfl, hs⟩ | ⟨ao, cp, qs, h1, rfl, hs⟩)
  · exact ⟨_, by unfold rootY2; rw [h1], by unfold rootY; rw [h1]; exact own_nil _ _, hs.bel⟩
  · exact ⟨_, by unfold rootY2; rw [h1], by unfold rootY; rw [h1]; exact RaidD.st_own hs rfl, hs.bel⟩

theorem implRootW_own (v : Value) (r : RaidD) (x : RootD) (w : World) (hf : ∀ k, (r.fDisks.getD k default).fits) (hr : RaidD.Reads w v r) (hrl0 : r.fDisks.length ≤ 1048576) (hT : TabP w) : Calls Tryz.prog 11 #[v, .agg #[.int .i64 x.fTxg, .int .i64 x.fMeta.fRoot.fAt, .int .i64 x.fMeta.fRoot.fBirth, .int .i64 x.fMeta.fRoot.fSize, .int .i64 x.fMeta.fRoot.fSum, .int .i64 x.fMeta.fRoot.fLevel, .int .i64 x.fMeta.fDepth, .int .i64 x.fMeta.fMany]] w fun e w' => ∃ v', e = .returned (.tuple #[v', .bool (rootY2 r x)]) ∧ RaidD.Own w' w.heap.size w'.heap.size v' (rootY r x) ∧ Below w.heap.size w w' := by
  obtain ⟨a, c, ps, rfl, hx, hr, hp⟩ := hr
  have hl : ps.length ≤ 1048576 := by rw [← dsOf_len, hx]; exact hrl0
  refine (implRootWrite_any a c ps w hl (fitsL_of fun d hd => by obtain ⟨i, hi, rfl⟩ := List.getElem_of_mem hd; have := hf i; rw [← hx] at this; simpa [List.getD, hi] using this) ⟨hr, fun p hm => by obtain ⟨i, hi, rfl⟩ := List.getElem_of_mem hm; have := hp i hi; rwa [getD_get hi] at this⟩ hT x).mono ?_
  rw [hx]
  rintro e w' (⟨h1, rfl, hs⟩ | ⟨ao, cp, qs, h1, rfl, hs⟩)
  · exact ⟨_, by unfold rootY2; rw [h1], by unfold rootY; rw [h1]; exact own_nil _ _, hs.bel⟩
  · exact ⟨_, by unfold rootY2; rw [h1], by unfold rootY; rw [h1]; exact RaidD.st_own hs rfl, hs.bel⟩

set_option maxHeartbeats 4000000 in
theorem lawRootWrite_any (va : Value) (r : RaidD) (x : RootD) (w0 : World) (hT : TabP w0) (hr : RaidD.Reads w0 va r) (hsm : r.Small) : Calls Tryz.prog 3 #[va, .agg #[.int .i64 x.fTxg, .int .i64 x.fMeta.fRoot.fAt, .int .i64 x.fMeta.fRoot.fBirth, .int .i64 x.fMeta.fRoot.fSize, .int .i64 x.fMeta.fRoot.fSum, .int .i64 x.fMeta.fRoot.fLevel, .int .i64 x.fMeta.fDepth, .int .i64 x.fMeta.fMany]] w0 fun e w' => e = .returned (.bool true) ∧ Below w0.heap.size w0 w' := by
 have HR := Bx.mk hr; have HT := Bx.mk hT; clear hT
 obtain ⟨a0, c0, ps, rfl, _⟩ := hr
 have HS := Bx.mk (St.start w0)
 refine wc_enter Tryz.func3 rfl Tryz.ntmps3 [(0, .agg #[.slice a0 ps.length c0]), (1, .agg #[.int .i64 x.fTxg, .int .i64 x.fMeta.fRoot.fAt, .int .i64 x.fMeta.fRoot.fBirth, .int .i64 x.fMeta.fRoot.fSize, .int .i64 x.fMeta.fRoot.fSum, .int .i64 x.fMeta.fRoot.fLevel, .int .i64 x.fMeta.fDepth, .int .i64 x.fMeta.fMany])] ⟨rfl, rfl, trivial⟩ rfl ?_; intro a HF
 refine wp_sr ?_
 refine wl_box rfl HF rfl (HF.ev rfl) (Z := [.slice a0 ps.length c0]) rfl rfl rfl rfl HS.out ?_; clear HF HS a; intro a w1 b1 HF HS; replace HS := Bx.mk HS
 refine wl_box rfl HF rfl (HF.ev rfl) (Z := [.int .i64 x.fTxg, .int .i64 x.fMeta.fRoot.fAt, .int .i64 x.fMeta.fRoot.fBirth, .int .i64 x.fMeta.fRoot.fSize, .int .i64 x.fMeta.fRoot.fSum, .int .i64 x.fMeta.fRoot.fLevel, .int .i64 x.fMeta.fDepth, .int .i64 x.fMeta.fMany]) rfl rfl rfl rfl HS.out ?_; clear HF HS a; intro a w2 b2 HF HS; replace HS := Bx.mk HS
 refine wl_as HF rfl rfl rfl rfl rfl ?_; clear HF a; intro a HF
 refine wl_ne ?_
 refine wp_sr ?_
 refine wl_as HF rfl rfl rfl rfl rfl ?_; clear HF a; intro a HF
 refine wl_ne ?_
 refine wp_sr ?_
 refine wl_y rfl HF rfl rfl (yl_loadR (cs := [.slice a0 ps.length c0]) rfl (HF.ev rfl) ((HS.out.box 1 rfl).sub 0 1) (by kernel_rfl)) ?_; clear HF a; intro a HF
 refine wl_mv HF rfl rfl rfl rfl rfl ?_; clear HF a; intro a HF
 refine wl_callB rfl HF rfl (enter_of Tryz.func7 (by kernel_rfl) rfl) (args := #[.agg #[.slice a0 ps.length c0], .int .i64 1048576]) rfl (v := .int .i64 (leftOf 1048576 r.bulk)) (szRaid_any _ r 1048576 _ (by omega) (by omega) (HR.out.below HS.out.bel) hsm) rfl rfl HS.out ?_; clear HF HS a; intro w3 a HS HF; replace HS := Bx.mk HS
 refine wl_as HF rfl rfl rfl rfl rfl ?_; clear HF a; intro a HF
 refine wl_ne ?_
 refine wp_seq ?_
 refine wp_sr ?_
 refine wl_mv HF rfl rfl rfl rfl rfl ?_; clear HF a; intro a HF
 refine wl_y rfl HF rfl rfl (yl_lssI rfl (HF.ev rfl) (HF.ev rfl)) ?_; clear HF a; intro a HF
 refine wl_ne ?_
 refine HF.cases 20 rfl (fun cc1 HF1 => ?_) (fun cc1 HF1 => ?_)
 ·clear HF; have HF := HF1; clear HF1
  refine wc_true HF rfl ?_
  refine wp_sr ?_
  refine wl_as HF rfl rfl rfl rfl rfl ?_; clear HF a; intro a HF
  refine wl_ne ?_
  refine wp_ret ?_
  refine ex_then_ret ?_
  refine bp_ret1 HF Tryz.results3 (HF.res rfl) ?_
  exact ⟨rfl, HS.out.bel⟩
 ·clear HF; have HF := HF1; clear HF1
  have hbk : r.bulk ≤ 1048576 := by have := of_decide_eq_false cc1; unfold leftOf at this; split at this <;> omega
  have hf := RaidD.fit hbk; have hft := RaidD.fits hbk; have hfy : (rootY r x).Fit := rootY_fit x hf
  refine wc_false HF rfl ?_
  refine wp_skip ?_
  refine ex_then ?_
  refine wp_seq ?_
  refine wp_join (R := fun a w => ∃ (b9 : Nat) (u6 : Value) (B7 : Nat) (C8 : Nat) (B4 : Nat) (C5 : Nat) (u3 : Value), Fr 104 a [(0, .agg #[.slice a0 ps.length c0]), (1, .agg #[.int .i64 x.fTxg, .int .i64 x.fMeta.fRoot.fAt, .int .i64 x.fMeta.fRoot.fBirth, .int .i64 x.fMeta.fRoot.fSize, .int .i64 x.fMeta.fRoot.fSum, .int .i64 x.fMeta.fRoot.fLevel, .int .i64 x.fMeta.fDepth, .int .i64 x.fMeta.fMany]), (2, .pointer (some ⟨b1, 0, none⟩)), (3, .pointer (some ⟨b2, 0, none⟩)), (4, .bool false), (5, .int .i64 (leftOf 1048576 r.bulk)), (16, .agg #[.slice a0 ps.length c0]), (17, .int .i64 1048576), (18, .int .i64 (leftOf 1048576 r.bulk)), (19, .int .i64 (leftOf 1048576 r.bulk)), (20, .bool false), (6, .pointer (some ⟨b9, 0, none⟩)), (7, .bool (rootY2 r x))] ∧ St w0 ([boxA b9 1 34 u6, ivA RaidD.Own RaidD.Own.loc B7 C8 u6 (rootY r x), ivA RaidD.Own RaidD.Own.loc B4 C5 u3 r, boxA b2 8 30 (.agg #[.int .i64 x.fTxg, .int .i64 x.fMeta.fRoot.fAt, .int .i64 x.fMeta.fRoot.fBirth, .int .i64 x.fMeta.fRoot.fSize, .int .i64 x.fMeta.fRoot.fSum, .int .i64 x.fMeta.fRoot.fLevel, .int .i64 x.fMeta.fDepth, .int .i64 x.fMeta.fMany]), boxA b1 1 24 (.agg #[.slice a0 ps.length c0])]) w) ?_ ?_
  ·skip
   refine wr_heldS (s := [boxA b2 8 30 (.agg #[.int .i64 x.fTxg, .int .i64 x.fMeta.fRoot.fAt, .int .i64 x.fMeta.fRoot.fBirth, .int .i64 x.fMeta.fRoot.fSize, .int .i64 x.fMeta.fRoot.fSum, .int .i64 x.fMeta.fRoot.fLevel, .int .i64 x.fMeta.fDepth, .int .i64 x.fMeta.fMany]), boxA b1 1 24 (.agg #[.slice a0 ps.length c0])]) (by kernel_rfl) (St.drew (HS.out)) ?_
   have HS2 := Bx.mk HS.out.drew; replace HS := Bx.mk (show St w0 ([boxA b2 8 30 (.agg #[.int .i64 x.fTxg, .int .i64 x.fMeta.fRoot.fAt, .int .i64 x.fMeta.fRoot.fBirth, .int .i64 x.fMeta.fRoot.fSize, .int .i64 x.fMeta.fRoot.fSum, .int .i64 x.fMeta.fRoot.fLevel, .int .i64 x.fMeta.fDepth, .int .i64 x.fMeta.fMany]), boxA b1 1 24 (.agg #[.slice a0 ps.length c0])]) _ from HS.out.drew)
   generalize World.drew _ = w4 at HS HS2 ⊢
   refine wh_y 0 rfl (by kernel_rfl) (by kernel_rfl) (by kernel_rfl) (fun _ _ _ h => h) rfl HF rfl rfl (fun _ HS => (yl_loadR (cs := [.slice a0 ps.length c0]) rfl (HF.ev rfl) ((HS.box 1 rfl).sub 0 1) (by kernel_rfl))) HS.out ?_; clear HF a; intro a HF
   refine wh_y 2 rfl (by kernel_rfl) (by kernel_rfl) (by kernel_rfl) (fun _ _ _ h => h) rfl HF rfl rfl (fun _ HS => (yl_loadR (cs := [.int .i64 x.fTxg, .int .i64 x.fMeta.fRoot.fAt, .int .i64 x.fMeta.fRoot.fBirth, .int .i64 x.fMeta.fRoot.fSize, .int .i64 x.fMeta.fRoot.fSum, .int .i64 x.fMeta.fRoot.fLevel, .int .i64 x.fMeta.fDepth, .int .i64 x.fMeta.fMany]) rfl (HF.ev rfl) ((HS.box 0 rfl).sub 0 8) (by kernel_rfl))) HS.out ?_; clear HF a; intro a HF
   refine wh_two 1 8 (by kernel_rfl) ?_ ?_
   ·skip
    refine wo_call rfl rfl HF rfl (enter_of Tryz.func9 (by kernel_rfl) rfl) (args := #[.agg #[.slice a0 ps.length c0]]) rfl (toRaid_any _ r _ hf (HR.out.below HS.out.bel)) rfl rfl ?_
    rintro _ w6 ⟨u3, rfl, ho, hb⟩
    refine ⟨_, rfl, ?_⟩; replace HS := Bx.mk (HS.out.later hb); replace HS2 := Bx.mk (HS2.out.add (St.ivNew (loc := RaidD.Own.loc) ho hb)); clear ho hb HF; clear a; intro a HF; refine ⟨HS.out, ?_⟩
    obtain ⟨B4, C5, hh⟩ : ∃ B B1, St w0 ([ivA RaidD.Own RaidD.Own.loc B B1 u3 r, boxA b2 8 30 (.agg #[.int .i64 x.fTxg, .int .i64 x.fMeta.fRoot.fAt, .int .i64 x.fMeta.fRoot.fBirth, .int .i64 x.fMeta.fRoot.fSize, .int .i64 x.fMeta.fRoot.fSum, .int .i64 x.fMeta.fRoot.fLevel, .int .i64 x.fMeta.fDepth, .int .i64 x.fMeta.fMany]), boxA b1 1 24 (.agg #[.slice a0 ps.length c0])]) w6 := ⟨_, _, HS2.out⟩; replace HS2 := Bx.mk hh; clear hh
    refine wh_two 3 8 (by kernel_rfl) ?_ ?_
    ·skip
     refine wo_callB rfl rfl HF rfl (enter_of Tryz.func10 (by kernel_rfl) rfl) (args := #[.agg #[.int .i64 x.fTxg, .int .i64 x.fMeta.fRoot.fAt, .int .i64 x.fMeta.fRoot.fBirth, .int .i64 x.fMeta.fRoot.fSize, .int .i64 x.fMeta.fRoot.fSum, .int .i64 x.fMeta.fRoot.fLevel, .int .i64 x.fMeta.fDepth, .int .i64 x.fMeta.fMany]]) rfl (v := .agg #[.int .i64 x.fTxg, .int .i64 x.fMeta.fRoot.fAt, .int .i64 x.fMeta.fRoot.fBirth, .int .i64 x.fMeta.fRoot.fSize, .int .i64 x.fMeta.fRoot.fSum, .int .i64 x.fMeta.fRoot.fLevel, .int .i64 x.fMeta.fDepth, .int .i64 x.fMeta.fMany]) (toRoot_any x _) rfl rfl ?_
     intro w7 hb; replace HS := Bx.mk (HS.out.later hb); replace HS2 := Bx.mk (HS2.out.later hb); clear hb HF; clear a; intro a HF; refine ⟨HS.out, ?_⟩
     refine wh_two 4 8 (by kernel_rfl) ?_ ?_
     ·skip
      refine wo_call rfl rfl HF rfl (enter_of Tryz.func8 (by kernel_rfl) rfl) (args := #[u3, .agg #[.int .i64 x.fTxg, .int .i64 x.fMeta.fRoot.fAt, .int .i64 x.fMeta.fRoot.fBirth, .int .i64 x.fMeta.fRoot.fSize, .int .i64 x.fMeta.fRoot.fSum, .int .i64 x.fMeta.fRoot.fLevel, .int .i64 x.fMeta.fDepth, .int .i64 x.fMeta.fMany]]) rfl (specRootW_own _ r x _ hft (RaidD.Own.rd (HS2.out.iv 0 rfl)) hf.n) rfl rfl ?_
      rintro _ w9 ⟨u6, rfl, ho, hb⟩
      refine ⟨_, rfl, ?_⟩; replace HS := Bx.mk (HS.out.later hb); replace HS2 := Bx.mk (HS2.out.add (St.ivNew (loc := RaidD.Own.loc) ho hb)); clear ho hb HF; clear a; intro a HF; refine ⟨HS.out, ?_⟩
      obtain ⟨B7, C8, hh⟩ : ∃ B B1, St w0 ([ivA RaidD.Own RaidD.Own.loc B B1 u6 (rootY r x), ivA RaidD.Own RaidD.Own.loc B4 C5 u3 r, boxA b2 8 30 (.agg #[.int .i64 x.fTxg, .int .i64 x.fMeta.fRoot.fAt, .int .i64 x.fMeta.fRoot.fBirth, .int .i64 x.fMeta.fRoot.fSize, .int .i64 x.fMeta.fRoot.fSum, .int .i64 x.fMeta.fRoot.fLevel, .int .i64 x.fMeta.fDepth, .int .i64 x.fMeta.fMany]), boxA b1 1 24 (.agg #[.slice a0 ps.length c0])]) w9 := ⟨_, _, HS2.out⟩; replace HS2 := Bx.mk hh; clear hh
      refine wh_y 5 rfl (by kernel_rfl) (by kernel_rfl) (by kernel_rfl) (fun _ _ _ h => h) rfl HF rfl rfl (fun _ HS => (yl_move rfl (HF.ev rfl))) HS.out ?_; clear HF a; intro a HF
      refine wh_y 6 rfl (by kernel_rfl) (by kernel_rfl) (by kernel_rfl) (fun _ _ _ h => h) rfl HF rfl rfl (fun _ HS => (yl_extract rfl (HF.ev rfl) rfl)) HS.out ?_; clear HF a; intro a HF
      refine wh_y 7 rfl (by kernel_rfl) (by kernel_rfl) (by kernel_rfl) (fun _ _ _ h => h) rfl HF rfl rfl (fun _ HS => (yl_extract rfl (HF.ev rfl) rfl)) HS.out ?_; clear HF a; intro a HF
      refine wh_one 8 (by kernel_rfl) ?_
      refine wo_alloc rfl rfl HF rfl rfl rfl (Z := [.slice none 0 0]) (by kernel_rfl) rfl HS2.out HS.out ?_; clear HF HS HS2 a; intro a w10 b9 HF HS2 HS; replace HS := Bx.mk HS; replace HS2 := Bx.mk HS2; refine ⟨HS.out, ?_⟩
      refine wh_one 9 (by kernel_rfl) ?_
      refine wo_storeBox rfl rfl rfl rfl (HF.ev rfl) (HF.ev rfl) HS2.out 0 rfl (RaidD.Own.cells (HS2.out.iv 1 rfl)) (by kernel_rfl) ?_
      clear HS HS2; intro w11 HS2; replace HS2 : Bx (St w0 ([boxA b9 1 34 u6, ivA RaidD.Own RaidD.Own.loc B7 C8 u6 (rootY r x), ivA RaidD.Own RaidD.Own.loc B4 C5 u3 r, boxA b2 8 30 (.agg #[.int .i64 x.fTxg, .int .i64 x.fMeta.fRoot.fAt, .int .i64 x.fMeta.fRoot.fBirth, .int .i64 x.fMeta.fRoot.fSize, .int .i64 x.fMeta.fRoot.fSum, .int .i64 x.fMeta.fRoot.fLevel, .int .i64 x.fMeta.fDepth, .int .i64 x.fMeta.fMany]), boxA b1 1 24 (.agg #[.slice a0 ps.length c0])]) _) := ⟨HS2⟩
      have HS : Bx (St w0 ([boxA b2 8 30 (.agg #[.int .i64 x.fTxg, .int .i64 x.fMeta.fRoot.fAt, .int .i64 x.fMeta.fRoot.fBirth, .int .i64 x.fMeta.fRoot.fSize, .int .i64 x.fMeta.fRoot.fSum, .int .i64 x.fMeta.fRoot.fLevel, .int .i64 x.fMeta.fDepth, .int .i64 x.fMeta.fMany]), boxA b1 1 24 (.agg #[.slice a0 ps.length c0])]) _) := ⟨(((HS2.out.erase 2).erase 1).erase 0)⟩; refine ⟨HS.out, ?_⟩
      refine wh_y 10 rfl (by kernel_rfl) (by kernel_rfl) (by kernel_rfl) (fun _ _ _ h => h) rfl HF rfl rfl (fun _ HS => (yl_assign rfl (HF.ev rfl))) HS.out ?_; clear HF a; intro a HF
      refine wh_done (by kernel_rfl) ?_
      replace HS := HS2; clear HS2
      exact on_mk ⟨_, _, _, _, _, _, _, HF.less _ ⟨rfl, rfl, rfl, rfl, rfl, rfl, rfl, rfl, rfl, rfl, rfl, rfl, rfl, trivial⟩, HS.out⟩
     ·skip
      refine wo_alloc rfl rfl HF rfl rfl rfl (Z := [.slice none 0 0]) (by kernel_rfl) rfl HS2.out HS.out ?_; clear HF HS HS2 a; intro a w12 b10 HF HS2 HS; replace HS := Bx.mk HS; replace HS2 := Bx.mk HS2; refine ⟨HS.out, ?_⟩
      refine wh_one 4 (by kernel_rfl) ?_
      refine wo_call rfl rfl HF rfl (enter_of Tryz.func8 (by kernel_rfl) rfl) (args := #[u3, .agg #[.int .i64 x.fTxg, .int .i64 x.fMeta.fRoot.fAt, .int .i64 x.fMeta.fRoot.fBirth, .int .i64 x.fMeta.fRoot.fSize, .int .i64 x.fMeta.fRoot.fSum, .int .i64 x.fMeta.fRoot.fLevel, .int .i64 x.fMeta.fDepth, .int .i64 x.fMeta.fMany]]) rfl (specRootW_own _ r x _ hft (RaidD.Own.rd (HS2.out.iv 1 rfl)) hf.n) rfl rfl ?_
      rintro _ w14 ⟨u11, rfl, ho, hb⟩
      refine ⟨_, rfl, ?_⟩; replace HS := Bx.mk (HS.out.later hb); replace HS2 := Bx.mk (HS2.out.add (St.ivNew (loc := RaidD.Own.loc) ho hb)); clear ho hb HF; clear a; intro a HF; refine ⟨HS.out, ?_⟩
      obtain ⟨B12, C13, hh⟩ : ∃ B B1, St w0 ([ivA RaidD.Own RaidD.Own.loc B B1 u11 (rootY r x), boxA b10 1 34 (.agg #[.slice none 0 0]), ivA RaidD.Own RaidD.Own.loc B4 C5 u3 r, boxA b2 8 30 (.agg #[.int .i64 x.fTxg, .int .i64 x.fMeta.fRoot.fAt, .int .i64 x.fMeta.fRoot.fBirth, .int .i64 x.fMeta.fRoot.fSize, .int .i64 x.fMeta.fRoot.fSum, .int .i64 x.fMeta.fRoot.fLevel, .int .i64 x.fMeta.fDepth, .int .i64 x.fMeta.fMany]), boxA b1 1 24 (.agg #[.slice a0 ps.length c0])]) w14 := ⟨_, _, HS2.out⟩; replace HS2 := Bx.mk hh; clear hh
      refine wh_y 5 rfl (by kernel_rfl) (by kernel_rfl) (by kernel_rfl) (fun _ _ _ h => h) rfl HF rfl rfl (fun _ HS => (yl_move rfl (HF.ev rfl))) HS.out ?_; clear HF a; intro a HF
      refine wh_y 6 rfl (by kernel_rfl) (by kernel_rfl) (by kernel_rfl) (fun _ _ _ h => h) rfl HF rfl rfl (fun _ HS => (yl_extract rfl (HF.ev rfl) rfl)) HS.out ?_; clear HF a; intro a HF
      refine wh_y 7 rfl (by kernel_rfl) (by kernel_rfl) (by kernel_rfl) (fun _ _ _ h => h) rfl HF rfl rfl (fun _ HS => (yl_extract rfl (HF.ev rfl) rfl)) HS.out ?_; clear HF a; intro a HF
      refine wh_one 9 (by kernel_rfl) ?_
      refine wo_storeBox rfl rfl rfl rfl (HF.ev rfl) (HF.ev rfl) HS2.out 1 rfl (RaidD.Own.cells (HS2.out.iv 0 rfl)) (by kernel_rfl) ?_
      clear HS HS2; intro w15 HS2; replace HS2 : Bx (St w0 ([ivA RaidD.Own RaidD.Own.loc B12 C13 u11 (rootY r x), boxA b10 1 34 u11, ivA RaidD.Own RaidD.Own.loc B4 C5 u3 r, boxA b2 8 30 (.agg #[.int .i64 x.fTxg, .int .i64 x.fMeta.fRoot.fAt, .int .i64 x.fMeta.fRoot.fBirth, .int .i64 x.fMeta.fRoot.fSize, .int .i64 x.fMeta.fRoot.fSum, .int .i64 x.fMeta.fRoot.fLevel, .int .i64 x.fMeta.fDepth, .int .i64 x.fMeta.fMany]), boxA b1 1 24 (.agg #[.slice a0 ps.length c0])]) _) := ⟨HS2⟩
      have HS : Bx (St w0 ([boxA b2 8 30 (.agg #[.int .i64 x.fTxg, .int .i64 x.fMeta.fRoot.fAt, .int .i64 x.fMeta.fRoot.fBirth, .int .i64 x.fMeta.fRoot.fSize, .int .i64 x.fMeta.fRoot.fSum, .int .i64 x.fMeta.fRoot.fLevel, .int .i64 x.fMeta.fDepth, .int .i64 x.fMeta.fMany]), boxA b1 1 24 (.agg #[.slice a0 ps.length c0])]) _) := ⟨(((HS2.out.erase 2).erase 1).erase 0)⟩; refine ⟨HS.out, ?_⟩
      refine wh_y 10 rfl (by kernel_rfl) (by kernel_rfl) (by kernel_rfl) (fun _ _ _ h => h) rfl HF rfl rfl (fun _ HS => (yl_assign rfl (HF.ev rfl))) HS.out ?_; clear HF a; intro a HF
      refine wh_done (by kernel_rfl) ?_
      replace HS := HS2; clear HS2
      replace HS : Bx (St w0 ([boxA b10 1 34 u11, ivA RaidD.Own RaidD.Own.loc B12 C13 u11 (rootY r x), ivA RaidD.Own RaidD.Own.loc B4 C5 u3 r, boxA b2 8 30 (.agg #[.int .i64 x.fTxg, .int .i64 x.fMeta.fRoot.fAt, .int .i64 x.fMeta.fRoot.fBirth, .int .i64 x.fMeta.fRoot.fSize, .int .i64 x.fMeta.fRoot.fSum, .int .i64 x.fMeta.fRoot.fLevel, .int .i64 x.fMeta.fDepth, .int .i64 x.fMeta.fMany]), boxA b1 1 24 (.agg #[.slice a0 ps.length c0])]) _) := ⟨(((((HS.out).pick 4 rfl).pick 4 rfl).pick 4 rfl).pick 3 rfl).pick 4 rfl⟩
      exact on_mk ⟨_, _, _, _, _, _, _, HF.less _ ⟨rfl, rfl, rfl, rfl, rfl, rfl, rfl, rfl, rfl, rfl, rfl, rfl, rfl, trivial⟩, HS.out⟩
    ·skip
     refine wo_alloc rfl rfl HF rfl rfl rfl (Z := [.slice none 0 0]) (by kernel_rfl) rfl HS2.out HS.out ?_; clear HF HS HS2 a; intro a w16 b14 HF HS2 HS; replace HS := Bx.mk HS; replace HS2 := Bx.mk HS2; refine ⟨HS.out, ?_⟩
     refine wh_one 3 (by kernel_rfl) ?_
     refine wo_callB rfl rfl HF rfl (enter_of Tryz.func10 (by kernel_rfl) rfl) (args := #[.agg #[.int .i64 x.fTxg, .int .i64 x.fMeta.fRoot.fAt, .int .i64 x.fMeta.fRoot.fBirth, .int .i64 x.fMeta.fRoot.fSize, .int .i64 x.fMeta.fRoot.fSum, .int .i64 x.fMeta.fRoot.fLevel, .int .i64 x.fMeta.fDepth, .int .i64 x.fMeta.fMany]]) rfl (v := .agg #[.int .i64 x.fTxg, .int .i64 x.fMeta.fRoot.fAt, .int .i64 x.fMeta.fRoot.fBirth, .int .i64 x.fMeta.fRoot.fSize, .int .i64 x.fMeta.fRoot.fSum, .int .i64 x.fMeta.fRoot.fLevel, .int .i64 x.fMeta.fDepth, .int .i64 x.fMeta.fMany]) (toRoot_any x _) rfl rfl ?_
     intro w17 hb; replace HS := Bx.mk (HS.out.later hb); replace HS2 := Bx.mk (HS2.out.later hb); clear hb HF; clear a; intro a HF; refine ⟨HS.out, ?_⟩
     refine wh_one 4 (by kernel_rfl) ?_
     refine wo_call rfl rfl HF rfl (enter_of Tryz.func8 (by kernel_rfl) rfl) (args := #[u3, .agg #[.int .i64 x.fTxg, .int .i64 x.fMeta.fRoot.fAt, .int .i64 x.fMeta.fRoot.fBirth, .int .i64 x.fMeta.fRoot.fSize, .int .i64 x.fMeta.fRoot.fSum, .int .i64 x.fMeta.fRoot.fLevel, .int .i64 x.fMeta.fDepth, .int .i64 x.fMeta.fMany]]) rfl (specRootW_own _ r x _ hft (RaidD.Own.rd (HS2.out.iv 1 rfl)) hf.n) rfl rfl ?_
     rintro _ w19 ⟨u15, rfl, ho, hb⟩
     refine ⟨_, rfl, ?_⟩; replace HS := Bx.mk (HS.out.later hb); replace HS2 := Bx.mk (HS2.out.add (St.ivNew (loc := RaidD.Own.loc) ho hb)); clear ho hb HF; clear a; intro a HF; refine ⟨HS.out, ?_⟩
     obtain ⟨B16, C17, hh⟩ : ∃ B B1, St w0 ([ivA RaidD.Own RaidD.Own.loc B B1 u15 (rootY r x), boxA b14 1 34 (.agg #[.slice none 0 0]), ivA RaidD.Own RaidD.Own.loc B4 C5 u3 r, boxA b2 8 30 (.agg #[.int .i64 x.fTxg, .int .i64 x.fMeta.fRoot.fAt, .int .i64 x.fMeta.fRoot.fBirth, .int .i64 x.fMeta.fRoot.fSize, .int .i64 x.fMeta.fRoot.fSum, .int .i64 x.fMeta.fRoot.fLevel, .int .i64 x.fMeta.fDepth, .int .i64 x.fMeta.fMany]), boxA b1 1 24 (.agg #[.slice a0 ps.length c0])]) w19 := ⟨_, _, HS2.out⟩; replace HS2 := Bx.mk hh; clear hh
     refine wh_y 5 rfl (by kernel_rfl) (by kernel_rfl) (by kernel_rfl) (fun _ _ _ h => h) rfl HF rfl rfl (fun _ HS => (yl_move rfl (HF.ev rfl))) HS.out ?_; clear HF a; intro a HF
     refine wh_y 6 rfl (by kernel_rfl) (by kernel_rfl) (by kernel_rfl) (fun _ _ _ h => h) rfl HF rfl rfl (fun _ HS => (yl_extract rfl (HF.ev rfl) rfl)) HS.out ?_; clear HF a; intro a HF
     refine wh_y 7 rfl (by kernel_rfl) (by kernel_rfl) (by kernel_rfl) (fun _ _ _ h => h) rfl HF rfl rfl (fun _ HS => (yl_extract rfl (HF.ev rfl) rfl)) HS.out ?_; clear HF a; intro a HF
     refine wh_one 9 (by kernel_rfl) ?_
     refine wo_storeBox rfl rfl rfl rfl (HF.ev rfl) (HF.ev rfl) HS2.out 1 rfl (RaidD.Own.cells (HS2.out.iv 0 rfl)) (by kernel_rfl) ?_
     clear HS HS2; intro w20 HS2; replace HS2 : Bx (St w0 ([ivA RaidD.Own RaidD.Own.loc B16 C17 u15 (rootY r x), boxA b14 1 34 u15, ivA RaidD.Own RaidD.Own.loc B4 C5 u3 r, boxA b2 8 30 (.agg #[.int .i64 x.fTxg, .int .i64 x.fMeta.fRoot.fAt, .int .i64 x.fMeta.fRoot.fBirth, .int .i64 x.fMeta.fRoot.fSize, .int .i64 x.fMeta.fRoot.fSum, .int .i64 x.fMeta.fRoot.fLevel, .int .i64 x.fMeta.fDepth, .int .i64 x.fMeta.fMany]), boxA b1 1 24 (.agg #[.slice a0 ps.length c0])]) _) := ⟨HS2⟩
     have HS : Bx (St w0 ([boxA b2 8 30 (.agg #[.int .i64 x.fTxg, .int .i64 x.fMeta.fRoot.fAt, .int .i64 x.fMeta.fRoot.fBirth, .int .i64 x.fMeta.fRoot.fSize, .int .i64 x.fMeta.fRoot.fSum, .int .i64 x.fMeta.fRoot.fLevel, .int .i64 x.fMeta.fDepth, .int .i64 x.fMeta.fMany]), boxA b1 1 24 (.agg #[.slice a0 ps.length c0])]) _) := ⟨(((HS2.out.erase 2).erase 1).erase 0)⟩; refine ⟨HS.out, ?_⟩
     refine wh_y 10 rfl (by kernel_rfl) (by kernel_rfl) (by kernel_rfl) (fun _ _ _ h => h) rfl HF rfl rfl (fun _ HS => (yl_assign rfl (HF.ev rfl))) HS.out ?_; clear HF a; intro a HF
     refine wh_done (by kernel_rfl) ?_
     replace HS := HS2; clear HS2
     replace HS : Bx (St w0 ([boxA b14 1 34 u15, ivA RaidD.Own RaidD.Own.loc B16 C17 u15 (rootY r x), ivA RaidD.Own RaidD.Own.loc B4 C5 u3 r, boxA b2 8 30 (.agg #[.int .i64 x.fTxg, .int .i64 x.fMeta.fRoot.fAt, .int .i64 x.fMeta.fRoot.fBirth, .int .i64 x.fMeta.fRoot.fSize, .int .i64 x.fMeta.fRoot.fSum, .int .i64 x.fMeta.fRoot.fLevel, .int .i64 x.fMeta.fDepth, .int .i64 x.fMeta.fMany]), boxA b1 1 24 (.agg #[.slice a0 ps.length c0])]) _) := ⟨(((((HS.out).pick 4 rfl).pick 4 rfl).pick 4 rfl).pick 3 rfl).pick 4 rfl⟩
     exact on_mk ⟨_, _, _, _, _, _, _, HF.less _ ⟨rfl, rfl, rfl, rfl, rfl, rfl, rfl, rfl, rfl, rfl, rfl, rfl, rfl, trivial⟩, HS.out⟩
   ·skip
    refine wo_alloc rfl rfl HF rfl rfl rfl (Z := [.slice none 0 0]) (by kernel_rfl) rfl HS2.out HS.out ?_; clear HF HS HS2 a; intro a w21 b18 HF HS2 HS; replace HS := Bx.mk HS; replace HS2 := Bx.mk HS2; refine ⟨HS.out, ?_⟩
    refine wh_one 1 (by kernel_rfl) ?_
    refine wo_call rfl rfl HF rfl (enter_of Tryz.func9 (by kernel_rfl) rfl) (args := #[.agg #[.slice a0 ps.length c0]]) rfl (toRaid_any _ r _ hf (HR.out.below HS.out.bel)) rfl rfl ?_
    rintro _ w23 ⟨u19, rfl, ho, hb⟩
    refine ⟨_, rfl, ?_⟩; replace HS := Bx.mk (HS.out.later hb); replace HS2 := Bx.mk (HS2.out.add (St.ivNew (loc := RaidD.Own.loc) ho hb)); clear ho hb HF; clear a; intro a HF; refine ⟨HS.out, ?_⟩
    obtain ⟨B20, C21, hh⟩ : ∃ B B1, St w0 ([ivA RaidD.Own RaidD.Own.loc B B1 u19 r, boxA b18 1 34 (.agg #[.slice none 0 0]), boxA b2 8 30 (.agg #[.int .i64 x.fTxg, .int .i64 x.fMeta.fRoot.fAt, .int .i64 x.fMeta.fRoot.fBirth, .int .i64 x.fMeta.fRoot.fSize, .int .i64 x.fMeta.fRoot.fSum, .int .i64 x.fMeta.fRoot.fLevel, .int .i64 x.fMeta.fDepth, .int .i64 x.fMeta.fMany]), boxA b1 1 24 (.agg #[.slice a0 ps.length c0])]) w23 := ⟨_, _, HS2.out⟩; replace HS2 := Bx.mk hh; clear hh
    refine wh_one 3 (by kernel_rfl) ?_
    refine wo_callB rfl rfl HF rfl (enter_of Tryz.func10 (by kernel_rfl) rfl) (args := #[.agg #[.int .i64 x.fTxg, .int .i64 x.fMeta.fRoot.fAt, .int .i64 x.fMeta.fRoot.fBirth, .int .i64 x.fMeta.fRoot.fSize, .int .i64 x.fMeta.fRoot.fSum, .int .i64 x.fMeta.fRoot.fLevel, .int .i64 x.fMeta.fDepth, .int .i64 x.fMeta.fMany]]) rfl (v := .agg #[.int .i64 x.fTxg, .int .i64 x.fMeta.fRoot.fAt, .int .i64 x.fMeta.fRoot.fBirth, .int .i64 x.fMeta.fRoot.fSize, .int .i64 x.fMeta.fRoot.fSum, .int .i64 x.fMeta.fRoot.fLevel, .int .i64 x.fMeta.fDepth, .int .i64 x.fMeta.fMany]) (toRoot_any x _) rfl rfl ?_
    intro w24 hb; replace HS := Bx.mk (HS.out.later hb); replace HS2 := Bx.mk (HS2.out.later hb); clear hb HF; clear a; intro a HF; refine ⟨HS.out, ?_⟩
    refine wh_one 4 (by kernel_rfl) ?_
    refine wo_call rfl rfl HF rfl (enter_of Tryz.func8 (by kernel_rfl) rfl) (args := #[u19, .agg #[.int .i64 x.fTxg, .int .i64 x.fMeta.fRoot.fAt, .int .i64 x.fMeta.fRoot.fBirth, .int .i64 x.fMeta.fRoot.fSize, .int .i64 x.fMeta.fRoot.fSum, .int .i64 x.fMeta.fRoot.fLevel, .int .i64 x.fMeta.fDepth, .int .i64 x.fMeta.fMany]]) rfl (specRootW_own _ r x _ hft (RaidD.Own.rd (HS2.out.iv 0 rfl)) hf.n) rfl rfl ?_
    rintro _ w26 ⟨u22, rfl, ho, hb⟩
    refine ⟨_, rfl, ?_⟩; replace HS := Bx.mk (HS.out.later hb); replace HS2 := Bx.mk (HS2.out.add (St.ivNew (loc := RaidD.Own.loc) ho hb)); clear ho hb HF; clear a; intro a HF; refine ⟨HS.out, ?_⟩
    obtain ⟨B23, C24, hh⟩ : ∃ B B1, St w0 ([ivA RaidD.Own RaidD.Own.loc B B1 u22 (rootY r x), ivA RaidD.Own RaidD.Own.loc B20 C21 u19 r, boxA b18 1 34 (.agg #[.slice none 0 0]), boxA b2 8 30 (.agg #[.int .i64 x.fTxg, .int .i64 x.fMeta.fRoot.fAt, .int .i64 x.fMeta.fRoot.fBirth, .int .i64 x.fMeta.fRoot.fSize, .int .i64 x.fMeta.fRoot.fSum, .int .i64 x.fMeta.fRoot.fLevel, .int .i64 x.fMeta.fDepth, .int .i64 x.fMeta.fMany]), boxA b1 1 24 (.agg #[.slice a0 ps.length c0])]) w26 := ⟨_, _, HS2.out⟩; replace HS2 := Bx.mk hh; clear hh
    refine wh_y 5 rfl (by kernel_rfl) (by kernel_rfl) (by kernel_rfl) (fun _ _ _ h => h) rfl HF rfl rfl (fun _ HS => (yl_move rfl (HF.ev rfl))) HS.out ?_; clear HF a; intro a HF
    refine wh_y 6 rfl (by kernel_rfl) (by kernel_rfl) (by kernel_rfl) (fun _ _ _ h => h) rfl HF rfl rfl (fun _ HS => (yl_extract rfl (HF.ev rfl) rfl)) HS.out ?_; clear HF a; intro a HF
    refine wh_y 7 rfl (by kernel_rfl) (by kernel_rfl) (by kernel_rfl) (fun _ _ _ h => h) rfl HF rfl rfl (fun _ HS => (yl_extract rfl (HF.ev rfl) rfl)) HS.out ?_; clear HF a; intro a HF
    refine wh_one 9 (by kernel_rfl) ?_
    refine wo_storeBox rfl rfl rfl rfl (HF.ev rfl) (HF.ev rfl) HS2.out 2 rfl (RaidD.Own.cells (HS2.out.iv 0 rfl)) (by kernel_rfl) ?_
    clear HS HS2; intro w27 HS2; replace HS2 : Bx (St w0 ([ivA RaidD.Own RaidD.Own.loc B23 C24 u22 (rootY r x), ivA RaidD.Own RaidD.Own.loc B20 C21 u19 r, boxA b18 1 34 u22, boxA b2 8 30 (.agg #[.int .i64 x.fTxg, .int .i64 x.fMeta.fRoot.fAt, .int .i64 x.fMeta.fRoot.fBirth, .int .i64 x.fMeta.fRoot.fSize, .int .i64 x.fMeta.fRoot.fSum, .int .i64 x.fMeta.fRoot.fLevel, .int .i64 x.fMeta.fDepth, .int .i64 x.fMeta.fMany]), boxA b1 1 24 (.agg #[.slice a0 ps.length c0])]) _) := ⟨HS2⟩
    have HS : Bx (St w0 ([boxA b2 8 30 (.agg #[.int .i64 x.fTxg, .int .i64 x.fMeta.fRoot.fAt, .int .i64 x.fMeta.fRoot.fBirth, .int .i64 x.fMeta.fRoot.fSize, .int .i64 x.fMeta.fRoot.fSum, .int .i64 x.fMeta.fRoot.fLevel, .int .i64 x.fMeta.fDepth, .int .i64 x.fMeta.fMany]), boxA b1 1 24 (.agg #[.slice a0 ps.length c0])]) _) := ⟨(((HS2.out.erase 2).erase 1).erase 0)⟩; refine ⟨HS.out, ?_⟩
    refine wh_y 10 rfl (by kernel_rfl) (by kernel_rfl) (by kernel_rfl) (fun _ _ _ h => h) rfl HF rfl rfl (fun _ HS => (yl_assign rfl (HF.ev rfl))) HS.out ?_; clear HF a; intro a HF
    refine wh_done (by kernel_rfl) ?_
    replace HS := HS2; clear HS2
    replace HS : Bx (St w0 ([boxA b18 1 34 u22, ivA RaidD.Own RaidD.Own.loc B23 C24 u22 (rootY r x), ivA RaidD.Own RaidD.Own.loc B20 C21 u19 r, boxA b2 8 30 (.agg #[.int .i64 x.fTxg, .int .i64 x.fMeta.fRoot.fAt, .int .i64 x.fMeta.fRoot.fBirth, .int .i64 x.fMeta.fRoot.fSize, .int .i64 x.fMeta.fRoot.fSum, .int .i64 x.fMeta.fRoot.fLevel, .int .i64 x.fMeta.fDepth, .int .i64 x.fMeta.fMany]), boxA b1 1 24 (.agg #[.slice a0 ps.length c0])]) _) := ⟨(((((HS.out).pick 4 rfl).pick 4 rfl).pick 3 rfl).pick 3 rfl).pick 4 rfl⟩
    exact on_mk ⟨_, _, _, _, _, _, _, HF.less _ ⟨rfl, rfl, rfl, rfl, rfl, rfl, rfl, rfl, rfl, rfl, rfl, rfl, rfl, trivial⟩, HS.out⟩
  clear HF HS a; rintro a w28 ⟨b9, u6, B7, C8, B4, C5, u3, HF, HS⟩; replace HS := Bx.mk HS
  refine ex_then ?_
  refine wp_sr ?_
  refine wl_y rfl HF rfl rfl (yl_loadR (cs := [.slice a0 ps.length c0]) rfl (HF.ev rfl) ((HS.out.box 4 rfl).sub 0 1) (by kernel_rfl)) ?_; clear HF a; intro a HF
  refine wl_call rfl HF rfl (enter_of Tryz.func9 (by kernel_rfl) rfl) (args := #[.agg #[.slice a0 ps.length c0]]) rfl (toRaid_any _ r _ hf (HR.out.below HS.out.bel)) rfl rfl ?_
  rintro _ w29 ⟨u25, rfl, ho, hb⟩
  refine ⟨_, rfl, ?_⟩; replace HS := Bx.mk (HS.out.add (St.ivNew (loc := RaidD.Own.loc) ho hb)); clear ho hb HF; clear a; intro a HF
  obtain ⟨B26, C27, hh⟩ : ∃ B B1, St w0 ([ivA RaidD.Own RaidD.Own.loc B B1 u25 r, boxA b9 1 34 u6, ivA RaidD.Own RaidD.Own.loc B7 C8 u6 (rootY r x), ivA RaidD.Own RaidD.Own.loc B4 C5 u3 r, boxA b2 8 30 (.agg #[.int .i64 x.fTxg, .int .i64 x.fMeta.fRoot.fAt, .int .i64 x.fMeta.fRoot.fBirth, .int .i64 x.fMeta.fRoot.fSize, .int .i64 x.fMeta.fRoot.fSum, .int .i64 x.fMeta.fRoot.fLevel, .int .i64 x.fMeta.fDepth, .int .i64 x.fMeta.fMany]), boxA b1 1 24 (.agg #[.slice a0 ps.length c0])]) w29 := ⟨_, _, HS.out⟩; replace HS := Bx.mk hh; clear hh
  refine wl_alloc rfl HF rfl rfl rfl (Z := [.slice none 0 0]) (by kernel_rfl) rfl HS.out ?_; clear HF HS a; intro a w30 b28 HF HS; replace HS := Bx.mk HS
  refine wl_storeBox rfl HF rfl rfl (HF.ev rfl) (HF.ev rfl) HS.out 0 rfl (RaidD.Own.cells (HS.out.iv 1 rfl)) (by kernel_rfl) ?_; clear HS; intro w31 HS; replace HS := Bx.mk HS
  have HS : Bx (St w0 ([boxA b28 1 34 u25, ivA RaidD.Own RaidD.Own.loc B26 C27 u25 r, boxA b9 1 34 u6, ivA RaidD.Own RaidD.Own.loc B7 C8 u6 (rootY r x), ivA RaidD.Own RaidD.Own.loc B4 C5 u3 r, boxA b2 8 30 (.agg #[.int .i64 x.fTxg, .int .i64 x.fMeta.fRoot.fAt, .int .i64 x.fMeta.fRoot.fBirth, .int .i64 x.fMeta.fRoot.fSize, .int .i64 x.fMeta.fRoot.fSum, .int .i64 x.fMeta.fRoot.fLevel, .int .i64 x.fMeta.fDepth, .int .i64 x.fMeta.fMany]), boxA b1 1 24 (.agg #[.slice a0 ps.length c0])]) _) := HS
  refine wl_ne ?_
  refine wp_seq ?_
  refine wp_join (R := fun a w => ∃ (b32 : Nat) (u29 : Value) (B30 : Nat) (C31 : Nat), Fr 104 a [(0, .agg #[.slice a0 ps.length c0]), (1, .agg #[.int .i64 x.fTxg, .int .i64 x.fMeta.fRoot.fAt, .int .i64 x.fMeta.fRoot.fBirth, .int .i64 x.fMeta.fRoot.fSize, .int .i64 x.fMeta.fRoot.fSum, .int .i64 x.fMeta.fRoot.fLevel, .int .i64 x.fMeta.fDepth, .int .i64 x.fMeta.fMany]), (2, .pointer (some ⟨b1, 0, none⟩)), (3, .pointer (some ⟨b2, 0, none⟩)), (4, .bool false), (5, .int .i64 (leftOf 1048576 r.bulk)), (16, .agg #[.slice a0 ps.length c0]), (17, .int .i64 1048576), (18, .int .i64 (leftOf 1048576 r.bulk)), (19, .int .i64 (leftOf 1048576 r.bulk)), (20, .bool false), (6, .pointer (some ⟨b9, 0, none⟩)), (7, .bool (rootY2 r x)), (29, .agg #[.slice a0 ps.length c0]), (30, u25), (8, .pointer (some ⟨b28, 0, none⟩)), (9, .pointer (some ⟨b32, 0, none⟩)), (10, .bool (rootY2 r x))] ∧ St w0 ([boxA b32 1 34 u29, ivA RaidD.Own RaidD.Own.loc B30 C31 u29 (rootY r x), boxA b28 1 34 u25, ivA RaidD.Own RaidD.Own.loc B26 C27 u25 r, boxA b9 1 34 u6, ivA RaidD.Own RaidD.Own.loc B7 C8 u6 (rootY r x), ivA RaidD.Own RaidD.Own.loc B4 C5 u3 r, boxA b2 8 30 (.agg #[.int .i64 x.fTxg, .int .i64 x.fMeta.fRoot.fAt, .int .i64 x.fMeta.fRoot.fBirth, .int .i64 x.fMeta.fRoot.fSize, .int .i64 x.fMeta.fRoot.fSum, .int .i64 x.fMeta.fRoot.fLevel, .int .i64 x.fMeta.fDepth, .int .i64 x.fMeta.fMany]), boxA b1 1 24 (.agg #[.slice a0 ps.length c0])]) w) ?_ ?_
  ·skip
   refine wr_heldS (s := [boxA b28 1 34 u25, ivA RaidD.Own RaidD.Own.loc B26 C27 u25 r, boxA b9 1 34 u6, ivA RaidD.Own RaidD.Own.loc B7 C8 u6 (rootY r x), ivA RaidD.Own RaidD.Own.loc B4 C5 u3 r, boxA b2 8 30 (.agg #[.int .i64 x.fTxg, .int .i64 x.fMeta.fRoot.fAt, .int .i64 x.fMeta.fRoot.fBirth, .int .i64 x.fMeta.fRoot.fSize, .int .i64 x.fMeta.fRoot.fSum, .int .i64 x.fMeta.fRoot.fLevel, .int .i64 x.fMeta.fDepth, .int .i64 x.fMeta.fMany]), boxA b1 1 24 (.agg #[.slice a0 ps.length c0])]) (by kernel_rfl) (St.drew (HS.out)) ?_
   have HS2 := Bx.mk HS.out.drew; replace HS := Bx.mk (show St w0 ([boxA b28 1 34 u25, ivA RaidD.Own RaidD.Own.loc B26 C27 u25 r, boxA b9 1 34 u6, ivA RaidD.Own RaidD.Own.loc B7 C8 u6 (rootY r x), ivA RaidD.Own RaidD.Own.loc B4 C5 u3 r, boxA b2 8 30 (.agg #[.int .i64 x.fTxg, .int .i64 x.fMeta.fRoot.fAt, .int .i64 x.fMeta.fRoot.fBirth, .int .i64 x.fMeta.fRoot.fSize, .int .i64 x.fMeta.fRoot.fSum, .int .i64 x.fMeta.fRoot.fLevel, .int .i64 x.fMeta.fDepth, .int .i64 x.fMeta.fMany]), boxA b1 1 24 (.agg #[.slice a0 ps.length c0])]) _ from HS.out.drew)
   generalize World.drew _ = w32 at HS HS2 ⊢
   refine wh_y 0 rfl (by kernel_rfl) (by kernel_rfl) (by kernel_rfl) (fun _ _ _ h => h) rfl HF rfl rfl (fun _ HS => (yl_loadB (v := u25) rfl (HF.ev rfl) (HS.box 0 rfl) (by kernel_rfl))) HS.out ?_; clear HF a; intro a HF
   refine wh_y 1 rfl (by kernel_rfl) (by kernel_rfl) (by kernel_rfl) (fun _ _ _ h => h) rfl HF rfl rfl (fun _ HS => (yl_loadR (cs := [.int .i64 x.fTxg, .int .i64 x.fMeta.fRoot.fAt, .int .i64 x.fMeta.fRoot.fBirth, .int .i64 x.fMeta.fRoot.fSize, .int .i64 x.fMeta.fRoot.fSum, .int .i64 x.fMeta.fRoot.fLevel, .int .i64 x.fMeta.fDepth, .int .i64 x.fMeta.fMany]) rfl (HF.ev rfl) ((HS.box 5 rfl).sub 0 8) (by kernel_rfl))) HS.out ?_; clear HF a; intro a HF
   refine wh_two 2 7 (by kernel_rfl) ?_ ?_
   ·skip
    refine wo_callB rfl rfl HF rfl (enter_of Tryz.func10 (by kernel_rfl) rfl) (args := #[.agg #[.int .i64 x.fTxg, .int .i64 x.fMeta.fRoot.fAt, .int .i64 x.fMeta.fRoot.fBirth, .int .i64 x.fMeta.fRoot.fSize, .int .i64 x.fMeta.fRoot.fSum, .int .i64 x.fMeta.fRoot.fLevel, .int .i64 x.fMeta.fDepth, .int .i64 x.fMeta.fMany]]) rfl (v := .agg #[.int .i64 x.fTxg, .int .i64 x.fMeta.fRoot.fAt, .int .i64 x.fMeta.fRoot.fBirth, .int .i64 x.fMeta.fRoot.fSize, .int .i64 x.fMeta.fRoot.fSum, .int .i64 x.fMeta.fRoot.fLevel, .int .i64 x.fMeta.fDepth, .int .i64 x.fMeta.fMany]) (toRoot_any x _) rfl rfl ?_
    intro w33 hb; replace HS := Bx.mk (HS.out.later hb); replace HS2 := Bx.mk (HS2.out.later hb); clear hb HF; clear a; intro a HF; refine ⟨HS.out, ?_⟩
    refine wh_two 3 7 (by kernel_rfl) ?_ ?_
    ·skip
     refine wo_call rfl rfl HF rfl (enter_of Tryz.func11 (by kernel_rfl) rfl) (args := #[u25, .agg #[.int .i64 x.fTxg, .int .i64 x.fMeta.fRoot.fAt, .int .i64 x.fMeta.fRoot.fBirth, .int .i64 x.fMeta.fRoot.fSize, .int .i64 x.fMeta.fRoot.fSum, .int .i64 x.fMeta.fRoot.fLevel, .int .i64 x.fMeta.fDepth, .int .i64 x.fMeta.fMany]]) rfl (implRootW_own _ r x _ hft (RaidD.Own.rd (HS2.out.iv 1 rfl)) hf.n (HT.out.below HS2.out.bel)) rfl rfl ?_
     rintro _ w35 ⟨u29, rfl, ho, hb⟩
     refine ⟨_, rfl, ?_⟩; replace HS := Bx.mk (HS.out.later hb); replace HS2 := Bx.mk (HS2.out.add (St.ivNew (loc := RaidD.Own.loc) ho hb)); clear ho hb HF; clear a; intro a HF; refine ⟨HS.out, ?_⟩
     obtain ⟨B30, C31, hh⟩ : ∃ B B1, St w0 ([ivA RaidD.Own RaidD.Own.loc B B1 u29 (rootY r x), boxA b28 1 34 u25, ivA RaidD.Own RaidD.Own.loc B26 C27 u25 r, boxA b9 1 34 u6, ivA RaidD.Own RaidD.Own.loc B7 C8 u6 (rootY r x), ivA RaidD.Own RaidD.Own.loc B4 C5 u3 r, boxA b2 8 30 (.agg #[.int .i64 x.fTxg, .int .i64 x.fMeta.fRoot.fAt, .int .i64 x.fMeta.fRoot.fBirth, .int .i64 x.fMeta.fRoot.fSize, .int .i64 x.fMeta.fRoot.fSum, .int .i64 x.fMeta.fRoot.fLevel, .int .i64 x.fMeta.fDepth, .int .i64 x.fMeta.fMany]), boxA b1 1 24 (.agg #[.slice a0 ps.length c0])]) w35 := ⟨_, _, HS2.out⟩; replace HS2 := Bx.mk hh; clear hh
     refine wh_y 4 rfl (by kernel_rfl) (by kernel_rfl) (by kernel_rfl) (fun _ _ _ h => h) rfl HF rfl rfl (fun _ HS => (yl_move rfl (HF.ev rfl))) HS.out ?_; clear HF a; intro a HF
     refine wh_y 5 rfl (by kernel_rfl) (by kernel_rfl) (by kernel_rfl) (fun _ _ _ h => h) rfl HF rfl rfl (fun _ HS => (yl_extract rfl (HF.ev rfl) rfl)) HS.out ?_; clear HF a; intro a HF
     refine wh_y 6 rfl (by kernel_rfl) (by kernel_rfl) (by kernel_rfl) (fun _ _ _ h => h) rfl HF rfl rfl (fun _ HS => (yl_extract rfl (HF.ev rfl) rfl)) HS.out ?_; clear HF a; intro a HF
     refine wh_one 7 (by kernel_rfl) ?_
     refine wo_alloc rfl rfl HF rfl rfl rfl (Z := [.slice none 0 0]) (by kernel_rfl) rfl HS2.out HS.out ?_; clear HF HS HS2 a; intro a w36 b32 HF HS2 HS; replace HS := Bx.mk HS; replace HS2 := Bx.mk HS2; refine ⟨HS.out, ?_⟩
     refine wh_one 8 (by kernel_rfl) ?_
     refine wo_storeBox rfl rfl rfl rfl (HF.ev rfl) (HF.ev rfl) HS2.out 0 rfl (RaidD.Own.cells (HS2.out.iv 1 rfl)) (by kernel_rfl) ?_
     clear HS HS2; intro w37 HS2; replace HS2 : Bx (St w0 ([boxA b32 1 34 u29, ivA RaidD.Own RaidD.Own.loc B30 C31 u29 (rootY r x), boxA b28 1 34 u25, ivA RaidD.Own RaidD.Own.loc B26 C27 u25 r, boxA b9 1 34 u6, ivA RaidD.Own RaidD.Own.loc B7 C8 u6 (rootY r x), ivA RaidD.Own RaidD.Own.loc B4 C5 u3 r, boxA b2 8 30 (.agg #[.int .i64 x.fTxg, .int .i64 x.fMeta.fRoot.fAt, .int .i64 x.fMeta.fRoot.fBirth, .int .i64 x.fMeta.fRoot.fSize, .int .i64 x.fMeta.fRoot.fSum, .int .i64 x.fMeta.fRoot.fLevel, .int .i64 x.fMeta.fDepth, .int .i64 x.fMeta.fMany]), boxA b1 1 24 (.agg #[.slice a0 ps.length c0])]) _) := ⟨HS2⟩
     have HS : Bx (St w0 ([boxA b28 1 34 u25, ivA RaidD.Own RaidD.Own.loc B26 C27 u25 r, boxA b9 1 34 u6, ivA RaidD.Own RaidD.Own.loc B7 C8 u6 (rootY r x), ivA RaidD.Own RaidD.Own.loc B4 C5 u3 r, boxA b2 8 30 (.agg #[.int .i64 x.fTxg, .int .i64 x.fMeta.fRoot.fAt, .int .i64 x.fMeta.fRoot.fBirth, .int .i64 x.fMeta.fRoot.fSize, .int .i64 x.fMeta.fRoot.fSum, .int .i64 x.fMeta.fRoot.fLevel, .int .i64 x.fMeta.fDepth, .int .i64 x.fMeta.fMany]), boxA b1 1 24 (.agg #[.slice a0 ps.length c0])]) _) := ⟨((HS2.out.erase 1).erase 0)⟩; refine ⟨HS.out, ?_⟩
     refine wh_y 9 rfl (by kernel_rfl) (by kernel_rfl) (by kernel_rfl) (fun _ _ _ h => h) rfl HF rfl rfl (fun _ HS => (yl_assign rfl (HF.ev rfl))) HS.out ?_; clear HF a; intro a HF
     refine wh_done (by kernel_rfl) ?_
     replace HS := HS2; clear HS2
     exact on_mk ⟨_, _, _, _, HF.less _ ⟨rfl, rfl, rfl, rfl, rfl, rfl, rfl, rfl, rfl, rfl, rfl, rfl, rfl, rfl, rfl, rfl, rfl, rfl, trivial⟩, HS.out⟩
    ·skip
     refine wo_alloc rfl rfl HF rfl rfl rfl (Z := [.slice none 0 0]) (by kernel_rfl) rfl HS2.out HS.out ?_; clear HF HS HS2 a; intro a w38 b33 HF HS2 HS; replace HS := Bx.mk HS; replace HS2 := Bx.mk HS2; refine ⟨HS.out, ?_⟩
     refine wh_one 3 (by kernel_rfl) ?_
     refine wo_call rfl rfl HF rfl (enter_of Tryz.func11 (by kernel_rfl) rfl) (args := #[u25, .agg #[.int .i64 x.fTxg, .int .i64 x.fMeta.fRoot.fAt, .int .i64 x.fMeta.fRoot.fBirth, .int .i64 x.fMeta.fRoot.fSize, .int .i64 x.fMeta.fRoot.fSum, .int .i64 x.fMeta.fRoot.fLevel, .int .i64 x.fMeta.fDepth, .int .i64 x.fMeta.fMany]]) rfl (implRootW_own _ r x _ hft (RaidD.Own.rd (HS2.out.iv 2 rfl)) hf.n (HT.out.below HS2.out.bel)) rfl rfl ?_
     rintro _ w40 ⟨u34, rfl, ho, hb⟩
     refine ⟨_, rfl, ?_⟩; replace HS := Bx.mk (HS.out.later hb); replace HS2 := Bx.mk (HS2.out.add (St.ivNew (loc := RaidD.Own.loc) ho hb)); clear ho hb HF; clear a; intro a HF; refine ⟨HS.out, ?_⟩
     obtain ⟨B35, C36, hh⟩ : ∃ B B1, St w0 ([ivA RaidD.Own RaidD.Own.loc B B1 u34 (rootY r x), boxA b33 1 34 (.agg #[.slice none 0 0]), boxA b28 1 34 u25, ivA RaidD.Own RaidD.Own.loc B26 C27 u25 r, boxA b9 1 34 u6, ivA RaidD.Own RaidD.Own.loc B7 C8 u6 (rootY r x), ivA RaidD.Own RaidD.Own.loc B4 C5 u3 r, boxA b2 8 30 (.agg #[.int .i64 x.fTxg, .int .i64 x.fMeta.fRoot.fAt, .int .i64 x.fMeta.fRoot.fBirth, .int .i64 x.fMeta.fRoot.fSize, .int .i64 x.fMeta.fRoot.fSum, .int .i64 x.fMeta.fRoot.fLevel, .int .i64 x.fMeta.fDepth, .int .i64 x.fMeta.fMany]), boxA b1 1 24 (.agg #[.slice a0 ps.length c0])]) w40 := ⟨_, _, HS2.out⟩; replace HS2 := Bx.mk hh; clear hh
     refine wh_y 4 rfl (by kernel_rfl) (by kernel_rfl) (by kernel_rfl) (fun _ _ _ h => h) rfl HF rfl rfl (fun _ HS => (yl_move rfl (HF.ev rfl))) HS.out ?_; clear HF a; intro a HF
     refine wh_y 5 rfl (by kernel_rfl) (by kernel_rfl) (by kernel_rfl) (fun _ _ _ h => h) rfl HF rfl rfl (fun _ HS => (yl_extract rfl (HF.ev rfl) rfl)) HS.out ?_; clear HF a; intro a HF
     refine wh_y 6 rfl (by kernel_rfl) (by kernel_rfl) (by kernel_rfl) (fun _ _ _ h => h) rfl HF rfl rfl (fun _ HS => (yl_extract rfl (HF.ev rfl) rfl)) HS.out ?_; clear HF a; intro a HF
     refine wh_one 8 (by kernel_rfl) ?_
     refine wo_storeBox rfl rfl rfl rfl (HF.ev rfl) (HF.ev rfl) HS2.out 1 rfl (RaidD.Own.cells (HS2.out.iv 0 rfl)) (by kernel_rfl) ?_
     clear HS HS2; intro w41 HS2; replace HS2 : Bx (St w0 ([ivA RaidD.Own RaidD.Own.loc B35 C36 u34 (rootY r x), boxA b33 1 34 u34, boxA b28 1 34 u25, ivA RaidD.Own RaidD.Own.loc B26 C27 u25 r, boxA b9 1 34 u6, ivA RaidD.Own RaidD.Own.loc B7 C8 u6 (rootY r x), ivA RaidD.Own RaidD.Own.loc B4 C5 u3 r, boxA b2 8 30 (.agg #[.int .i64 x.fTxg, .int .i64 x.fMeta.fRoot.fAt, .int .i64 x.fMeta.fRoot.fBirth, .int .i64 x.fMeta.fRoot.fSize, .int .i64 x.fMeta.fRoot.fSum, .int .i64 x.fMeta.fRoot.fLevel, .int .i64 x.fMeta.fDepth, .int .i64 x.fMeta.fMany]), boxA b1 1 24 (.agg #[.slice a0 ps.length c0])]) _) := ⟨HS2⟩
     have HS : Bx (St w0 ([boxA b28 1 34 u25, ivA RaidD.Own RaidD.Own.loc B26 C27 u25 r, boxA b9 1 34 u6, ivA RaidD.Own RaidD.Own.loc B7 C8 u6 (rootY r x), ivA RaidD.Own RaidD.Own.loc B4 C5 u3 r, boxA b2 8 30 (.agg #[.int .i64 x.fTxg, .int .i64 x.fMeta.fRoot.fAt, .int .i64 x.fMeta.fRoot.fBirth, .int .i64 x.fMeta.fRoot.fSize, .int .i64 x.fMeta.fRoot.fSum, .int .i64 x.fMeta.fRoot.fLevel, .int .i64 x.fMeta.fDepth, .int .i64 x.fMeta.fMany]), boxA b1 1 24 (.agg #[.slice a0 ps.length c0])]) _) := ⟨((HS2.out.erase 1).erase 0)⟩; refine ⟨HS.out, ?_⟩
     refine wh_y 9 rfl (by kernel_rfl) (by kernel_rfl) (by kernel_rfl) (fun _ _ _ h => h) rfl HF rfl rfl (fun _ HS => (yl_assign rfl (HF.ev rfl))) HS.out ?_; clear HF a; intro a HF
     refine wh_done (by kernel_rfl) ?_
     replace HS := HS2; clear HS2
     replace HS : Bx (St w0 ([boxA b33 1 34 u34, ivA RaidD.Own RaidD.Own.loc B35 C36 u34 (rootY r x), boxA b28 1 34 u25, ivA RaidD.Own RaidD.Own.loc B26 C27 u25 r, boxA b9 1 34 u6, ivA RaidD.Own RaidD.Own.loc B7 C8 u6 (rootY r x), ivA RaidD.Own RaidD.Own.loc B4 C5 u3 r, boxA b2 8 30 (.agg #[.int .i64 x.fTxg, .int .i64 x.fMeta.fRoot.fAt, .int .i64 x.fMeta.fRoot.fBirth, .int .i64 x.fMeta.fRoot.fSize, .int .i64 x.fMeta.fRoot.fSum, .int .i64 x.fMeta.fRoot.fLevel, .int .i64 x.fMeta.fDepth, .int .i64 x.fMeta.fMany]), boxA b1 1 24 (.agg #[.slice a0 ps.length c0])]) _) := ⟨(((((((((HS.out).pick 8 rfl).pick 8 rfl).pick 8 rfl).pick 8 rfl).pick 8 rfl).pick 8 rfl).pick 8 rfl).pick 7 rfl).pick 8 rfl⟩
     exact on_mk ⟨_, _, _, _, HF.less _ ⟨rfl, rfl, rfl, rfl, rfl, rfl, rfl, rfl, rfl, rfl, rfl, rfl, rfl, rfl, rfl, rfl, rfl, rfl, trivial⟩, HS.out⟩
   ·skip
    refine wo_alloc rfl rfl HF rfl rfl rfl (Z := [.slice none 0 0]) (by kernel_rfl) rfl HS2.out HS.out ?_; clear HF HS HS2 a; intro a w42 b37 HF HS2 HS; replace HS := Bx.mk HS; replace HS2 := Bx.mk HS2; refine ⟨HS.out, ?_⟩
    refine wh_one 2 (by kernel_rfl) ?_
    refine wo_callB rfl rfl HF rfl (enter_of Tryz.func10 (by kernel_rfl) rfl) (args := #[.agg #[.int .i64 x.fTxg, .int .i64 x.fMeta.fRoot.fAt, .int .i64 x.fMeta.fRoot.fBirth, .int .i64 x.fMeta.fRoot.fSize, .int .i64 x.fMeta.fRoot.fSum, .int .i64 x.fMeta.fRoot.fLevel, .int .i64 x.fMeta.fDepth, .int .i64 x.fMeta.fMany]]) rfl (v := .agg #[.int .i64 x.fTxg, .int .i64 x.fMeta.fRoot.fAt, .int .i64 x.fMeta.fRoot.fBirth, .int .i64 x.fMeta.fRoot.fSize, .int .i64 x.fMeta.fRoot.fSum, .int .i64 x.fMeta.fRoot.fLevel, .int .i64 x.fMeta.fDepth, .int .i64 x.fMeta.fMany]) (toRoot_any x _) rfl rfl ?_
    intro w43 hb; replace HS := Bx.mk (HS.out.later hb); replace HS2 := Bx.mk (HS2.out.later hb); clear hb HF; clear a; intro a HF; refine ⟨HS.out, ?_⟩
    refine wh_one 3 (by kernel_rfl) ?_
    refine wo_call rfl rfl HF rfl (enter_of Tryz.func11 (by kernel_rfl) rfl) (args := #[u25, .agg #[.int .i64 x.fTxg, .int .i64 x.fMeta.fRoot.fAt, .int .i64 x.fMeta.fRoot.fBirth, .int .i64 x.fMeta.fRoot.fSize, .int .i64 x.fMeta.fRoot.fSum, .int .i64 x.fMeta.fRoot.fLevel, .int .i64 x.fMeta.fDepth, .int .i64 x.fMeta.fMany]]) rfl (implRootW_own _ r x _ hft (RaidD.Own.rd (HS2.out.iv 2 rfl)) hf.n (HT.out.below HS2.out.bel)) rfl rfl ?_
    rintro _ w45 ⟨u38, rfl, ho, hb⟩
    refine ⟨_, rfl, ?_⟩; replace HS := Bx.mk (HS.out.later hb); replace HS2 := Bx.mk (HS2.out.add (St.ivNew (loc := RaidD.Own.loc) ho hb)); clear ho hb HF; clear a; intro a HF; refine ⟨HS.out, ?_⟩
    obtain ⟨B39, C40, hh⟩ : ∃ B B1, St w0 ([ivA RaidD.Own RaidD.Own.loc B B1 u38 (rootY r x), boxA b37 1 34 (.agg #[.slice none 0 0]), boxA b28 1 34 u25, ivA RaidD.Own RaidD.Own.loc B26 C27 u25 r, boxA b9 1 34 u6, ivA RaidD.Own RaidD.Own.loc B7 C8 u6 (rootY r x), ivA RaidD.Own RaidD.Own.loc B4 C5 u3 r, boxA b2 8 30 (.agg #[.int .i64 x.fTxg, .int .i64 x.fMeta.fRoot.fAt, .int .i64 x.fMeta.fRoot.fBirth, .int .i64 x.fMeta.fRoot.fSize, .int .i64 x.fMeta.fRoot.fSum, .int .i64 x.fMeta.fRoot.fLevel, .int .i64 x.fMeta.fDepth, .int .i64 x.fMeta.fMany]), boxA b1 1 24 (.agg #[.slice a0 ps.length c0])]) w45 := ⟨_, _, HS2.out⟩; replace HS2 := Bx.mk hh; clear hh
    refine wh_y 4 rfl (by kernel_rfl) (by kernel_rfl) (by kernel_rfl) (fun _ _ _ h => h) rfl HF rfl rfl (fun _ HS => (yl_move rfl (HF.ev rfl))) HS.out ?_; clear HF a; intro a HF
    refine wh_y 5 rfl (by kernel_rfl) (by kernel_rfl) (by kernel_rfl) (fun _ _ _ h => h) rfl HF rfl rfl (fun _ HS => (yl_extract rfl (HF.ev rfl) rfl)) HS.out ?_; clear HF a; intro a HF
    refine wh_y 6 rfl (by kernel_rfl) (by kernel_rfl) (by kernel_rfl) (fun _ _ _ h => h) rfl HF rfl rfl (fun _ HS => (yl_extract rfl (HF.ev rfl) rfl)) HS.out ?_; clear HF a; intro a HF
    refine wh_one 8 (by kernel_rfl) ?_
    refine wo_storeBox rfl rfl rfl rfl (HF.ev rfl) (HF.ev rfl) HS2.out 1 rfl (RaidD.Own.cells (HS2.out.iv 0 rfl)) (by kernel_rfl) ?_
    clear HS HS2; intro w46 HS2; replace HS2 : Bx (St w0 ([ivA RaidD.Own RaidD.Own.loc B39 C40 u38 (rootY r x), boxA b37 1 34 u38, boxA b28 1 34 u25, ivA RaidD.Own RaidD.Own.loc B26 C27 u25 r, boxA b9 1 34 u6, ivA RaidD.Own RaidD.Own.loc B7 C8 u6 (rootY r x), ivA RaidD.Own RaidD.Own.loc B4 C5 u3 r, boxA b2 8 30 (.agg #[.int .i64 x.fTxg, .int .i64 x.fMeta.fRoot.fAt, .int .i64 x.fMeta.fRoot.fBirth, .int .i64 x.fMeta.fRoot.fSize, .int .i64 x.fMeta.fRoot.fSum, .int .i64 x.fMeta.fRoot.fLevel, .int .i64 x.fMeta.fDepth, .int .i64 x.fMeta.fMany]), boxA b1 1 24 (.agg #[.slice a0 ps.length c0])]) _) := ⟨HS2⟩
    have HS : Bx (St w0 ([boxA b28 1 34 u25, ivA RaidD.Own RaidD.Own.loc B26 C27 u25 r, boxA b9 1 34 u6, ivA RaidD.Own RaidD.Own.loc B7 C8 u6 (rootY r x), ivA RaidD.Own RaidD.Own.loc B4 C5 u3 r, boxA b2 8 30 (.agg #[.int .i64 x.fTxg, .int .i64 x.fMeta.fRoot.fAt, .int .i64 x.fMeta.fRoot.fBirth, .int .i64 x.fMeta.fRoot.fSize, .int .i64 x.fMeta.fRoot.fSum, .int .i64 x.fMeta.fRoot.fLevel, .int .i64 x.fMeta.fDepth, .int .i64 x.fMeta.fMany]), boxA b1 1 24 (.agg #[.slice a0 ps.length c0])]) _) := ⟨((HS2.out.erase 1).erase 0)⟩; refine ⟨HS.out, ?_⟩
    refine wh_y 9 rfl (by kernel_rfl) (by kernel_rfl) (by kernel_rfl) (fun _ _ _ h => h) rfl HF rfl rfl (fun _ HS => (yl_assign rfl (HF.ev rfl))) HS.out ?_; clear HF a; intro a HF
    refine wh_done (by kernel_rfl) ?_
    replace HS := HS2; clear HS2
    replace HS : Bx (St w0 ([boxA b37 1 34 u38, ivA RaidD.Own RaidD.Own.loc B39 C40 u38 (rootY r x), boxA b28 1 34 u25, ivA RaidD.Own RaidD.Own.loc B26 C27 u25 r, boxA b9 1 34 u6, ivA RaidD.Own RaidD.Own.loc B7 C8 u6 (rootY r x), ivA RaidD.Own RaidD.Own.loc B4 C5 u3 r, boxA b2 8 30 (.agg #[.int .i64 x.fTxg, .int .i64 x.fMeta.fRoot.fAt, .int .i64 x.fMeta.fRoot.fBirth, .int .i64 x.fMeta.fRoot.fSize, .int .i64 x.fMeta.fRoot.fSum, .int .i64 x.fMeta.fRoot.fLevel, .int .i64 x.fMeta.fDepth, .int .i64 x.fMeta.fMany]), boxA b1 1 24 (.agg #[.slice a0 ps.length c0])]) _) := ⟨(((((((((HS.out).pick 8 rfl).pick 8 rfl).pick 8 rfl).pick 8 rfl).pick 8 rfl).pick 8 rfl).pick 8 rfl).pick 7 rfl).pick 8 rfl⟩
    exact on_mk ⟨_, _, _, _, HF.less _ ⟨rfl, rfl, rfl, rfl, rfl, rfl, rfl, rfl, rfl, rfl, rfl, rfl, rfl, rfl, rfl, rfl, rfl, rfl, trivial⟩, HS.out⟩
  clear HF HS a; rintro a w47 ⟨b32, u29, B30, C31, HF, HS⟩; replace HS := Bx.mk HS
  refine ex_then ?_
  refine wp_seq ?_
  refine wp_sr ?_
  refine wl_y rfl HF rfl rfl (yl_loadB (v := u29) rfl (HF.ev rfl) (HS.out.box 0 rfl) (by kernel_rfl)) ?_; clear HF a; intro a HF
  refine wl_y rfl HF rfl rfl (yl_loadB (v := u6) rfl (HF.ev rfl) (HS.out.box 4 rfl) (by kernel_rfl)) ?_; clear HF a; intro a HF
  refine wl_callB rfl HF rfl (enter_of Tryz.func12 (by kernel_rfl) rfl) (args := #[u29, u6]) rfl (v := .bool true) (eqRaid_yes _ _ (rootY r x) _ hfy (RaidD.Own.rd (HS.out.iv 1 rfl)) (RaidD.Own.rd (HS.out.iv 5 rfl))) rfl rfl HS.out ?_; clear HF HS a; intro w48 a HS HF; replace HS := Bx.mk HS
  refine wl_y rfl HF rfl rfl (yl_not rfl (HF.ev rfl)) ?_; clear HF a; intro a HF
  refine wl_mv HF rfl rfl rfl rfl rfl ?_; clear HF a; intro a HF
  refine wl_yg HF rfl rfl rfl rfl rfl (yl_move rfl (HF.ev rfl)) ?_; clear HF a; intro a HF
  refine wl_yg HF rfl rfl rfl rfl rfl (yl_move rfl (HF.ev rfl)) ?_; clear HF a; intro a HF
  refine wl_yg HF rfl rfl rfl rfl rfl (yl_neqBs rfl (HF.ev rfl) (HF.ev rfl) (by kernel_rfl)) ?_; clear HF a; intro a HF
  refine wl_y rfl HF rfl rfl (yl_pick_f rfl (HF.ev rfl) (HF.ev rfl)) ?_; clear HF a; intro a HF
  refine wl_ne ?_
  refine wc_false HF rfl ?_
  refine wp_skip ?_
  refine ex_then ?_
  refine wp_seq ?_
  refine wp_seq ?_
  refine wr_heldS (s := [boxA b32 1 34 u29, ivA RaidD.Own RaidD.Own.loc B30 C31 u29 (rootY r x), boxA b28 1 34 u25, ivA RaidD.Own RaidD.Own.loc B26 C27 u25 r, boxA b9 1 34 u6, ivA RaidD.Own RaidD.Own.loc B7 C8 u6 (rootY r x), ivA RaidD.Own RaidD.Own.loc B4 C5 u3 r, boxA b2 8 30 (.agg #[.int .i64 x.fTxg, .int .i64 x.fMeta.fRoot.fAt, .int .i64 x.fMeta.fRoot.fBirth, .int .i64 x.fMeta.fRoot.fSize, .int .i64 x.fMeta.fRoot.fSum, .int .i64 x.fMeta.fRoot.fLevel, .int .i64 x.fMeta.fDepth, .int .i64 x.fMeta.fMany]), boxA b1 1 24 (.agg #[.slice a0 ps.length c0])]) (by kernel_rfl) (St.drew (HS.out)) ?_
  have HS2 := Bx.mk HS.out.drew; replace HS := Bx.mk (show St w0 ([boxA b32 1 34 u29, ivA RaidD.Own RaidD.Own.loc B30 C31 u29 (rootY r x), boxA b28 1 34 u25, ivA RaidD.Own RaidD.Own.loc B26 C27 u25 r, boxA b9 1 34 u6, ivA RaidD.Own RaidD.Own.loc B7 C8 u6 (rootY r x), ivA RaidD.Own RaidD.Own.loc B4 C5 u3 r, boxA b2 8 30 (.agg #[.int .i64 x.fTxg, .int .i64 x.fMeta.fRoot.fAt, .int .i64 x.fMeta.fRoot.fBirth, .int .i64 x.fMeta.fRoot.fSize, .int .i64 x.fMeta.fRoot.fSum, .int .i64 x.fMeta.fRoot.fLevel, .int .i64 x.fMeta.fDepth, .int .i64 x.fMeta.fMany]), boxA b1 1 24 (.agg #[.slice a0 ps.length c0])]) _ from HS.out.drew)
  generalize World.drew _ = w49 at HS HS2 ⊢
  refine wh_y 0 rfl (by kernel_rfl) (by kernel_rfl) (by kernel_rfl) (fun _ _ _ h => h) rfl HF rfl rfl (fun _ HS => (yl_loadB (v := u25) rfl (HF.ev rfl) (HS.box 2 rfl) (by kernel_rfl))) HS.out ?_; clear HF a; intro a HF
  refine wh_y 1 rfl (by kernel_rfl) (by kernel_rfl) (by kernel_rfl) (fun _ _ _ h => h) rfl HF rfl rfl (fun _ HS => (yl_loadR (cs := [.slice a0 ps.length c0]) rfl (HF.ev rfl) ((HS.box 8 rfl).sub 0 1) (by kernel_rfl))) HS.out ?_; clear HF a; intro a HF
  refine wh_one 2 (by kernel_rfl) ?_
  refine wo_call rfl rfl HF rfl (enter_of Tryz.func9 (by kernel_rfl) rfl) (args := #[.agg #[.slice a0 ps.length c0]]) rfl (toRaid_any _ r _ hf (HR.out.below HS.out.bel)) rfl rfl ?_
  rintro _ w51 ⟨u41, rfl, ho, hb⟩
  refine ⟨_, rfl, ?_⟩; replace HS := Bx.mk (HS.out.later hb); replace HS2 := Bx.mk (HS2.out.add (St.ivNew (loc := RaidD.Own.loc) ho hb)); clear ho hb HF; clear a; intro a HF; refine ⟨HS.out, ?_⟩
  obtain ⟨B42, C43, hh⟩ : ∃ B B1, St w0 ([ivA RaidD.Own RaidD.Own.loc B B1 u41 r, boxA b32 1 34 u29, ivA RaidD.Own RaidD.Own.loc B30 C31 u29 (rootY r x), boxA b28 1 34 u25, ivA RaidD.Own RaidD.Own.loc B26 C27 u25 r, boxA b9 1 34 u6, ivA RaidD.Own RaidD.Own.loc B7 C8 u6 (rootY r x), ivA RaidD.Own RaidD.Own.loc B4 C5 u3 r, boxA b2 8 30 (.agg #[.int .i64 x.fTxg, .int .i64 x.fMeta.fRoot.fAt, .int .i64 x.fMeta.fRoot.fBirth, .int .i64 x.fMeta.fRoot.fSize, .int .i64 x.fMeta.fRoot.fSum, .int .i64 x.fMeta.fRoot.fLevel, .int .i64 x.fMeta.fDepth, .int .i64 x.fMeta.fMany]), boxA b1 1 24 (.agg #[.slice a0 ps.length c0])]) w51 := ⟨_, _, HS2.out⟩; replace HS2 := Bx.mk hh; clear hh
  refine wh_one 3 (by kernel_rfl) ?_
  refine wo_callB rfl rfl HF rfl (enter_of Tryz.func12 (by kernel_rfl) rfl) (args := #[u25, u41]) rfl (v := .bool true) (eqRaid_yes _ _ r _ hf (RaidD.Own.rd (HS2.out.iv 4 rfl)) (RaidD.Own.rd (HS2.out.iv 0 rfl))) rfl rfl ?_
  intro w52 hb; replace HS := Bx.mk (HS.out.later hb); replace HS2 := Bx.mk (HS2.out.later hb); clear hb HF; clear a; intro a HF; refine ⟨HS.out, ?_⟩
  refine wh_y 4 rfl (by kernel_rfl) (by kernel_rfl) (by kernel_rfl) (fun _ _ _ h => h) rfl HF rfl rfl (fun _ HS => (yl_not rfl (HF.ev rfl))) HS.out ?_; clear HF a; intro a HF
  refine wh_done (by kernel_rfl) ?_
  replace HS := HS2; clear HS2
  refine ex_then ?_
  refine wc_false HF rfl ?_
  refine wp_skip ?_
  refine ex_then ?_
  refine wp_sr ?_
  refine wl_as HF rfl rfl rfl rfl rfl ?_; clear HF a; intro a HF
  refine wl_ne ?_
  refine wp_sr ?_
  refine wl_y rfl HF rfl rfl (yl_loadB (v := u25) rfl (HF.ev rfl) (HS.out.box 3 rfl) (by kernel_rfl)) ?_; clear HF a; intro a HF
  refine wl_mv HF rfl rfl rfl rfl rfl ?_; clear HF a; intro a HF
  refine wl_call rfl HF rfl (enter_of Tryz.func13 (by kernel_rfl) rfl) (args := #[u25, .int .i64 1]) rfl (markRaid_any _ r _ _ 1 _ (by omega) (by omega) hf (HS.out.iv 4 rfl) (HS.out.ivLe 4 rfl) (HS.out.ivB 4 rfl)) rfl rfl ?_
  rintro _ w53 ⟨rfl, ho, hO⟩; refine ⟨_, rfl, ?_⟩; replace HS := Bx.mk (HS.out.ivMark 4 rfl ho hO); clear ho hO HF; clear a; intro a HF
  have HS : Bx (St w0 ([ivA RaidD.Own RaidD.Own.loc B42 C43 u41 r, boxA b32 1 34 u29, ivA RaidD.Own RaidD.Own.loc B30 C31 u29 (rootY r x), boxA b28 1 34 u25, ivA RaidD.Own RaidD.Own.loc B26 C27 u25 (r.marked 1), boxA b9 1 34 u6, ivA RaidD.Own RaidD.Own.loc B7 C8 u6 (rootY r x), ivA RaidD.Own RaidD.Own.loc B4 C5 u3 r, boxA b2 8 30 (.agg #[.int .i64 x.fTxg, .int .i64 x.fMeta.fRoot.fAt, .int .i64 x.fMeta.fRoot.fBirth, .int .i64 x.fMeta.fRoot.fSize, .int .i64 x.fMeta.fRoot.fSum, .int .i64 x.fMeta.fRoot.fLevel, .int .i64 x.fMeta.fDepth, .int .i64 x.fMeta.fMany]), boxA b1 1 24 (.agg #[.slice a0 ps.length c0])]) _) := HS
  have hpast := RaidD.past_pos1 r
  refine wl_as HF rfl rfl rfl rfl rfl ?_; clear HF a; intro a HF
  refine wl_ne ?_
  refine wp_seq ?_
  refine wp_sr ?_
  refine wl_mv HF rfl rfl rfl rfl rfl ?_; clear HF a; intro a HF
  refine wl_y rfl HF rfl rfl (yl_lssI rfl (HF.ev rfl) (HF.ev rfl)) ?_; clear HF a; intro a HF
  refine wl_mv HF rfl rfl rfl rfl rfl ?_; clear HF a; intro a HF
  refine HF.cases 57 rfl (fun cc2 HF1 => ?_) (fun cc2 HF1 => ?_)
  ·clear HF; have HF := HF1; clear HF1
   exact absurd (of_decide_eq_true cc2) (by omega)
  ·clear HF; have HF := HF1; clear HF1
   refine wl_yg HF rfl rfl rfl rfl rfl (yl_loadB (v := u29) rfl (HF.ev rfl) (HS.out.box 1 rfl) (by kernel_rfl)) ?_; clear HF a; intro a HF
   refine wl_yg HF rfl rfl rfl rfl rfl (yl_loadB (v := u6) rfl (HF.ev rfl) (HS.out.box 5 rfl) (by kernel_rfl)) ?_; clear HF a; intro a HF
   refine wl_callBg HF rfl rfl rfl rfl (enter_of Tryz.func12 (by kernel_rfl) rfl) (args := #[u29, u6]) rfl (v := .bool true) (eqRaid_yes _ _ (rootY r x) _ hfy (RaidD.Own.rd (HS.out.iv 2 rfl)) (RaidD.Own.rd (HS.out.iv 6 rfl))) rfl rfl HS.out ?_; clear HF HS a; intro w54 a HS HF; replace HS := Bx.mk HS
   refine wl_yg HF rfl rfl rfl rfl rfl (yl_not rfl (HF.ev rfl)) ?_; clear HF a; intro a HF
   refine wl_y rfl HF rfl rfl (yl_pick_f rfl (HF.ev rfl) (HF.ev rfl)) ?_; clear HF a; intro a HF
   refine wl_mv HF rfl rfl rfl rfl rfl ?_; clear HF a; intro a HF
   refine wl_yg HF rfl rfl rfl rfl rfl (yl_move rfl (HF.ev rfl)) ?_; clear HF a; intro a HF
   refine wl_yg HF rfl rfl rfl rfl rfl (yl_move rfl (HF.ev rfl)) ?_; clear HF a; intro a HF
   refine wl_yg HF rfl rfl rfl rfl rfl (yl_neqBs rfl (HF.ev rfl) (HF.ev rfl) (by kernel_rfl)) ?_; clear HF a; intro a HF
   refine wl_y rfl HF rfl rfl (yl_pick_f rfl (HF.ev rfl) (HF.ev rfl)) ?_; clear HF a; intro a HF
   refine wl_ne ?_
   refine wc_false HF rfl ?_
   refine wp_skip ?_
   refine ex_then ?_
   refine wp_sr ?_
   refine wl_as HF rfl rfl rfl rfl rfl ?_; clear HF a; intro a HF
   refine wl_ne ?_
   refine wp_sr ?_
   refine wl_y rfl HF rfl rfl (yl_loadB (v := u29) rfl (HF.ev rfl) (HS.out.box 1 rfl) (by kernel_rfl)) ?_; clear HF a; intro a HF
   refine wl_mv HF rfl rfl rfl rfl rfl ?_; clear HF a; intro a HF
   refine wl_call rfl HF rfl (enter_of Tryz.func13 (by kernel_rfl) rfl) (args := #[u29, .int .i64 1]) rfl (markRaid_any _ (rootY r x) _ _ 1 _ (by omega) (by omega) hfy (HS.out.iv 2 rfl) (HS.out.ivLe 2 rfl) (HS.out.ivB 2 rfl)) rfl rfl ?_
   rintro _ w55 ⟨rfl, ho, hO⟩; refine ⟨_, rfl, ?_⟩; replace HS := Bx.mk (HS.out.ivMark 2 rfl ho hO); clear ho hO HF; clear a; intro a HF
   have HS : Bx (St w0 ([ivA RaidD.Own RaidD.Own.loc B42 C43 u41 r, boxA b32 1 34 u29, ivA RaidD.Own RaidD.Own.loc B30 C31 u29 ((rootY r x).marked 1), boxA b28 1 34 u25, ivA RaidD.Own RaidD.Own.loc B26 C27 u25 (r.marked 1), boxA b9 1 34 u6, ivA RaidD.Own RaidD.Own.loc B7 C8 u6 (rootY r x), ivA RaidD.Own RaidD.Own.loc B4 C5 u3 r, boxA b2 8 30 (.agg #[.int .i64 x.fTxg, .int .i64 x.fMeta.fRoot.fAt, .int .i64 x.fMeta.fRoot.fBirth, .int .i64 x.fMeta.fRoot.fSize, .int .i64 x.fMeta.fRoot.fSum, .int .i64 x.fMeta.fRoot.fLevel, .int .i64 x.fMeta.fDepth, .int .i64 x.fMeta.fMany]), boxA b1 1 24 (.agg #[.slice a0 ps.length c0])]) _) := HS
   have hpast := RaidD.past_pos1 (rootY r x)
   refine wl_as HF rfl rfl rfl rfl rfl ?_; clear HF a; intro a HF
   refine wl_ne ?_
   refine wp_sr ?_
   refine wl_as HF rfl rfl rfl rfl rfl ?_; clear HF a; intro a HF
   refine wl_ne ?_
   refine wp_sr ?_
   refine wl_y rfl HF rfl rfl (yl_loadB (v := u29) rfl (HF.ev rfl) (HS.out.box 1 rfl) (by kernel_rfl)) ?_; clear HF a; intro a HF
   refine wl_mv HF rfl rfl rfl rfl rfl ?_; clear HF a; intro a HF
   refine wl_callB rfl HF rfl (enter_of Tryz.func14 (by kernel_rfl) rfl) (args := #[u29, .int .i64 1]) rfl (v := .int .i64 ((rootY r x).past 1)) (heldRaid_any _ (rootY r x) 1 _ (by omega) (by omega) hfy (RaidD.Own.rd (HS.out.iv 2 rfl))) rfl rfl HS.out ?_; clear HF HS a; intro w56 a HS HF; replace HS := Bx.mk HS
   refine wl_as HF rfl rfl rfl rfl rfl ?_; clear HF a; intro a HF
   refine wl_ne ?_
   refine wp_seq ?_
   refine wp_sr ?_
   refine wl_mv HF rfl rfl rfl rfl rfl ?_; clear HF a; intro a HF
   refine wl_y rfl HF rfl rfl (yl_lssI rfl (HF.ev rfl) (HF.ev rfl)) ?_; clear HF a; intro a HF
   refine wl_ne ?_
   refine HF.cases 75 rfl (fun cc3 HF1 => ?_) (fun cc3 HF1 => ?_)
   ·clear HF; have HF := HF1; clear HF1
    exact absurd (of_decide_eq_true cc3) (by omega)
   ·clear HF; have HF := HF1; clear HF1
    refine wc_false HF rfl ?_
    refine wp_skip ?_
    refine ex_then ?_
    refine wp_seq ?_
    refine wp_sr ?_
    refine wl_mv HF rfl rfl rfl rfl rfl ?_; clear HF a; intro a HF
    refine wl_mv HF rfl rfl rfl rfl rfl ?_; clear HF a; intro a HF
    refine wl_y rfl HF rfl rfl (yl_neqI rfl (HF.ev rfl) (HF.ev rfl)) ?_; clear HF a; intro a HF
    refine wl_ne ?_
    refine HF.cases 78 rfl (fun cc4 HF1 => ?_) (fun cc4 HF1 => ?_)
    ·clear HF; have HF := HF1; clear HF1
     exact absurd cc4 (by simp)
    ·clear HF; have HF := HF1; clear HF1
     refine wc_false HF rfl ?_
     refine wp_skip ?_
     refine ex_then ?_
     refine wp_seq ?_
     refine wp_join (R := fun a w => ∃ (b50 : Nat) (u47 : Value) (B48 : Nat) (C49 : Nat) (B45 : Nat) (C46 : Nat) (u44 : Value), Fr 104 a [(0, .agg #[.slice a0 ps.length c0]), (1, .agg #[.int .i64 x.fTxg, .int .i64 x.fMeta.fRoot.fAt, .int .i64 x.fMeta.fRoot.fBirth, .int .i64 x.fMeta.fRoot.fSize, .int .i64 x.fMeta.fRoot.fSum, .int .i64 x.fMeta.fRoot.fLevel, .int .i64 x.fMeta.fDepth, .int .i64 x.fMeta.fMany]), (2, .pointer (some ⟨b1, 0, none⟩)), (3, .pointer (some ⟨b2, 0, none⟩)), (4, .bool false), (5, .int .i64 (leftOf 1048576 r.bulk)), (16, .agg #[.slice a0 ps.length c0]), (17, .int .i64 1048576), (18, .int .i64 (leftOf 1048576 r.bulk)), (19, .int .i64 (leftOf 1048576 r.bulk)), (20, .bool false), (6, .pointer (some ⟨b9, 0, none⟩)), (7, .bool (rootY2 r x)), (29, .agg #[.slice a0 ps.length c0]), (30, u25), (8, .pointer (some ⟨b28, 0, none⟩)), (9, .pointer (some ⟨b32, 0, none⟩)), (10, .bool (rootY2 r x)), (38, u29), (39, u6), (40, .bool true), (41, .bool false), (42, .bool false), (43, .bool (rootY2 r x)), (44, .bool (rootY2 r x)), (45, .bool false), (46, .bool false), (47, u25), (48, .agg #[.slice a0 ps.length c0]), (49, u41), (50, .bool true), (51, .bool false), (11, .int .i64 (r.past 1)), (52, u25), (53, .int .i64 1), (54, .int .i64 (r.past 1)), (55, .int .i64 (r.past 1)), (56, .bool (decide ((r.past 1) < 0))), (57, .bool false), (58, u29), (59, u6), (60, .bool true), (61, .bool false), (62, .bool false), (63, .bool false), (64, .bool (rootY2 r x)), (65, .bool (rootY2 r x)), (66, .bool false), (67, .bool false), (12, .int .i64 ((rootY r x).past 1)), (68, u29), (69, .int .i64 1), (70, .int .i64 ((rootY r x).past 1)), (13, .int .i64 ((rootY r x).past 1)), (71, u29), (72, .int .i64 1), (73, .int .i64 ((rootY r x).past 1)), (74, .int .i64 ((rootY r x).past 1)), (75, .bool false), (76, .int .i64 ((rootY r x).past 1)), (77, .int .i64 ((rootY r x).past 1)), (78, .bool false), (14, .pointer (some ⟨b50, 0, none⟩)), (15, .bool (rootY2 r x))] ∧ St w0 ([boxA b50 1 34 u47, ivA RaidD.Own RaidD.Own.loc B48 C49 u47 (rootY r x), ivA RaidD.Own RaidD.Own.loc B45 C46 u44 r, ivA RaidD.Own RaidD.Own.loc B42 C43 u41 r, boxA b32 1 34 u29, ivA RaidD.Own RaidD.Own.loc B30 C31 u29 ((rootY r x).marked 1), boxA b28 1 34 u25, ivA RaidD.Own RaidD.Own.loc B26 C27 u25 (r.marked 1), boxA b9 1 34 u6, ivA RaidD.Own RaidD.Own.loc B7 C8 u6 (rootY r x), ivA RaidD.Own RaidD.Own.loc B4 C5 u3 r, boxA b2 8 30 (.agg #[.int .i64 x.fTxg, .int .i64 x.fMeta.fRoot.fAt, .int .i64 x.fMeta.fRoot.fBirth, .int .i64 x.fMeta.fRoot.fSize, .int .i64 x.fMeta.fRoot.fSum, .int .i64 x.fMeta.fRoot.fLevel, .int .i64 x.fMeta.fDepth, .int .i64 x.fMeta.fMany]), boxA b1 1 24 (.agg #[.slice a0 ps.length c0])]) w) ?_ ?_
     ·skip
      refine wr_heldS (s := [ivA RaidD.Own RaidD.Own.loc B42 C43 u41 r, boxA b32 1 34 u29, ivA RaidD.Own RaidD.Own.loc B30 C31 u29 ((rootY r x).marked 1), boxA b28 1 34 u25, ivA RaidD.Own RaidD.Own.loc B26 C27 u25 (r.marked 1), boxA b9 1 34 u6, ivA RaidD.Own RaidD.Own.loc B7 C8 u6 (rootY r x), ivA RaidD.Own RaidD.Own.loc B4 C5 u3 r, boxA b2 8 30 (.agg #[.int .i64 x.fTxg, .int .i64 x.fMeta.fRoot.fAt, .int .i64 x.fMeta.fRoot.fBirth, .int .i64 x.fMeta.fRoot.fSize, .int .i64 x.fMeta.fRoot.fSum, .int .i64 x.fMeta.fRoot.fLevel, .int .i64 x.fMeta.fDepth, .int .i64 x.fMeta.fMany]), boxA b1 1 24 (.agg #[.slice a0 ps.length c0])]) (by kernel_rfl) (St.drew (HS.out)) ?_
      have HS2 := Bx.mk HS.out.drew; replace HS := Bx.mk (show St w0 ([ivA RaidD.Own RaidD.Own.loc B42 C43 u41 r, boxA b32 1 34 u29, ivA RaidD.Own RaidD.Own.loc B30 C31 u29 ((rootY r x).marked 1), boxA b28 1 34 u25, ivA RaidD.Own RaidD.Own.loc B26 C27 u25 (r.marked 1), boxA b9 1 34 u6, ivA RaidD.Own RaidD.Own.loc B7 C8 u6 (rootY r x), ivA RaidD.Own RaidD.Own.loc B4 C5 u3 r, boxA b2 8 30 (.agg #[.int .i64 x.fTxg, .int .i64 x.fMeta.fRoot.fAt, .int .i64 x.fMeta.fRoot.fBirth, .int .i64 x.fMeta.fRoot.fSize, .int .i64 x.fMeta.fRoot.fSum, .int .i64 x.fMeta.fRoot.fLevel, .int .i64 x.fMeta.fDepth, .int .i64 x.fMeta.fMany]), boxA b1 1 24 (.agg #[.slice a0 ps.length c0])]) _ from HS.out.drew)
      generalize World.drew _ = w57 at HS HS2 ⊢
      refine wh_y 0 rfl (by kernel_rfl) (by kernel_rfl) (by kernel_rfl) (fun _ _ _ h => h) rfl HF rfl rfl (fun _ HS => (yl_loadR (cs := [.slice a0 ps.length c0]) rfl (HF.ev rfl) ((HS.box 9 rfl).sub 0 1) (by kernel_rfl))) HS.out ?_; clear HF a; intro a HF
      refine wh_y 2 rfl (by kernel_rfl) (by kernel_rfl) (by kernel_rfl) (fun _ _ _ h => h) rfl HF rfl rfl (fun _ HS => (yl_loadR (cs := [.int .i64 x.fTxg, .int .i64 x.fMeta.fRoot.fAt, .int .i64 x.fMeta.fRoot.fBirth, .int .i64 x.fMeta.fRoot.fSize, .int .i64 x.fMeta.fRoot.fSum, .int .i64 x.fMeta.fRoot.fLevel, .int .i64 x.fMeta.fDepth, .int .i64 x.fMeta.fMany]) rfl (HF.ev rfl) ((HS.box 8 rfl).sub 0 8) (by kernel_rfl))) HS.out ?_; clear HF a; intro a HF
      refine wh_two 1 8 (by kernel_rfl) ?_ ?_
      ·skip
       refine wo_call rfl rfl HF rfl (enter_of Tryz.func9 (by kernel_rfl) rfl) (args := #[.agg #[.slice a0 ps.length c0]]) rfl (toRaid_any _ r _ hf (HR.out.below HS.out.bel)) rfl rfl ?_
       rintro _ w59 ⟨u44, rfl, ho, hb⟩
       refine ⟨_, rfl, ?_⟩; replace HS := Bx.mk (HS.out.later hb); replace HS2 := Bx.mk (HS2.out.add (St.ivNew (loc := RaidD.Own.loc) ho hb)); clear ho hb HF; clear a; intro a HF; refine ⟨HS.out, ?_⟩
       obtain ⟨B45, C46, hh⟩ : ∃ B B1, St w0 ([ivA RaidD.Own RaidD.Own.loc B B1 u44 r, ivA RaidD.Own RaidD.Own.loc B42 C43 u41 r, boxA b32 1 34 u29, ivA RaidD.Own RaidD.Own.loc B30 C31 u29 ((rootY r x).marked 1), boxA b28 1 34 u25, ivA RaidD.Own RaidD.Own.loc B26 C27 u25 (r.marked 1), boxA b9 1 34 u6, ivA RaidD.Own RaidD.Own.loc B7 C8 u6 (rootY r x), ivA RaidD.Own RaidD.Own.loc B4 C5 u3 r, boxA b2 8 30 (.agg #[.int .i64 x.fTxg, .int .i64 x.fMeta.fRoot.fAt, .int .i64 x.fMeta.fRoot.fBirth, .int .i64 x.fMeta.fRoot.fSize, .int .i64 x.fMeta.fRoot.fSum, .int .i64 x.fMeta.fRoot.fLevel, .int .i64 x.fMeta.fDepth, .int .i64 x.fMeta.fMany]), boxA b1 1 24 (.agg #[.slice a0 ps.length c0])]) w59 := ⟨_, _, HS2.out⟩; replace HS2 := Bx.mk hh; clear hh
       refine wh_two 3 8 (by kernel_rfl) ?_ ?_
       ·skip
        refine wo_callB rfl rfl HF rfl (enter_of Tryz.func10 (by kernel_rfl) rfl) (args := #[.agg #[.int .i64 x.fTxg, .int .i64 x.fMeta.fRoot.fAt, .int .i64 x.fMeta.fRoot.fBirth, .int .i64 x.fMeta.fRoot.fSize, .int .i64 x.fMeta.fRoot.fSum, .int .i64 x.fMeta.fRoot.fLevel, .int .i64 x.fMeta.fDepth, .int .i64 x.fMeta.fMany]]) rfl (v := .agg #[.int .i64 x.fTxg, .int .i64 x.fMeta.fRoot.fAt, .int .i64 x.fMeta.fRoot.fBirth, .int .i64 x.fMeta.fRoot.fSize, .int .i64 x.fMeta.fRoot.fSum, .int .i64 x.fMeta.fRoot.fLevel, .int .i64 x.fMeta.fDepth, .int .i64 x.fMeta.fMany]) (toRoot_any x _) rfl rfl ?_
        intro w60 hb; replace HS := Bx.mk (HS.out.later hb); replace HS2 := Bx.mk (HS2.out.later hb); clear hb HF; clear a; intro a HF; refine ⟨HS.out, ?_⟩
        refine wh_two 4 8 (by kernel_rfl) ?_ ?_
        ·skip
         refine wo_call rfl rfl HF rfl (enter_of Tryz.func11 (by kernel_rfl) rfl) (args := #[u44, .agg #[.int .i64 x.fTxg, .int .i64 x.fMeta.fRoot.fAt, .int .i64 x.fMeta.fRoot.fBirth, .int .i64 x.fMeta.fRoot.fSize, .int .i64 x.fMeta.fRoot.fSum, .int .i64 x.fMeta.fRoot.fLevel, .int .i64 x.fMeta.fDepth, .int .i64 x.fMeta.fMany]]) rfl (implRootW_own _ r x _ hft (RaidD.Own.rd (HS2.out.iv 0 rfl)) hf.n (HT.out.below HS2.out.bel)) rfl rfl ?_
         rintro _ w62 ⟨u47, rfl, ho, hb⟩
         refine ⟨_, rfl, ?_⟩; replace HS := Bx.mk (HS.out.later hb); replace HS2 := Bx.mk (HS2.out.add (St.ivNew (loc := RaidD.Own.loc) ho hb)); clear ho hb HF; clear a; intro a HF; refine ⟨HS.out, ?_⟩
         obtain ⟨B48, C49, hh⟩ : ∃ B B1, St w0 ([ivA RaidD.Own RaidD.Own.loc B B1 u47 (rootY r x), ivA RaidD.Own RaidD.Own.loc B45 C46 u44 r, ivA RaidD.Own RaidD.Own.loc B42 C43 u41 r, boxA b32 1 34 u29, ivA RaidD.Own RaidD.Own.loc B30 C31 u29 ((rootY r x).marked 1), boxA b28 1 34 u25, ivA RaidD.Own RaidD.Own.loc B26 C27 u25 (r.marked 1), boxA b9 1 34 u6, ivA RaidD.Own RaidD.Own.loc B7 C8 u6 (rootY r x), ivA RaidD.Own RaidD.Own.loc B4 C5 u3 r, boxA b2 8 30 (.agg #[.int .i64 x.fTxg, .int .i64 x.fMeta.fRoot.fAt, .int .i64 x.fMeta.fRoot.fBirth, .int .i64 x.fMeta.fRoot.fSize, .int .i64 x.fMeta.fRoot.fSum, .int .i64 x.fMeta.fRoot.fLevel, .int .i64 x.fMeta.fDepth, .int .i64 x.fMeta.fMany]), boxA b1 1 24 (.agg #[.slice a0 ps.length c0])]) w62 := ⟨_, _, HS2.out⟩; replace HS2 := Bx.mk hh; clear hh
         refine wh_y 5 rfl (by kernel_rfl) (by kernel_rfl) (by kernel_rfl) (fun _ _ _ h => h) rfl HF rfl rfl (fun _ HS => (yl_move rfl (HF.ev rfl))) HS.out ?_; clear HF a; intro a HF
         refine wh_y 6 rfl (by kernel_rfl) (by kernel_rfl) (by kernel_rfl) (fun _ _ _ h => h) rfl HF rfl rfl (fun _ HS => (yl_extract rfl (HF.ev rfl) rfl)) HS.out ?_; clear HF a; intro a HF
         refine wh_y 7 rfl (by kernel_rfl) (by kernel_rfl) (by kernel_rfl) (fun _ _ _ h => h) rfl HF rfl rfl (fun _ HS => (yl_extract rfl (HF.ev rfl) rfl)) HS.out ?_; clear HF a; intro a HF
         refine wh_one 8 (by kernel_rfl) ?_
         refine wo_alloc rfl rfl HF rfl rfl rfl (Z := [.slice none 0 0]) (by kernel_rfl) rfl HS2.out HS.out ?_; clear HF HS HS2 a; intro a w63 b50 HF HS2 HS; replace HS := Bx.mk HS; replace HS2 := Bx.mk HS2; refine ⟨HS.out, ?_⟩
         refine wh_one 9 (by kernel_rfl) ?_
         refine wo_storeBox rfl rfl rfl rfl (HF.ev rfl) (HF.ev rfl) HS2.out 0 rfl (RaidD.Own.cells (HS2.out.iv 1 rfl)) (by kernel_rfl) ?_
         clear HS HS2; intro w64 HS2; replace HS2 : Bx (St w0 ([boxA b50 1 34 u47, ivA RaidD.Own RaidD.Own.loc B48 C49 u47 (rootY r x), ivA RaidD.Own RaidD.Own.loc B45 C46 u44 r, ivA RaidD.Own RaidD.Own.loc B42 C43 u41 r, boxA b32 1 34 u29, ivA RaidD.Own RaidD.Own.loc B30 C31 u29 ((rootY r x).marked 1), boxA b28 1 34 u25, ivA RaidD.Own RaidD.Own.loc B26 C27 u25 (r.marked 1), boxA b9 1 34 u6, ivA RaidD.Own RaidD.Own.loc B7 C8 u6 (rootY r x), ivA RaidD.Own RaidD.Own.loc B4 C5 u3 r, boxA b2 8 30 (.agg #[.int .i64 x.fTxg, .int .i64 x.fMeta.fRoot.fAt, .int .i64 x.fMeta.fRoot.fBirth, .int .i64 x.fMeta.fRoot.fSize, .int .i64 x.fMeta.fRoot.fSum, .int .i64 x.fMeta.fRoot.fLevel, .int .i64 x.fMeta.fDepth, .int .i64 x.fMeta.fMany]), boxA b1 1 24 (.agg #[.slice a0 ps.length c0])]) _) := ⟨HS2⟩
         have HS : Bx (St w0 ([ivA RaidD.Own RaidD.Own.loc B42 C43 u41 r, boxA b32 1 34 u29, ivA RaidD.Own RaidD.Own.loc B30 C31 u29 ((rootY r x).marked 1), boxA b28 1 34 u25, ivA RaidD.Own RaidD.Own.loc B26 C27 u25 (r.marked 1), boxA b9 1 34 u6, ivA RaidD.Own RaidD.Own.loc B7 C8 u6 (rootY r x), ivA RaidD.Own RaidD.Own.loc B4 C5 u3 r, boxA b2 8 30 (.agg #[.int .i64 x.fTxg, .int .i64 x.fMeta.fRoot.fAt, .int .i64 x.fMeta.fRoot.fBirth, .int .i64 x.fMeta.fRoot.fSize, .int .i64 x.fMeta.fRoot.fSum, .int .i64 x.fMeta.fRoot.fLevel, .int .i64 x.fMeta.fDepth, .int .i64 x.fMeta.fMany]), boxA b1 1 24 (.agg #[.slice a0 ps.length c0])]) _) := ⟨(((HS2.out.erase 2).erase 1).erase 0)⟩; refine ⟨HS.out, ?_⟩
         refine wh_y 10 rfl (by kernel_rfl) (by kernel_rfl) (by kernel_rfl) (fun _ _ _ h => h) rfl HF rfl rfl (fun _ HS => (yl_assign rfl (HF.ev rfl))) HS.out ?_; clear HF a; intro a HF
         refine wh_done (by kernel_rfl) ?_
         replace HS := HS2; clear HS2
         exact on_mk ⟨_, _, _, _, _, _, _, HF.less _ ⟨rfl, rfl, rfl, rfl, rfl, rfl, rfl, rfl, rfl, rfl, rfl, rfl, rfl, rfl, rfl, rfl, rfl, rfl, rfl, rfl, rfl, rfl, rfl, rfl, rfl, rfl, rfl, rfl, rfl, rfl, rfl, rfl, rfl, rfl, rfl, rfl, rfl, rfl, rfl, rfl, rfl, rfl, rfl, rfl, rfl, rfl, rfl, rfl, rfl, rfl, rfl, rfl, rfl, rfl, rfl, rfl, rfl, rfl, rfl, rfl, rfl, rfl, rfl, rfl, trivial⟩, HS.out⟩
        ·skip
         refine wo_alloc rfl rfl HF rfl rfl rfl (Z := [.slice none 0 0]) (by kernel_rfl) rfl HS2.out HS.out ?_; clear HF HS HS2 a; intro a w65 b51 HF HS2 HS; replace HS := Bx.mk HS; replace HS2 := Bx.mk HS2; refine ⟨HS.out, ?_⟩
         refine wh_one 4 (by kernel_rfl) ?_
         refine wo_call rfl rfl HF rfl (enter_of Tryz.func11 (by kernel_rfl) rfl) (args := #[u44, .agg #[.int .i64 x.fTxg, .int .i64 x.fMeta.fRoot.fAt, .int .i64 x.fMeta.fRoot.fBirth, .int .i64 x.fMeta.fRoot.fSize, .int .i64 x.fMeta.fRoot.fSum, .int .i64 x.fMeta.fRoot.fLevel, .int .i64 x.fMeta.fDepth, .int .i64 x.fMeta.fMany]]) rfl (implRootW_own _ r x _ hft (RaidD.Own.rd (HS2.out.iv 1 rfl)) hf.n (HT.out.below HS2.out.bel)) rfl rfl ?_
         rintro _ w67 ⟨u52, rfl, ho, hb⟩
         refine ⟨_, rfl, ?_⟩; replace HS := Bx.mk (HS.out.later hb); replace HS2 := Bx.mk (HS2.out.add (St.ivNew (loc := RaidD.Own.loc) ho hb)); clear ho hb HF; clear a; intro a HF; refine ⟨HS.out, ?_⟩
         obtain ⟨B53, C54, hh⟩ : ∃ B B1, St w0 ([ivA RaidD.Own RaidD.Own.loc B B1 u52 (rootY r x), boxA b51 1 34 (.agg #[.slice none 0 0]), ivA RaidD.Own RaidD.Own.loc B45 C46 u44 r, ivA RaidD.Own RaidD.Own.loc B42 C43 u41 r, boxA b32 1 34 u29, ivA RaidD.Own RaidD.Own.loc B30 C31 u29 ((rootY r x).marked 1), boxA b28 1 34 u25, ivA RaidD.Own RaidD.Own.loc B26 C27 u25 (r.marked 1), boxA b9 1 34 u6, ivA RaidD.Own RaidD.Own.loc B7 C8 u6 (rootY r x), ivA RaidD.Own RaidD.Own.loc B4 C5 u3 r, boxA b2 8 30 (.agg #[.int .i64 x.fTxg, .int .i64 x.fMeta.fRoot.fAt, .int .i64 x.fMeta.fRoot.fBirth, .int .i64 x.fMeta.fRoot.fSize, .int .i64 x.fMeta.fRoot.fSum, .int .i64 x.fMeta.fRoot.fLevel, .int .i64 x.fMeta.fDepth, .int .i64 x.fMeta.fMany]), boxA b1 1 24 (.agg #[.slice a0 ps.length c0])]) w67 := ⟨_, _, HS2.out⟩; replace HS2 := Bx.mk hh; clear hh
         refine wh_y 5 rfl (by kernel_rfl) (by kernel_rfl) (by kernel_rfl) (fun _ _ _ h => h) rfl HF rfl rfl (fun _ HS => (yl_move rfl (HF.ev rfl))) HS.out ?_; clear HF a; intro a HF
         refine wh_y 6 rfl (by kernel_rfl) (by kernel_rfl) (by kernel_rfl) (fun _ _ _ h => h) rfl HF rfl rfl (fun _ HS => (yl_extract rfl (HF.ev rfl) rfl)) HS.out ?_; clear HF a; intro a HF
         refine wh_y 7 rfl (by kernel_rfl) (by kernel_rfl) (by kernel_rfl) (fun _ _ _ h => h) rfl HF rfl rfl (fun _ HS => (yl_extract rfl (HF.ev rfl) rfl)) HS.out ?_; clear HF a; intro a HF
         refine wh_one 9 (by kernel_rfl) ?_
         refine wo_storeBox rfl rfl rfl rfl (HF.ev rfl) (HF.ev rfl) HS2.out 1 rfl (RaidD.Own.cells (HS2.out.iv 0 rfl)) (by kernel_rfl) ?_
         clear HS HS2; intro w68 HS2; replace HS2 : Bx (St w0 ([ivA RaidD.Own RaidD.Own.loc B53 C54 u52 (rootY r x), boxA b51 1 34 u52, ivA RaidD.Own RaidD.Own.loc B45 C46 u44 r, ivA RaidD.Own RaidD.Own.loc B42 C43 u41 r, boxA b32 1 34 u29, ivA RaidD.Own RaidD.Own.loc B30 C31 u29 ((rootY r x).marked 1), boxA b28 1 34 u25, ivA RaidD.Own RaidD.Own.loc B26 C27 u25 (r.marked 1), boxA b9 1 34 u6, ivA RaidD.Own RaidD.Own.loc B7 C8 u6 (rootY r x), ivA RaidD.Own RaidD.Own.loc B4 C5 u3 r, boxA b2 8 30 (.agg #[.int .i64 x.fTxg, .int .i64 x.fMeta.fRoot.fAt, .int .i64 x.fMeta.fRoot.fBirth, .int .i64 x.fMeta.fRoot.fSize, .int .i64 x.fMeta.fRoot.fSum, .int .i64 x.fMeta.fRoot.fLevel, .int .i64 x.fMeta.fDepth, .int .i64 x.fMeta.fMany]), boxA b1 1 24 (.agg #[.slice a0 ps.length c0])]) _) := ⟨HS2⟩
         have HS : Bx (St w0 ([ivA RaidD.Own RaidD.Own.loc B42 C43 u41 r, boxA b32 1 34 u29, ivA RaidD.Own RaidD.Own.loc B30 C31 u29 ((rootY r x).marked 1), boxA b28 1 34 u25, ivA RaidD.Own RaidD.Own.loc B26 C27 u25 (r.marked 1), boxA b9 1 34 u6, ivA RaidD.Own RaidD.Own.loc B7 C8 u6 (rootY r x), ivA RaidD.Own RaidD.Own.loc B4 C5 u3 r, boxA b2 8 30 (.agg #[.int .i64 x.fTxg, .int .i64 x.fMeta.fRoot.fAt, .int .i64 x.fMeta.fRoot.fBirth, .int .i64 x.fMeta.fRoot.fSize, .int .i64 x.fMeta.fRoot.fSum, .int .i64 x.fMeta.fRoot.fLevel, .int .i64 x.fMeta.fDepth, .int .i64 x.fMeta.fMany]), boxA b1 1 24 (.agg #[.slice a0 ps.length c0])]) _) := ⟨(((HS2.out.erase 2).erase 1).erase 0)⟩; refine ⟨HS.out, ?_⟩
         refine wh_y 10 rfl (by kernel_rfl) (by kernel_rfl) (by kernel_rfl) (fun _ _ _ h => h) rfl HF rfl rfl (fun _ HS => (yl_assign rfl (HF.ev rfl))) HS.out ?_; clear HF a; intro a HF
         refine wh_done (by kernel_rfl) ?_
         replace HS := HS2; clear HS2
         replace HS : Bx (St w0 ([boxA b51 1 34 u52, ivA RaidD.Own RaidD.Own.loc B53 C54 u52 (rootY r x), ivA RaidD.Own RaidD.Own.loc B45 C46 u44 r, ivA RaidD.Own RaidD.Own.loc B42 C43 u41 r, boxA b32 1 34 u29, ivA RaidD.Own RaidD.Own.loc B30 C31 u29 ((rootY r x).marked 1), boxA b28 1 34 u25, ivA RaidD.Own RaidD.Own.loc B26 C27 u25 (r.marked 1), boxA b9 1 34 u6, ivA RaidD.Own RaidD.Own.loc B7 C8 u6 (rootY r x), ivA RaidD.Own RaidD.Own.loc B4 C5 u3 r, boxA b2 8 30 (.agg #[.int .i64 x.fTxg, .int .i64 x.fMeta.fRoot.fAt, .int .i64 x.fMeta.fRoot.fBirth, .int .i64 x.fMeta.fRoot.fSize, .int .i64 x.fMeta.fRoot.fSum, .int .i64 x.fMeta.fRoot.fLevel, .int .i64 x.fMeta.fDepth, .int .i64 x.fMeta.fMany]), boxA b1 1 24 (.agg #[.slice a0 ps.length c0])]) _) := ⟨(((((((((((((HS.out).pick 12 rfl).pick 12 rfl).pick 12 rfl).pick 12 rfl).pick 12 rfl).pick 12 rfl).pick 12 rfl).pick 12 rfl).pick 12 rfl).pick 12 rfl).pick 12 rfl).pick 11 rfl).pick 12 rfl⟩
         exact on_mk ⟨_, _, _, _, _, _, _, HF.less _ ⟨rfl, rfl, rfl, rfl, rfl, rfl, rfl, rfl, rfl, rfl, rfl, rfl, rfl, rfl, rfl, rfl, rfl, rfl, rfl, rfl, rfl, rfl, rfl, rfl, rfl, rfl, rfl, rfl, rfl, rfl, rfl, rfl, rfl, rfl, rfl, rfl, rfl, rfl, rfl, rfl, rfl, rfl, rfl, rfl, rfl, rfl, rfl, rfl, rfl, rfl, rfl, rfl, rfl, rfl, rfl, rfl, rfl, rfl, rfl, rfl, rfl, rfl, rfl, rfl, trivial⟩, HS.out⟩
       ·skip
        refine wo_alloc rfl rfl HF rfl rfl rfl (Z := [.slice none 0 0]) (by kernel_rfl) rfl HS2.out HS.out ?_; clear HF HS HS2 a; intro a w69 b55 HF HS2 HS; replace HS := Bx.mk HS; replace HS2 := Bx.mk HS2; refine ⟨HS.out, ?_⟩
        refine wh_one 3 (by kernel_rfl) ?_
        refine wo_callB rfl rfl HF rfl (enter_of Tryz.func10 (by kernel_rfl) rfl) (args := #[.agg #[.int .i64 x.fTxg, .int .i64 x.fMeta.fRoot.fAt, .int .i64 x.fMeta.fRoot.fBirth, .int .i64 x.fMeta.fRoot.fSize, .int .i64 x.fMeta.fRoot.fSum, .int .i64 x.fMeta.fRoot.fLevel, .int .i64 x.fMeta.fDepth, .int .i64 x.fMeta.fMany]]) rfl (v := .agg #[.int .i64 x.fTxg, .int .i64 x.fMeta.fRoot.fAt, .int .i64 x.fMeta.fRoot.fBirth, .int .i64 x.fMeta.fRoot.fSize, .int .i64 x.fMeta.fRoot.fSum, .int .i64 x.fMeta.fRoot.fLevel, .int .i64 x.fMeta.fDepth, .int .i64 x.fMeta.fMany]) (toRoot_any x _) rfl rfl ?_
        intro w70 hb; replace HS := Bx.mk (HS.out.later hb); replace HS2 := Bx.mk (HS2.out.later hb); clear hb HF; clear a; intro a HF; refine ⟨HS.out, ?_⟩
        refine wh_one 4 (by kernel_rfl) ?_
        refine wo_call rfl rfl HF rfl (enter_of Tryz.func11 (by kernel_rfl) rfl) (args := #[u44, .agg #[.int .i64 x.fTxg, .int .i64 x.fMeta.fRoot.fAt, .int .i64 x.fMeta.fRoot.fBirth, .int .i64 x.fMeta.fRoot.fSize, .int .i64 x.fMeta.fRoot.fSum, .int .i64 x.fMeta.fRoot.fLevel, .int .i64 x.fMeta.fDepth, .int .i64 x.fMeta.fMany]]) rfl (implRootW_own _ r x _ hft (RaidD.Own.rd (HS2.out.iv 1 rfl)) hf.n (HT.out.below HS2.out.bel)) rfl rfl ?_
        rintro _ w72 ⟨u56, rfl, ho, hb⟩
        refine ⟨_, rfl, ?_⟩; replace HS := Bx.mk (HS.out.later hb); replace HS2 := Bx.mk (HS2.out.add (St.ivNew (loc := RaidD.Own.loc) ho hb)); clear ho hb HF; clear a; intro a HF; refine ⟨HS.out, ?_⟩
        obtain ⟨B57, C58, hh⟩ : ∃ B B1, St w0 ([ivA RaidD.Own RaidD.Own.loc B B1 u56 (rootY r x), boxA b55 1 34 (.agg #[.slice none 0 0]), ivA RaidD.Own RaidD.Own.loc B45 C46 u44 r, ivA RaidD.Own RaidD.Own.loc B42 C43 u41 r, boxA b32 1 34 u29, ivA RaidD.Own RaidD.Own.loc B30 C31 u29 ((rootY r x).marked 1), boxA b28 1 34 u25, ivA RaidD.Own RaidD.Own.loc B26 C27 u25 (r.marked 1), boxA b9 1 34 u6, ivA RaidD.Own RaidD.Own.loc B7 C8 u6 (rootY r x), ivA RaidD.Own RaidD.Own.loc B4 C5 u3 r, boxA b2 8 30 (.agg #[.int .i64 x.fTxg, .int .i64 x.fMeta.fRoot.fAt, .int .i64 x.fMeta.fRoot.fBirth, .int .i64 x.fMeta.fRoot.fSize, .int .i64 x.fMeta.fRoot.fSum, .int .i64 x.fMeta.fRoot.fLevel, .int .i64 x.fMeta.fDepth, .int .i64 x.fMeta.fMany]), boxA b1 1 24 (.agg #[.slice a0 ps.length c0])]) w72 := ⟨_, _, HS2.out⟩; replace HS2 := Bx.mk hh; clear hh
        refine wh_y 5 rfl (by kernel_rfl) (by kernel_rfl) (by kernel_rfl) (fun _ _ _ h => h) rfl HF rfl rfl (fun _ HS => (yl_move rfl (HF.ev rfl))) HS.out ?_; clear HF a; intro a HF
        refine wh_y 6 rfl (by kernel_rfl) (by kernel_rfl) (by kernel_rfl) (fun _ _ _ h => h) rfl HF rfl rfl (fun _ HS => (yl_extract rfl (HF.ev rfl) rfl)) HS.out ?_; clear HF a; intro a HF
        refine wh_y 7 rfl (by kernel_rfl) (by kernel_rfl) (by kernel_rfl) (fun _ _ _ h => h) rfl HF rfl rfl (fun _ HS => (yl_extract rfl (HF.ev rfl) rfl)) HS.out ?_; clear HF a; intro a HF
        refine wh_one 9 (by kernel_rfl) ?_
        refine wo_storeBox rfl rfl rfl rfl (HF.ev rfl) (HF.ev rfl) HS2.out 1 rfl (RaidD.Own.cells (HS2.out.iv 0 rfl)) (by kernel_rfl) ?_
        clear HS HS2; intro w73 HS2; replace HS2 : Bx (St w0 ([ivA RaidD.Own RaidD.Own.loc B57 C58 u56 (rootY r x), boxA b55 1 34 u56, ivA RaidD.Own RaidD.Own.loc B45 C46 u44 r, ivA RaidD.Own RaidD.Own.loc B42 C43 u41 r, boxA b32 1 34 u29, ivA RaidD.Own RaidD.Own.loc B30 C31 u29 ((rootY r x).marked 1), boxA b28 1 34 u25, ivA RaidD.Own RaidD.Own.loc B26 C27 u25 (r.marked 1), boxA b9 1 34 u6, ivA RaidD.Own RaidD.Own.loc B7 C8 u6 (rootY r x), ivA RaidD.Own RaidD.Own.loc B4 C5 u3 r, boxA b2 8 30 (.agg #[.int .i64 x.fTxg, .int .i64 x.fMeta.fRoot.fAt, .int .i64 x.fMeta.fRoot.fBirth, .int .i64 x.fMeta.fRoot.fSize, .int .i64 x.fMeta.fRoot.fSum, .int .i64 x.fMeta.fRoot.fLevel, .int .i64 x.fMeta.fDepth, .int .i64 x.fMeta.fMany]), boxA b1 1 24 (.agg #[.slice a0 ps.length c0])]) _) := ⟨HS2⟩
        have HS : Bx (St w0 ([ivA RaidD.Own RaidD.Own.loc B42 C43 u41 r, boxA b32 1 34 u29, ivA RaidD.Own RaidD.Own.loc B30 C31 u29 ((rootY r x).marked 1), boxA b28 1 34 u25, ivA RaidD.Own RaidD.Own.loc B26 C27 u25 (r.marked 1), boxA b9 1 34 u6, ivA RaidD.Own RaidD.Own.loc B7 C8 u6 (rootY r x), ivA RaidD.Own RaidD.Own.loc B4 C5 u3 r, boxA b2 8 30 (.agg #[.int .i64 x.fTxg, .int .i64 x.fMeta.fRoot.fAt, .int .i64 x.fMeta.fRoot.fBirth, .int .i64 x.fMeta.fRoot.fSize, .int .i64 x.fMeta.fRoot.fSum, .int .i64 x.fMeta.fRoot.fLevel, .int .i64 x.fMeta.fDepth, .int .i64 x.fMeta.fMany]), boxA b1 1 24 (.agg #[.slice a0 ps.length c0])]) _) := ⟨(((HS2.out.erase 2).erase 1).erase 0)⟩; refine ⟨HS.out, ?_⟩
        refine wh_y 10 rfl (by kernel_rfl) (by kernel_rfl) (by kernel_rfl) (fun _ _ _ h => h) rfl HF rfl rfl (fun _ HS => (yl_assign rfl (HF.ev rfl))) HS.out ?_; clear HF a; intro a HF
        refine wh_done (by kernel_rfl) ?_
        replace HS := HS2; clear HS2
        replace HS : Bx (St w0 ([boxA b55 1 34 u56, ivA RaidD.Own RaidD.Own.loc B57 C58 u56 (rootY r x), ivA RaidD.Own RaidD.Own.loc B45 C46 u44 r, ivA RaidD.Own RaidD.Own.loc B42 C43 u41 r, boxA b32 1 34 u29, ivA RaidD.Own RaidD.Own.loc B30 C31 u29 ((rootY r x).marked 1), boxA b28 1 34 u25, ivA RaidD.Own RaidD.Own.loc B26 C27 u25 (r.marked 1), boxA b9 1 34 u6, ivA RaidD.Own RaidD.Own.loc B7 C8 u6 (rootY r x), ivA RaidD.Own RaidD.Own.loc B4 C5 u3 r, boxA b2 8 30 (.agg #[.int .i64 x.fTxg, .int .i64 x.fMeta.fRoot.fAt, .int .i64 x.fMeta.fRoot.fBirth, .int .i64 x.fMeta.fRoot.fSize, .int .i64 x.fMeta.fRoot.fSum, .int .i64 x.fMeta.fRoot.fLevel, .int .i64 x.fMeta.fDepth, .int .i64 x.fMeta.fMany]), boxA b1 1 24 (.agg #[.slice a0 ps.length c0])]) _) := ⟨(((((((((((((HS.out).pick 12 rfl).pick 12 rfl).pick 12 rfl).pick 12 rfl).pick 12 rfl).pick 12 rfl).pick 12 rfl).pick 12 rfl).pick 12 rfl).pick 12 rfl).pick 12 rfl).pick 11 rfl).pick 12 rfl⟩
        exact on_mk ⟨_, _, _, _, _, _, _, HF.less _ ⟨rfl, rfl, rfl, rfl, rfl, rfl, rfl, rfl, rfl, rfl, rfl, rfl, rfl, rfl, rfl, rfl, rfl, rfl, rfl, rfl, rfl, rfl, rfl, rfl, rfl, rfl, rfl, rfl, rfl, rfl, rfl, rfl, rfl, rfl, rfl, rfl, rfl, rfl, rfl, rfl, rfl, rfl, rfl, rfl, rfl, rfl, rfl, rfl, rfl, rfl, rfl, rfl, rfl, rfl, rfl, rfl, rfl, rfl, rfl, rfl, rfl, rfl, rfl, rfl, trivial⟩, HS.out⟩
      ·skip
       refine wo_alloc rfl rfl HF rfl rfl rfl (Z := [.slice none 0 0]) (by kernel_rfl) rfl HS2.out HS.out ?_; clear HF HS HS2 a; intro a w74 b59 HF HS2 HS; replace HS := Bx.mk HS; replace HS2 := Bx.mk HS2; refine ⟨HS.out, ?_⟩
       refine wh_one 1 (by kernel_rfl) ?_
       refine wo_call rfl rfl HF rfl (enter_of Tryz.func9 (by kernel_rfl) rfl) (args := #[.agg #[.slice a0 ps.length c0]]) rfl (toRaid_any _ r _ hf (HR.out.below HS.out.bel)) rfl rfl ?_
       rintro _ w76 ⟨u60, rfl, ho, hb⟩
       refine ⟨_, rfl, ?_⟩; replace HS := Bx.mk (HS.out.later hb); replace HS2 := Bx.mk (HS2.out.add (St.ivNew (loc := RaidD.Own.loc) ho hb)); clear ho hb HF; clear a; intro a HF; refine ⟨HS.out, ?_⟩
       obtain ⟨B61, C62, hh⟩ : ∃ B B1, St w0 ([ivA RaidD.Own RaidD.Own.loc B B1 u60 r, boxA b59 1 34 (.agg #[.slice none 0 0]), ivA RaidD.Own RaidD.Own.loc B42 C43 u41 r, boxA b32 1 34 u29, ivA RaidD.Own RaidD.Own.loc B30 C31 u29 ((rootY r x).marked 1), boxA b28 1 34 u25, ivA RaidD.Own RaidD.Own.loc B26 C27 u25 (r.marked 1), boxA b9 1 34 u6, ivA RaidD.Own RaidD.Own.loc B7 C8 u6 (rootY r x), ivA RaidD.Own RaidD.Own.loc B4 C5 u3 r, boxA b2 8 30 (.agg #[.int .i64 x.fTxg, .int .i64 x.fMeta.fRoot.fAt, .int .i64 x.fMeta.fRoot.fBirth, .int .i64 x.fMeta.fRoot.fSize, .int .i64 x.fMeta.fRoot.fSum, .int .i64 x.fMeta.fRoot.fLevel, .int .i64 x.fMeta.fDepth, .int .i64 x.fMeta.fMany]), boxA b1 1 24 (.agg #[.slice a0 ps.length c0])]) w76 := ⟨_, _, HS2.out⟩; replace HS2 := Bx.mk hh; clear hh
       refine wh_one 3 (by kernel_rfl) ?_
       refine wo_callB rfl rfl HF rfl (enter_of Tryz.func10 (by kernel_rfl) rfl) (args := #[.agg #[.int .i64 x.fTxg, .int .i64 x.fMeta.fRoot.fAt, .int .i64 x.fMeta.fRoot.fBirth, .int .i64 x.fMeta.fRoot.fSize, .int .i64 x.fMeta.fRoot.fSum, .int .i64 x.fMeta.fRoot.fLevel, .int .i64 x.fMeta.fDepth, .int .i64 x.fMeta.fMany]]) rfl (v := .agg #[.int .i64 x.fTxg, .int .i64 x.fMeta.fRoot.fAt, .int .i64 x.fMeta.fRoot.fBirth, .int .i64 x.fMeta.fRoot.fSize, .int .i64 x.fMeta.fRoot.fSum, .int .i64 x.fMeta.fRoot.fLevel, .int .i64 x.fMeta.fDepth, .int .i64 x.fMeta.fMany]) (toRoot_any x _) rfl rfl ?_
       intro w77 hb; replace HS := Bx.mk (HS.out.later hb); replace HS2 := Bx.mk (HS2.out.later hb); clear hb HF; clear a; intro a HF; refine ⟨HS.out, ?_⟩
       refine wh_one 4 (by kernel_rfl) ?_
       refine wo_call rfl rfl HF rfl (enter_of Tryz.func11 (by kernel_rfl) rfl) (args := #[u60, .agg #[.int .i64 x.fTxg, .int .i64 x.fMeta.fRoot.fAt, .int .i64 x.fMeta.fRoot.fBirth, .int .i64 x.fMeta.fRoot.fSize, .int .i64 x.fMeta.fRoot.fSum, .int .i64 x.fMeta.fRoot.fLevel, .int .i64 x.fMeta.fDepth, .int .i64 x.fMeta.fMany]]) rfl (implRootW_own _ r x _ hft (RaidD.Own.rd (HS2.out.iv 0 rfl)) hf.n (HT.out.below HS2.out.bel)) rfl rfl ?_
       rintro _ w79 ⟨u63, rfl, ho, hb⟩
       refine ⟨_, rfl, ?_⟩; replace HS := Bx.mk (HS.out.later hb); replace HS2 := Bx.mk (HS2.out.add (St.ivNew (loc := RaidD.Own.loc) ho hb)); clear ho hb HF; clear a; intro a HF; refine ⟨HS.out, ?_⟩
       obtain ⟨B64, C65, hh⟩ : ∃ B B1, St w0 ([ivA RaidD.Own RaidD.Own.loc B B1 u63 (rootY r x), ivA RaidD.Own RaidD.Own.loc B61 C62 u60 r, boxA b59 1 34 (.agg #[.slice none 0 0]), ivA RaidD.Own RaidD.Own.loc B42 C43 u41 r, boxA b32 1 34 u29, ivA RaidD.Own RaidD.Own.loc B30 C31 u29 ((rootY r x).marked 1), boxA b28 1 34 u25, ivA RaidD.Own RaidD.Own.loc B26 C27 u25 (r.marked 1), boxA b9 1 34 u6, ivA RaidD.Own RaidD.Own.loc B7 C8 u6 (rootY r x), ivA RaidD.Own RaidD.Own.loc B4 C5 u3 r, boxA b2 8 30 (.agg #[.int .i64 x.fTxg, .int .i64 x.fMeta.fRoot.fAt, .int .i64 x.fMeta.fRoot.fBirth, .int .i64 x.fMeta.fRoot.fSize, .int .i64 x.fMeta.fRoot.fSum, .int .i64 x.fMeta.fRoot.fLevel, .int .i64 x.fMeta.fDepth, .int .i64 x.fMeta.fMany]), boxA b1 1 24 (.agg #[.slice a0 ps.length c0])]) w79 := ⟨_, _, HS2.out⟩; replace HS2 := Bx.mk hh; clear hh
       refine wh_y 5 rfl (by kernel_rfl) (by kernel_rfl) (by kernel_rfl) (fun _ _ _ h => h) rfl HF rfl rfl (fun _ HS => (yl_move rfl (HF.ev rfl))) HS.out ?_; clear HF a; intro a HF
       refine wh_y 6 rfl (by kernel_rfl) (by kernel_rfl) (by kernel_rfl) (fun _ _ _ h => h) rfl HF rfl rfl (fun _ HS => (yl_extract rfl (HF.ev rfl) rfl)) HS.out ?_; clear HF a; intro a HF
       refine wh_y 7 rfl (by kernel_rfl) (by kernel_rfl) (by kernel_rfl) (fun _ _ _ h => h) rfl HF rfl rfl (fun _ HS => (yl_extract rfl (HF.ev rfl) rfl)) HS.out ?_; clear HF a; intro a HF
       refine wh_one 9 (by kernel_rfl) ?_
       refine wo_storeBox rfl rfl rfl rfl (HF.ev rfl) (HF.ev rfl) HS2.out 2 rfl (RaidD.Own.cells (HS2.out.iv 0 rfl)) (by kernel_rfl) ?_
       clear HS HS2; intro w80 HS2; replace HS2 : Bx (St w0 ([ivA RaidD.Own RaidD.Own.loc B64 C65 u63 (rootY r x), ivA RaidD.Own RaidD.Own.loc B61 C62 u60 r, boxA b59 1 34 u63, ivA RaidD.Own RaidD.Own.loc B42 C43 u41 r, boxA b32 1 34 u29, ivA RaidD.Own RaidD.Own.loc B30 C31 u29 ((rootY r x).marked 1), boxA b28 1 34 u25, ivA RaidD.Own RaidD.Own.loc B26 C27 u25 (r.marked 1), boxA b9 1 34 u6, ivA RaidD.Own RaidD.Own.loc B7 C8 u6 (rootY r x), ivA RaidD.Own RaidD.Own.loc B4 C5 u3 r, boxA b2 8 30 (.agg #[.int .i64 x.fTxg, .int .i64 x.fMeta.fRoot.fAt, .int .i64 x.fMeta.fRoot.fBirth, .int .i64 x.fMeta.fRoot.fSize, .int .i64 x.fMeta.fRoot.fSum, .int .i64 x.fMeta.fRoot.fLevel, .int .i64 x.fMeta.fDepth, .int .i64 x.fMeta.fMany]), boxA b1 1 24 (.agg #[.slice a0 ps.length c0])]) _) := ⟨HS2⟩
       have HS : Bx (St w0 ([ivA RaidD.Own RaidD.Own.loc B42 C43 u41 r, boxA b32 1 34 u29, ivA RaidD.Own RaidD.Own.loc B30 C31 u29 ((rootY r x).marked 1), boxA b28 1 34 u25, ivA RaidD.Own RaidD.Own.loc B26 C27 u25 (r.marked 1), boxA b9 1 34 u6, ivA RaidD.Own RaidD.Own.loc B7 C8 u6 (rootY r x), ivA RaidD.Own RaidD.Own.loc B4 C5 u3 r, boxA b2 8 30 (.agg #[.int .i64 x.fTxg, .int .i64 x.fMeta.fRoot.fAt, .int .i64 x.fMeta.fRoot.fBirth, .int .i64 x.fMeta.fRoot.fSize, .int .i64 x.fMeta.fRoot.fSum, .int .i64 x.fMeta.fRoot.fLevel, .int .i64 x.fMeta.fDepth, .int .i64 x.fMeta.fMany]), boxA b1 1 24 (.agg #[.slice a0 ps.length c0])]) _) := ⟨(((HS2.out.erase 2).erase 1).erase 0)⟩; refine ⟨HS.out, ?_⟩
       refine wh_y 10 rfl (by kernel_rfl) (by kernel_rfl) (by kernel_rfl) (fun _ _ _ h => h) rfl HF rfl rfl (fun _ HS => (yl_assign rfl (HF.ev rfl))) HS.out ?_; clear HF a; intro a HF
       refine wh_done (by kernel_rfl) ?_
       replace HS := HS2; clear HS2
       replace HS : Bx (St w0 ([boxA b59 1 34 u63, ivA RaidD.Own RaidD.Own.loc B64 C65 u63 (rootY r x), ivA RaidD.Own RaidD.Own.loc B61 C62 u60 r, ivA RaidD.Own RaidD.Own.loc B42 C43 u41 r, boxA b32 1 34 u29, ivA RaidD.Own RaidD.Own.loc B30 C31 u29 ((rootY r x).marked 1), boxA b28 1 34 u25, ivA RaidD.Own RaidD.Own.loc B26 C27 u25 (r.marked 1), boxA b9 1 34 u6, ivA RaidD.Own RaidD.Own.loc B7 C8 u6 (rootY r x), ivA RaidD.Own RaidD.Own.loc B4 C5 u3 r, boxA b2 8 30 (.agg #[.int .i64 x.fTxg, .int .i64 x.fMeta.fRoot.fAt, .int .i64 x.fMeta.fRoot.fBirth, .int .i64 x.fMeta.fRoot.fSize, .int .i64 x.fMeta.fRoot.fSum, .int .i64 x.fMeta.fRoot.fLevel, .int .i64 x.fMeta.fDepth, .int .i64 x.fMeta.fMany]), boxA b1 1 24 (.agg #[.slice a0 ps.length c0])]) _) := ⟨(((((((((((((HS.out).pick 12 rfl).pick 12 rfl).pick 12 rfl).pick 12 rfl).pick 12 rfl).pick 12 rfl).pick 12 rfl).pick 12 rfl).pick 12 rfl).pick 12 rfl).pick 11 rfl).pick 11 rfl).pick 12 rfl⟩
       exact on_mk ⟨_, _, _, _, _, _, _, HF.less _ ⟨rfl, rfl, rfl, rfl, rfl, rfl, rfl, rfl, rfl, rfl, rfl, rfl, rfl, rfl, rfl, rfl, rfl, rfl, rfl, rfl, rfl, rfl, rfl, rfl, rfl, rfl, rfl, rfl, rfl, rfl, rfl, rfl, rfl, rfl, rfl, rfl, rfl, rfl, rfl, rfl, rfl, rfl, rfl, rfl, rfl, rfl, rfl, rfl, rfl, rfl, rfl, rfl, rfl, rfl, rfl, rfl, rfl, rfl, rfl, rfl, rfl, rfl, rfl, rfl, trivial⟩, HS.out⟩
     clear HF HS a; rintro a w81 ⟨b50, u47, B48, C49, B45, C46, u44, HF, HS⟩; replace HS := Bx.mk HS
     refine ex_then ?_
     refine wp_seq ?_
     refine wp_sr ?_
     refine wl_y rfl HF rfl rfl (yl_loadB (v := u47) rfl (HF.ev rfl) (HS.out.box 0 rfl) (by kernel_rfl)) ?_; clear HF a; intro a HF
     refine wl_y rfl HF rfl rfl (yl_loadB (v := u6) rfl (HF.ev rfl) (HS.out.box 8 rfl) (by kernel_rfl)) ?_; clear HF a; intro a HF
     refine wl_callB rfl HF rfl (enter_of Tryz.func12 (by kernel_rfl) rfl) (args := #[u47, u6]) rfl (v := .bool true) (eqRaid_yes _ _ (rootY r x) _ hfy (RaidD.Own.rd (HS.out.iv 1 rfl)) (RaidD.Own.rd (HS.out.iv 9 rfl))) rfl rfl HS.out ?_; clear HF HS a; intro w82 a HS HF; replace HS := Bx.mk HS
     refine wl_y rfl HF rfl rfl (yl_not rfl (HF.ev rfl)) ?_; clear HF a; intro a HF
     refine wl_mv HF rfl rfl rfl rfl rfl ?_; clear HF a; intro a HF
     refine wl_yg HF rfl rfl rfl rfl rfl (yl_move rfl (HF.ev rfl)) ?_; clear HF a; intro a HF
     refine wl_yg HF rfl rfl rfl rfl rfl (yl_move rfl (HF.ev rfl)) ?_; clear HF a; intro a HF
     refine wl_yg HF rfl rfl rfl rfl rfl (yl_neqBs rfl (HF.ev rfl) (HF.ev rfl) (by kernel_rfl)) ?_; clear HF a; intro a HF
     refine wl_y rfl HF rfl rfl (yl_pick_f rfl (HF.ev rfl) (HF.ev rfl)) ?_; clear HF a; intro a HF
     refine wl_ne ?_
     refine wc_false HF rfl ?_
     refine wp_skip ?_
     refine ex_then ?_
     refine wp_sr ?_
     refine wl_as HF rfl rfl rfl rfl rfl ?_; clear HF a; intro a HF
     refine wl_ne ?_
     refine wp_sr ?_
     refine wl_y rfl HF rfl rfl (yl_loadB (v := u29) rfl (HF.ev rfl) (HS.out.box 4 rfl) (by kernel_rfl)) ?_; clear HF a; intro a HF
     refine wl_mv HF rfl rfl rfl rfl rfl ?_; clear HF a; intro a HF
     refine wl_callB rfl HF rfl (enter_of Tryz.func14 (by kernel_rfl) rfl) (args := #[u29, .int .i64 1]) rfl (v := .int .i64 ((rootY r x).past 1)) (heldRaid_any _ (rootY r x) 1 _ (by omega) (by omega) hfy (RaidD.Own.rd (HS.out.iv 5 rfl))) rfl rfl HS.out ?_; clear HF HS a; intro w83 a HS HF; replace HS := Bx.mk HS
     refine wl_as HF rfl rfl rfl rfl rfl ?_; clear HF a; intro a HF
     refine wl_ne ?_
     refine wp_seq ?_
     refine wp_sr ?_
     refine wl_mv HF rfl rfl rfl rfl rfl ?_; clear HF a; intro a HF
     refine wl_y rfl HF rfl rfl (yl_lssI rfl (HF.ev rfl) (HF.ev rfl)) ?_; clear HF a; intro a HF
     refine wl_ne ?_
     refine HF.cases 100 rfl (fun cc5 HF1 => ?_) (fun cc5 HF1 => ?_)
     ·clear HF; have HF := HF1; clear HF1
      exact absurd (of_decide_eq_true cc5) (by omega)
     ·clear HF; have HF := HF1; clear HF1
      refine wc_false HF rfl ?_
      refine wp_skip ?_
      refine ex_then ?_
      refine wp_seq ?_
      refine wp_sr ?_
      refine wl_mv HF rfl rfl rfl rfl rfl ?_; clear HF a; intro a HF
      refine wl_mv HF rfl rfl rfl rfl rfl ?_; clear HF a; intro a HF
      refine wl_y rfl HF rfl rfl (yl_neqI rfl (HF.ev rfl) (HF.ev rfl)) ?_; clear HF a; intro a HF
      refine wl_ne ?_
      refine HF.cases 103 rfl (fun cc6 HF1 => ?_) (fun cc6 HF1 => ?_)
      ·clear HF; have HF := HF1; clear HF1
       exact absurd cc6 (by simp)
      ·clear HF; have HF := HF1; clear HF1
       refine wc_false HF rfl ?_
       refine wp_skip ?_
       refine ex_then ?_
       refine wp_sr ?_
       refine wl_as HF rfl rfl rfl rfl rfl ?_; clear HF a; intro a HF
       refine wl_ne ?_
       refine wp_ret ?_
       refine bp_ret1 HF Tryz.results3 (HF.res rfl) ?_
       exact ⟨rfl, HS.out.bel⟩
end Go.Proofs.YtoaopmkbfifhaaaGreatDoor
