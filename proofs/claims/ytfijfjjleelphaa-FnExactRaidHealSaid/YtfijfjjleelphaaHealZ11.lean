/- A part of the proof in YtfijfjjleelphaaHealZ16. -/
import Derived.ArgAppend
import Derived.BigQuiet
import Derived.BigRegion
import Derived.Deep.AppendLies
import Derived.Deep.MidRow
import Derived.Deep.Quiet
import Derived.Deep.QuietTactic
import Derived.Deep.RegionHeld3
import Derived.Deep.RegionWith
import Derived.IntWalk
import Derived.Laws.BytesArg
import Derived.Lib.Hide
import Derived.Lib.LazyBuf
import Derived.LoopN
import Derived.Orders
import Derived.OrdersHeld
import Derived.Still
import Derived.StillTail
import Derived.StillTailTactics
import Derived.Test.YtfijfjjleelphaaRows
import Derived.WalkKit
import Derived.WalkLawsBesides
import Derived.WalkSpells
import Derived.Test.YtfijfjjleelphaaHealZ10
/- A write to a disk, walked. -/
namespace Go.Proofs.Ytfijfjjleelphaa
open Go.RowKit

def DiskD.can (d : DiskD) (n : Int) (t : ByteArray) : Bool := !d.fGone && (inB n 0 63 && (decide (t.size ≤ 200) && decide (d.fWaits.length < 120)))

set_option maxHeartbeats 1000000 in
set_option maxRecDepth 100000 in
theorem l3Write_any (w0 w : World) (a0 : Option Addr) (c0 : Nat) (a1 : Option Addr) (c1 : Nat) (d : DiskD) (n : Int) (t : ByteArray) (F : List Asr) (hw : d.fWaits.length ≤ 1000) (ht : t.size ≤ 9223372036854775806) (hS : St w0 (rowA encS 1 9 (.slice a0 d.fCells.length c0) d.fCells :: rowA WaitD.cells 2 144 (.slice a1 d.fWaits.length c1) d.fWaits :: F) w) : Calls Try.prog 123 #[.agg #[.slice a0 d.fCells.length c0, .slice a1 d.fWaits.length c1, .bool d.fGone], .int .i64 n, .string t] w fun e w' => (d.can n t = false ∧ e = .returned (.tuple #[.agg #[.slice a0 d.fCells.length c0, .slice a1 d.fWaits.length c1, .bool d.fGone], .bool false]) ∧ St w0 (rowA encS 1 9 (.slice a0 d.fCells.length c0) d.fCells :: rowA WaitD.cells 2 144 (.slice a1 d.fWaits.length c1) d.fWaits :: F) w') ∨ (d.can n t = true ∧ ∃ a1' c1', e = .returned (.tuple #[.agg #[.slice a0 d.fCells.length c0, .slice a1' (d.fWaits ++ [(⟨n, t⟩ : WaitD)]).length c1', .bool d.fGone], .bool true]) ∧ St w0 (rowA encS 1 9 (.slice a0 d.fCells.length c0) d.fCells :: rowA WaitD.cells 2 144 (.slice a1' (d.fWaits ++ [(⟨n, t⟩ : WaitD)]).length c1') (d.fWaits ++ [(⟨n, t⟩ : WaitD)]) :: F) w') := by
  have HS := Bx.mk hS; clear hS
  refine wc_enter Try.func123 rfl Try.ntmps123 [(0, .agg #[.slice a0 d.fCells.length c0, .slice a1 d.fWaits.length c1, .bool d.fGone]), (1, .int .i64 n), (2, .string t)] ⟨rfl, rfl, rfl, trivial⟩ rfl ?_; intro a HF
  refine wp_seq ?_
  refine wp_region_lit ?_
  refine wl_box rfl HF rfl (HF.ev rfl) (Z := [.slice a0 d.fCells.length c0, .slice a1 d.fWaits.length c1, .bool d.fGone]) rfl rfl rfl rfl HS.out ?_; clear HF HS; clear a; intro a w1 b1 HF HS; replace HS := Bx.mk HS
  refine wl_alloc rfl HF rfl rfl rfl (Z := [.slice none 0 0, .slice none 0 0, .bool false]) (by kernel_rfl) rfl HS.out ?_; clear HF HS; clear a; intro a w2 b2 HF HS; replace HS := Bx.mk HS
  refine wl_y rfl HF rfl rfl (yl_assign rfl (HF.ev rfl)) ?_; clear HF; clear a; intro a HF
  refine wpList_nil ?_
  refine ex_then ?_
  refine wp_seq ?_
  refine wp_seq ?_
  refine wp_region_lit ?_
  refine wl_y rfl HF rfl rfl (yl_fieldAddr (j := 2) rfl (HF.ev rfl) (by kernel_rfl)) ?_; clear HF; clear a; intro a HF
  refine wl_y rfl HF rfl rfl (yl_load (v := .bool d.fGone) rfl (HF.ev rfl) (((HS.out.box 1 rfl).cell 2).trans rfl) (by kernel_rfl)) ?_; clear HF; clear a; intro a HF
  refine wl_y rfl HF rfl rfl (yl_move rfl (HF.ev rfl)) ?_; clear HF; clear a; intro a HF
  refine HF.cases 10 rfl (fun cc1 HF1 => ?_) (fun cc1 HF1 => ?_)
  · clear HF; have HF := HF1; clear HF1
    have q1 : d.fGone = true := cc1
    refine wl_skip HF rfl rfl rfl rfl rfl rfl ?_; clear HF; clear a; intro a HF
    refine wl_skip HF rfl rfl rfl rfl rfl rfl ?_; clear HF; clear a; intro a HF
    refine wl_skip HF rfl rfl rfl rfl rfl rfl ?_; clear HF; clear a; intro a HF
    refine wl_y rfl HF rfl rfl (yl_pick_t rfl (HF.ev rfl) (HF.ev rfl)) ?_; clear HF; clear a; intro a HF
    refine wl_y rfl HF rfl rfl (yl_move rfl (HF.ev rfl)) ?_; clear HF; clear a; intro a HF
    refine wl_skip HF rfl rfl rfl rfl rfl rfl ?_; clear HF; clear a; intro a HF
    refine wl_skip HF rfl rfl rfl rfl rfl rfl ?_; clear HF; clear a; intro a HF
    refine wl_skip HF rfl rfl rfl rfl rfl rfl ?_; clear HF; clear a; intro a HF
    refine wl_y rfl HF rfl rfl (yl_pick_t rfl (HF.ev rfl) (HF.ev rfl)) ?_; clear HF; clear a; intro a HF
    refine wl_y rfl HF rfl rfl (yl_move rfl (HF.ev rfl)) ?_; clear HF; clear a; intro a HF
    refine wl_skip HF rfl rfl rfl rfl rfl rfl ?_; clear HF; clear a; intro a HF
    refine wl_skip HF rfl rfl rfl rfl rfl rfl ?_; clear HF; clear a; intro a HF
    refine wl_skip HF rfl rfl rfl rfl rfl rfl ?_; clear HF; clear a; intro a HF
    refine wl_skip HF rfl rfl rfl rfl rfl rfl ?_; clear HF; clear a; intro a HF
    refine wl_y rfl HF rfl rfl (yl_pick_t rfl (HF.ev rfl) (HF.ev rfl)) ?_; clear HF; clear a; intro a HF
    refine wpList_nil ?_
    refine ex_then ?_
    refine wc_true HF rfl ?_
    refine wp_seq ?_
    refine wp_region_lit ?_
    refine wl_y rfl HF rfl rfl (yl_loadR (cs := [.slice a0 d.fCells.length c0, .slice a1 d.fWaits.length c1, .bool d.fGone]) rfl (HF.ev rfl) ((HS.out.box 1 rfl).sub 0 3) (by kernel_rfl)) ?_; clear HF; clear a; intro a HF
    refine wl_storeBox rfl HF rfl rfl (HF.ev rfl) (HF.ev rfl) HS.out 0 rfl (cells_lit [.slice a0 d.fCells.length c0, .slice a1 d.fWaits.length c1, .bool d.fGone] rfl rfl) (by kernel_rfl) ?_; clear HS; intro w3 HS; replace HS := Bx.mk HS
    have HS : Bx (St w0 (boxA b2 3 44 (.agg #[.slice a0 d.fCells.length c0, .slice a1 d.fWaits.length c1, .bool d.fGone]) :: boxA b1 3 44 (.agg #[.slice a0 d.fCells.length c0, .slice a1 d.fWaits.length c1, .bool d.fGone]) :: rowA encS 1 9 (.slice a0 d.fCells.length c0) d.fCells :: rowA WaitD.cells 2 144 (.slice a1 d.fWaits.length c1) d.fWaits :: F) _) := HS
    refine wl_y rfl HF rfl rfl (yl_assign rfl (HF.ev rfl)) ?_; clear HF; clear a; intro a HF
    refine wpList_nil ?_
    refine ex_then ?_
    refine wp_ret ?_
    refine ex_then_ret ?_
    refine bp_ret2 HF Try.results123 (HF.resBox rfl (HS.out.box 0 rfl) (by kernel_rfl)) (HF.res rfl) ?_
    replace HS : Bx (St w0 (rowA encS 1 9 (.slice a0 d.fCells.length c0) d.fCells :: rowA WaitD.cells 2 144 (.slice a1 d.fWaits.length c1) d.fWaits :: boxA b2 3 44 (.agg #[.slice a0 d.fCells.length c0, .slice a1 d.fWaits.length c1, .bool d.fGone]) :: boxA b1 3 44 (.agg #[.slice a0 d.fCells.length c0, .slice a1 d.fWaits.length c1, .bool d.fGone]) :: F) _) := ⟨((HS.out).pick 3 rfl).pick 3 rfl⟩
    exact .inl ⟨by unfold DiskD.can; rw [q1]; rfl, rfl, ((HS.out.erase 3).erase 2)⟩
  · clear HF; have HF := HF1; clear HF1
    have q1 : d.fGone = false := cc1
    refine wl_yg HF rfl rfl rfl rfl rfl (yl_move rfl (HF.ev rfl)) ?_; clear HF; clear a; intro a HF
    refine wl_callBg HF rfl rfl rfl rfl (enter_of Try.func161 (by kernel_rfl) rfl) (args := #[.int .i64 n]) rfl (v := .bool (inB n 0 63)) (l3Cell_any n _) rfl rfl HS.out ?_; clear HF HS; clear a; intro w4 a HS HF; replace HS := Bx.mk HS
    refine wl_yg HF rfl rfl rfl rfl rfl (yl_not rfl (HF.ev rfl)) ?_; clear HF; clear a; intro a HF
    refine wl_y rfl HF rfl rfl (yl_pick_f rfl (HF.ev rfl) (HF.ev rfl)) ?_; clear HF; clear a; intro a HF
    refine wl_y rfl HF rfl rfl (yl_move rfl (HF.ev rfl)) ?_; clear HF; clear a; intro a HF
    refine HF.cases 15 rfl (fun cc2 HF1 => ?_) (fun cc2 HF1 => ?_)
    · clear HF; have HF := HF1; clear HF1
      have q2 : inB n 0 63 = false := by simpa using cc2
      refine wl_skip HF rfl rfl rfl rfl rfl rfl ?_; clear HF; clear a; intro a HF
      refine wl_skip HF rfl rfl rfl rfl rfl rfl ?_; clear HF; clear a; intro a HF
      refine wl_skip HF rfl rfl rfl rfl rfl rfl ?_; clear HF; clear a; intro a HF
      refine wl_y rfl HF rfl rfl (yl_pick_t rfl (HF.ev rfl) (HF.ev rfl)) ?_; clear HF; clear a; intro a HF
      refine wl_y rfl HF rfl rfl (yl_move rfl (HF.ev rfl)) ?_; clear HF; clear a; intro a HF
      refine wl_skip HF rfl rfl rfl rfl rfl rfl ?_; clear HF; clear a; intro a HF
      refine wl_skip HF rfl rfl rfl rfl rfl rfl ?_; clear HF; clear a; intro a HF
      refine wl_skip HF rfl rfl rfl rfl rfl rfl ?_; clear HF; clear a; intro a HF
      refine wl_skip HF rfl rfl rfl rfl rfl rfl ?_; clear HF; clear a; intro a HF
      refine wl_y rfl HF rfl rfl (yl_pick_t rfl (HF.ev rfl) (HF.ev rfl)) ?_; clear HF; clear a; intro a HF
      refine wpList_nil ?_
      refine ex_then ?_
      refine wc_true HF rfl ?_
      refine wp_seq ?_
      refine wp_region_lit ?_
      refine wl_y rfl HF rfl rfl (yl_loadR (cs := [.slice a0 d.fCells.length c0, .slice a1 d.fWaits.length c1, .bool d.fGone]) rfl (HF.ev rfl) ((HS.out.box 1 rfl).sub 0 3) (by kernel_rfl)) ?_; clear HF; clear a; intro a HF
      refine wl_storeBox rfl HF rfl rfl (HF.ev rfl) (HF.ev rfl) HS.out 0 rfl (cells_lit [.slice a0 d.fCells.length c0, .slice a1 d.fWaits.length c1, .bool d.fGone] rfl rfl) (by kernel_rfl) ?_; clear HS; intro w5 HS; replace HS := Bx.mk HS
      have HS : Bx (St w0 (boxA b2 3 44 (.agg #[.slice a0 d.fCells.length c0, .slice a1 d.fWaits.length c1, .bool d.fGone]) :: boxA b1 3 44 (.agg #[.slice a0 d.fCells.length c0, .slice a1 d.fWaits.length c1, .bool d.fGone]) :: rowA encS 1 9 (.slice a0 d.fCells.length c0) d.fCells :: rowA WaitD.cells 2 144 (.slice a1 d.fWaits.length c1) d.fWaits :: F) _) := HS
      refine wl_y rfl HF rfl rfl (yl_assign rfl (HF.ev rfl)) ?_; clear HF; clear a; intro a HF
      refine wpList_nil ?_
      refine ex_then ?_
      refine wp_ret ?_
      refine ex_then_ret ?_
      refine bp_ret2 HF Try.results123 (HF.resBox rfl (HS.out.box 0 rfl) (by kernel_rfl)) (HF.res rfl) ?_
      replace HS : Bx (St w0 (rowA encS 1 9 (.slice a0 d.fCells.length c0) d.fCells :: rowA WaitD.cells 2 144 (.slice a1 d.fWaits.length c1) d.fWaits :: boxA b2 3 44 (.agg #[.slice a0 d.fCells.length c0, .slice a1 d.fWaits.length c1, .bool d.fGone]) :: boxA b1 3 44 (.agg #[.slice a0 d.fCells.length c0, .slice a1 d.fWaits.length c1, .bool d.fGone]) :: F) _) := ⟨((HS.out).pick 3 rfl).pick 3 rfl⟩
      exact .inl ⟨by unfold DiskD.can; rw [q1, q2]; rfl, rfl, ((HS.out.erase 3).erase 2)⟩
    · clear HF; have HF := HF1; clear HF1
      have q2 : inB n 0 63 = true := by simpa using cc2
      refine wl_yg HF rfl rfl rfl rfl rfl (yl_move rfl (HF.ev rfl)) ?_; clear HF; clear a; intro a HF
      refine wl_yg HF rfl rfl rfl rfl rfl (yl_lenS rfl (HF.ev rfl) (by kernel_rfl)) ?_; clear HF; clear a; intro a HF
      refine wl_yg HF rfl rfl rfl rfl rfl (yl_gtrI rfl (HF.ev rfl) (HF.ev rfl)) ?_; clear HF; clear a; intro a HF
      refine wl_y rfl HF rfl rfl (yl_pick_f rfl (HF.ev rfl) (HF.ev rfl)) ?_; clear HF; clear a; intro a HF
      refine wl_y rfl HF rfl rfl (yl_move rfl (HF.ev rfl)) ?_; clear HF; clear a; intro a HF
      refine HF.cases 20 rfl (fun cc3 HF1 => ?_) (fun cc3 HF1 => ?_)
      · clear HF; have HF := HF1; clear HF1
        have q3 : decide (t.size ≤ 200) = false := decide_eq_false (by have := of_decide_eq_true cc3; omega)
        refine wl_skip HF rfl rfl rfl rfl rfl rfl ?_; clear HF; clear a; intro a HF
        refine wl_skip HF rfl rfl rfl rfl rfl rfl ?_; clear HF; clear a; intro a HF
        refine wl_skip HF rfl rfl rfl rfl rfl rfl ?_; clear HF; clear a; intro a HF
        refine wl_skip HF rfl rfl rfl rfl rfl rfl ?_; clear HF; clear a; intro a HF
        refine wl_y rfl HF rfl rfl (yl_pick_t rfl (HF.ev rfl) (HF.ev rfl)) ?_; clear HF; clear a; intro a HF
        refine wpList_nil ?_
        refine ex_then ?_
        refine wc_true HF rfl ?_
        refine wp_seq ?_
        refine wp_region_lit ?_
        refine wl_y rfl HF rfl rfl (yl_loadR (cs := [.slice a0 d.fCells.length c0, .slice a1 d.fWaits.length c1, .bool d.fGone]) rfl (HF.ev rfl) ((HS.out.box 1 rfl).sub 0 3) (by kernel_rfl)) ?_; clear HF; clear a; intro a HF
        refine wl_storeBox rfl HF rfl rfl (HF.ev rfl) (HF.ev rfl) HS.out 0 rfl (cells_lit [.slice a0 d.fCells.length c0, .slice a1 d.fWaits.length c1, .bool d.fGone] rfl rfl) (by kernel_rfl) ?_; clear HS; intro w6 HS; replace HS := Bx.mk HS
        have HS : Bx (St w0 (boxA b2 3 44 (.agg #[.slice a0 d.fCells.length c0, .slice a1 d.fWaits.length c1, .bool d.fGone]) :: boxA b1 3 44 (.agg #[.slice a0 d.fCells.length c0, .slice a1 d.fWaits.length c1, .bool d.fGone]) :: rowA encS 1 9 (.slice a0 d.fCells.length c0) d.fCells :: rowA WaitD.cells 2 144 (.slice a1 d.fWaits.length c1) d.fWaits :: F) _) := HS
        refine wl_y rfl HF rfl rfl (yl_assign rfl (HF.ev rfl)) ?_; clear HF; clear a; intro a HF
        refine wpList_nil ?_
        refine ex_then ?_
        refine wp_ret ?_
        refine ex_then_ret ?_
        refine bp_ret2 HF Try.results123 (HF.resBox rfl (HS.out.box 0 rfl) (by kernel_rfl)) (HF.res rfl) ?_
        replace HS : Bx (St w0 (rowA encS 1 9 (.slice a0 d.fCells.length c0) d.fCells :: rowA WaitD.cells 2 144 (.slice a1 d.fWaits.length c1) d.fWaits :: boxA b2 3 44 (.agg #[.slice a0 d.fCells.length c0, .slice a1 d.fWaits.length c1, .bool d.fGone]) :: boxA b1 3 44 (.agg #[.slice a0 d.fCells.length c0, .slice a1 d.fWaits.length c1, .bool d.fGone]) :: F) _) := ⟨((HS.out).pick 3 rfl).pick 3 rfl⟩
        exact .inl ⟨by unfold DiskD.can; rw [q1, q2, q3]; rfl, rfl, ((HS.out.erase 3).erase 2)⟩
      · clear HF; have HF := HF1; clear HF1
        have q3 : decide (t.size ≤ 200) = true := decide_eq_true (by have := of_decide_eq_false cc3; omega)
        refine wl_yg HF rfl rfl rfl rfl rfl (yl_fieldAddr (j := 1) rfl (HF.ev rfl) (by kernel_rfl)) ?_; clear HF; clear a; intro a HF
        refine wl_yg HF rfl rfl rfl rfl rfl (yl_load (v := .slice a1 d.fWaits.length c1) rfl (HF.ev rfl) (((HS.out.box 1 rfl).cell 1).trans rfl) (by kernel_rfl)) ?_; clear HF; clear a; intro a HF
        refine wl_yg HF rfl rfl rfl rfl rfl (yl_lenL (e := 144) (size := 2) rfl (HF.ev rfl) (by kernel_rfl)) ?_; clear HF; clear a; intro a HF
        refine wl_yg HF rfl rfl rfl rfl rfl (yl_geqI rfl (HF.ev rfl) (HF.ev rfl)) ?_; clear HF; clear a; intro a HF
        refine wl_y rfl HF rfl rfl (yl_pick_f rfl (HF.ev rfl) (HF.ev rfl)) ?_; clear HF; clear a; intro a HF
        refine wpList_nil ?_
        refine ex_then ?_
        refine HF.cases 25 rfl (fun cc4 HF1 => ?_) (fun cc4 HF1 => ?_)
        · clear HF; have HF := HF1; clear HF1
          have q4 : decide (d.fWaits.length < 120) = false := decide_eq_false (by have := of_decide_eq_true cc4; omega)
          refine wc_true HF rfl ?_
          refine wp_seq ?_
          refine wp_region_lit ?_
          refine wl_y rfl HF rfl rfl (yl_loadR (cs := [.slice a0 d.fCells.length c0, .slice a1 d.fWaits.length c1, .bool d.fGone]) rfl (HF.ev rfl) ((HS.out.box 1 rfl).sub 0 3) (by kernel_rfl)) ?_; clear HF; clear a; intro a HF
          refine wl_storeBox rfl HF rfl rfl (HF.ev rfl) (HF.ev rfl) HS.out 0 rfl (cells_lit [.slice a0 d.fCells.length c0, .slice a1 d.fWaits.length c1, .bool d.fGone] rfl rfl) (by kernel_rfl) ?_; clear HS; intro w7 HS; replace HS := Bx.mk HS
          have HS : Bx (St w0 (boxA b2 3 44 (.agg #[.slice a0 d.fCells.length c0, .slice a1 d.fWaits.length c1, .bool d.fGone]) :: boxA b1 3 44 (.agg #[.slice a0 d.fCells.length c0, .slice a1 d.fWaits.length c1, .bool d.fGone]) :: rowA encS 1 9 (.slice a0 d.fCells.length c0) d.fCells :: rowA WaitD.cells 2 144 (.slice a1 d.fWaits.length c1) d.fWaits :: F) _) := HS
          refine wl_y rfl HF rfl rfl (yl_assign rfl (HF.ev rfl)) ?_; clear HF; clear a; intro a HF
          refine wpList_nil ?_
          refine ex_then ?_
          refine wp_ret ?_
          refine ex_then_ret ?_
          refine bp_ret2 HF Try.results123 (HF.resBox rfl (HS.out.box 0 rfl) (by kernel_rfl)) (HF.res rfl) ?_
          replace HS : Bx (St w0 (rowA encS 1 9 (.slice a0 d.fCells.length c0) d.fCells :: rowA WaitD.cells 2 144 (.slice a1 d.fWaits.length c1) d.fWaits :: boxA b2 3 44 (.agg #[.slice a0 d.fCells.length c0, .slice a1 d.fWaits.length c1, .bool d.fGone]) :: boxA b1 3 44 (.agg #[.slice a0 d.fCells.length c0, .slice a1 d.fWaits.length c1, .bool d.fGone]) :: F) _) := ⟨((HS.out).pick 3 rfl).pick 3 rfl⟩
          exact .inl ⟨by unfold DiskD.can; rw [q1, q2, q3, q4]; rfl, rfl, ((HS.out.erase 3).erase 2)⟩
        · clear HF; have HF := HF1; clear HF1
          have q4 : decide (d.fWaits.length < 120) = true := decide_eq_true (by have := of_decide_eq_false cc4; omega)
          refine wc_false HF rfl ?_
          refine wp_skip ?_
          refine ex_then ?_
          refine wp_seq ?_
          refine wp_region_lit ?_
          refine wl_empty (e := 144) (size := 2) rfl HF rfl rfl rfl (by kernel_rfl) HS.out ?_; clear HF HS; clear a; intro a w8 b3 HF HS; replace HS := Bx.mk HS
          refine wl_y rfl HF rfl rfl (yl_fieldAddr (j := 1) rfl (HF.ev rfl) (by kernel_rfl)) ?_; clear HF; clear a; intro a HF
          refine wl_y rfl HF rfl rfl (yl_load (v := .slice a1 d.fWaits.length c1) rfl (HF.ev rfl) (((HS.out.box 1 rfl).cell 1).trans rfl) (by kernel_rfl)) ?_; clear HF; clear a; intro a HF
          replace HS := Bx.mk (HS.out.nilRow WaitD.cells 2 144 (some ⟨b3, 0, none⟩))
          refine wl_appL rfl HF rfl rfl rfl (HF.ev rfl) (HF.ev rfl) elemW WaitD.cells_len HS.out 0 (xs := []) rfl (ys := d.fWaits) (St.rdOf HS.out WaitD.cells_len 4 rfl) (cells_one_W _) (by unfold maxLen; simp only [List.length_cons, List.length_nil]; omega) (by simp only [List.length_cons, List.length_nil]; omega) ?_; clear HF HS; clear a; intro ao5 cp6 w9 a HF HS; replace HS := Bx.mk HS
          replace HS : Bx (St w0 (rowA WaitD.cells 2 144 (.slice ao5 (([]).length + d.fWaits.length) cp6) (([]) ++ d.fWaits) :: boxA b2 3 44 (.agg #[.slice none 0 0, .slice none 0 0, .bool false]) :: boxA b1 3 44 (.agg #[.slice a0 d.fCells.length c0, .slice a1 d.fWaits.length c1, .bool d.fGone]) :: rowA encS 1 9 (.slice a0 d.fCells.length c0) d.fCells :: rowA WaitD.cells 2 144 (.slice a1 d.fWaits.length c1) d.fWaits :: F) _) := ⟨HS.out⟩
          have hz : ([] : List WaitD).length + d.fWaits.length = d.fWaits.length := Nat.zero_add _
          rw [hz] at HF; rw [hz, List.nil_append] at HS; clear hz
          replace HS : Bx (St w0 (rowA WaitD.cells 2 144 (.slice ao5 d.fWaits.length cp6) d.fWaits :: boxA b2 3 44 (.agg #[.slice none 0 0, .slice none 0 0, .bool false]) :: boxA b1 3 44 (.agg #[.slice a0 d.fCells.length c0, .slice a1 d.fWaits.length c1, .bool d.fGone]) :: rowA encS 1 9 (.slice a0 d.fCells.length c0) d.fCells :: rowA WaitD.cells 2 144 (.slice a1 d.fWaits.length c1) d.fWaits :: F) _) := ⟨HS.out⟩
          refine wl_y rfl HF rfl rfl (yl_move rfl (HF.ev rfl)) ?_; clear HF; clear a; intro a HF
          refine wl_y rfl HF rfl rfl (yl_move rfl (HF.ev rfl)) ?_; clear HF; clear a; intro a HF
          refine wl_y rfl HF rfl rfl (yl_build HF rfl (ps := [(0, .int .i64 n), (1, .string t)]) rfl (cs := #[.int .i64 n, .string t]) (by kernel_rfl)) ?_; clear HF; clear a; intro a HF
          refine wl_buildS (enc := WaitD.cells) (e := 144) (size := 2) rfl HF rfl rfl rfl (ps := [(0, .agg #[.int .i64 n, .string t])]) rfl (cells := [.int .i64 n, .string t]) (by kernel_rfl) [(⟨n, t⟩ : WaitD)] rfl rfl (by unfold maxLen; omega) rfl HS.out ?_; clear HF HS; clear a; intro b7 a w10 HF HS; replace HS := Bx.mk HS
          refine wl_appL rfl HF rfl rfl rfl (HF.ev rfl) (HF.ev rfl) elemW WaitD.cells_len HS.out 1 (xs := d.fWaits) rfl (ys := [(⟨n, t⟩ : WaitD)]) (St.rdN HS.out WaitD.cells_len 0 rfl) (cells_one_W _) (by unfold maxLen; simp only [List.length_cons, List.length_nil]; omega) (by simp only [List.length_cons, List.length_nil]; omega) ?_; clear HF HS; clear a; intro ao8 cp9 w11 a HF HS; replace HS := Bx.mk HS
          replace HS : Bx (St w0 (rowA WaitD.cells 2 144 (.slice (some ⟨b7, 0, none⟩) 1 1) ([(⟨n, t⟩ : WaitD)]) :: rowA WaitD.cells 2 144 (.slice ao8 (d.fWaits.length + ([(⟨n, t⟩ : WaitD)]).length) cp9) (d.fWaits ++ ([(⟨n, t⟩ : WaitD)])) :: boxA b2 3 44 (.agg #[.slice none 0 0, .slice none 0 0, .bool false]) :: boxA b1 3 44 (.agg #[.slice a0 d.fCells.length c0, .slice a1 d.fWaits.length c1, .bool d.fGone]) :: rowA encS 1 9 (.slice a0 d.fCells.length c0) d.fCells :: rowA WaitD.cells 2 144 (.slice a1 d.fWaits.length c1) d.fWaits :: F) _) := ⟨HS.out⟩
          refine wl_y rfl HF rfl rfl (yl_fieldAddr (j := 1) rfl (HF.ev rfl) (by kernel_rfl)) ?_; clear HF; clear a; intro a HF
          refine wl_storeF rfl rfl rfl (HF.ev rfl) (HF.ev rfl) (by kernel_rfl) HS.out 3 rfl rfl rfl ?_; clear HS; intro w12 HS; replace HS := Bx.mk HS
          have HS : Bx (St w0 (rowA WaitD.cells 2 144 (.slice (some ⟨b7, 0, none⟩) 1 1) ([(⟨n, t⟩ : WaitD)]) :: rowA WaitD.cells 2 144 (.slice ao8 (d.fWaits.length + ([(⟨n, t⟩ : WaitD)]).length) cp9) (d.fWaits ++ ([(⟨n, t⟩ : WaitD)])) :: boxA b2 3 44 (.agg #[.slice none 0 0, .slice none 0 0, .bool false]) :: boxA b1 3 44 (.agg #[.slice a0 d.fCells.length c0, .slice ao8 (d.fWaits.length + ([(⟨n, t⟩ : WaitD)]).length) cp9, .bool d.fGone]) :: rowA encS 1 9 (.slice a0 d.fCells.length c0) d.fCells :: rowA WaitD.cells 2 144 (.slice a1 d.fWaits.length c1) d.fWaits :: F) _) := HS
          refine wpList_nil ?_
          refine ex_then ?_
          refine wp_seq ?_
          refine wp_region_lit ?_
          refine wl_y rfl HF rfl rfl (yl_loadR (cs := [.slice a0 d.fCells.length c0, .slice ao8 (d.fWaits.length + ([(⟨n, t⟩ : WaitD)]).length) cp9, .bool d.fGone]) rfl (HF.ev rfl) ((HS.out.box 3 rfl).sub 0 3) (by kernel_rfl)) ?_; clear HF; clear a; intro a HF
          refine wl_storeBox rfl HF rfl rfl (HF.ev rfl) (HF.ev rfl) HS.out 2 rfl (cells_lit [.slice a0 d.fCells.length c0, .slice ao8 (d.fWaits.length + ([(⟨n, t⟩ : WaitD)]).length) cp9, .bool d.fGone] rfl rfl) (by kernel_rfl) ?_; clear HS; intro w13 HS; replace HS := Bx.mk HS
          have HS : Bx (St w0 (rowA WaitD.cells 2 144 (.slice (some ⟨b7, 0, none⟩) 1 1) ([(⟨n, t⟩ : WaitD)]) :: rowA WaitD.cells 2 144 (.slice ao8 (d.fWaits.length + ([(⟨n, t⟩ : WaitD)]).length) cp9) (d.fWaits ++ ([(⟨n, t⟩ : WaitD)])) :: boxA b2 3 44 (.agg #[.slice a0 d.fCells.length c0, .slice ao8 (d.fWaits.length + ([(⟨n, t⟩ : WaitD)]).length) cp9, .bool d.fGone]) :: boxA b1 3 44 (.agg #[.slice a0 d.fCells.length c0, .slice ao8 (d.fWaits.length + ([(⟨n, t⟩ : WaitD)]).length) cp9, .bool d.fGone]) :: rowA encS 1 9 (.slice a0 d.fCells.length c0) d.fCells :: rowA WaitD.cells 2 144 (.slice a1 d.fWaits.length c1) d.fWaits :: F) _) := HS
          refine wl_y rfl HF rfl rfl (yl_assign rfl (HF.ev rfl)) ?_; clear HF; clear a; intro a HF
          refine wpList_nil ?_
          refine ex_then ?_
          refine wp_ret ?_
          refine bp_ret2 HF Try.results123 (HF.resBox rfl (HS.out.box 2 rfl) (by kernel_rfl)) (HF.res rfl) ?_
          replace HS : Bx (St w0 (rowA encS 1 9 (.slice a0 d.fCells.length c0) d.fCells :: rowA WaitD.cells 2 144 (.slice ao8 (d.fWaits.length + ([(⟨n, t⟩ : WaitD)]).length) cp9) (d.fWaits ++ ([(⟨n, t⟩ : WaitD)])) :: rowA WaitD.cells 2 144 (.slice (some ⟨b7, 0, none⟩) 1 1) ([(⟨n, t⟩ : WaitD)]) :: boxA b2 3 44 (.agg #[.slice a0 d.fCells.length c0, .slice ao8 (d.fWaits.length + ([(⟨n, t⟩ : WaitD)]).length) cp9, .bool d.fGone]) :: boxA b1 3 44 (.agg #[.slice a0 d.fCells.length c0, .slice ao8 (d.fWaits.length + ([(⟨n, t⟩ : WaitD)]).length) cp9, .bool d.fGone]) :: rowA WaitD.cells 2 144 (.slice a1 d.fWaits.length c1) d.fWaits :: F) _) := ⟨((HS.out).pick 1 rfl).pick 4 rfl⟩
          have hz : d.fWaits.length + [(⟨n, t⟩ : WaitD)].length = (d.fWaits ++ [(⟨n, t⟩ : WaitD)]).length := (List.length_append ..).symm
          have HT := ((((HS.out.erase 5).erase 4).erase 3).erase 2)
          rw [hz] at HT ⊢
          exact .inr ⟨by unfold DiskD.can; rw [q1, q2, q3, q4]; rfl, _, _, rfl, HT⟩

end Go.Proofs.Ytfijfjjleelphaa
