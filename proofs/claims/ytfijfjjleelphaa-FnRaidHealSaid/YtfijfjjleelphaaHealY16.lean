/- A part of the proof in YtfijfjjleelphaaHealY17. -/
import Derived.ArgAppend
import Derived.BigQuiet
import Derived.BigRegion
import Derived.Deep.AppendLies
import Derived.Deep.MidRow
import Derived.Deep.Quiet
import Derived.Deep.QuietTactic
import Derived.Deep.RegionHeld3
import Derived.Deep.RegionWith
import Derived.IntWalk
import Derived.Laws.BytesArg
import Derived.Lib.Hide
import Derived.Lib.LazyBuf
import Derived.Lib.SlBytesConst
import Derived.LoopIn
import Derived.LoopN
import Derived.LoopNIn
import Derived.Orders
import Derived.OrdersHeld
import Derived.OwnWalkIn
import Derived.RangeFuncLeaves
import Derived.RangeFuncNested
import Derived.Shelf.Abstract
import Derived.Still
import Derived.StillTail
import Derived.StillTailTactics
import Derived.TacticsInMore
import Derived.Test.YtfijfjjleelphaaRows
import Derived.WalkKit
import Derived.WalkLawsBesides
import Derived.WalkSpells
import Derived.Test.YtfijfjjleelphaaHealY15
/- Drawing pointers; the draws of the laws over sets of disks. -/
namespace Go.Proofs.Ytfijfjjleelphaa
set_option maxHeartbeats 1000000
set_option maxRecDepth 100000
open Go.RowKit

theorem l91Ptr_any (w0 w : World) (rb : Nat) (ab : Option Addr) (n cb : Nat) (bs : List UInt8) (hn : n ≤ 2000) (hR : Rd encB 1 w0 ab n bs) (B : Nat) (hB : B ≤ 800000) (F : List Asr) (hS : St w0 (rdA rb ab n cb B :: F) w) : Calls Try.prog 150 #[.pointer (some ⟨rb, 0, none⟩)] w fun e w' => ∃ p : PtrD, e = .returned (.agg #[.int .i64 p.fAt, .int .i64 p.fBirth, .int .i64 p.fSize, .int .i64 p.fSum, .int .i64 p.fLevel]) ∧ St w0 (rdA rb ab n cb (B + 100) :: F) w' := by
 have HS := Bx.mk hS; clear hS
 refine wc_enter Try.func150 rfl Try.ntmps150 [(0, .pointer (some ⟨rb, 0, none⟩))] ⟨rfl, trivial⟩ rfl ?_; intro a HF
 refine wp_sr ?_
 refine wl_alloc rfl HF rfl rfl rfl (Z := [.int .i64 0, .int .i64 0, .int .i64 0, .int .i64 0, .int .i64 0]) (by kernel_rfl) rfl HS.out ?_; clear HF HS a; intro a w1 b1 HF HS; replace HS := Bx.mk HS
 refine wl_ne ?_
 refine wp_seq ?_
 refine wp_sr ?_
 refine wl_mv HF rfl rfl rfl rfl rfl ?_; clear HF a; intro a HF
 replace HS : Bx (St w0 (rdA rb ab n cb B :: boxA b1 5 33 (.agg #[.int .i64 0, .int .i64 0, .int .i64 0, .int .i64 0, .int .i64 0]) :: F) _) := ⟨(HS.out).pick 1 rfl⟩
 refine wl_call rfl HF rfl (enter_of Try.func110 (by kernel_rfl) rfl) (args := #[.pointer (some ⟨rb, 0, none⟩), .int .i64 5]) rfl (pickN w0 _ rb ab n cb bs hn hR B (by omega) 5 (by omega) _ HS.out) rfl rfl ?_
 rintro _ w2 ⟨dn2, rfl, hu2, hs1⟩
 refine ⟨_, rfl, ?_⟩; replace HS := Bx.mk hs1; clear hs1 HF; clear a; intro a HF
 replace HS : Bx (St w0 (rdA rb ab n cb (B + 1) :: boxA b1 5 33 (.agg #[.int .i64 0, .int .i64 0, .int .i64 0, .int .i64 0, .int .i64 0]) :: F) _) := ⟨HS.out⟩
 refine wl_y rfl HF rfl rfl (yl_eqlI rfl (HF.ev rfl) (HF.ev rfl)) ?_; clear HF a; intro a HF
 refine wl_ne ?_
 refine HF.cases 7 rfl (fun cc1 HF1 => ?_) (fun cc1 HF1 => ?_)
 ·clear HF; have HF := HF1; clear HF1
  have dcc1 := eq_of_beq cc1
  refine wc_true HF rfl ?_
  refine wp_sr ?_
  refine wl_y rfl HF rfl rfl (yl_build HF rfl (ps := []) rfl (cs := #[.int .i64 0, .int .i64 0, .int .i64 0, .int .i64 0, .int .i64 0]) (by kernel_rfl)) ?_; clear HF a; intro a HF
  refine wl_storeBox rfl HF rfl rfl (HF.ev rfl) (HF.ev rfl) HS.out 1 rfl (cells_lit [.int .i64 0, .int .i64 0, .int .i64 0, .int .i64 0, .int .i64 0] rfl rfl) (by kernel_rfl) ?_; clear HS; intro w3 HS; replace HS := Bx.mk HS
  have HS : Bx (St w0 (rdA rb ab n cb (B + 1) :: boxA b1 5 33 (.agg #[.int .i64 0, .int .i64 0, .int .i64 0, .int .i64 0, .int .i64 0]) :: F) _) := HS
  refine wl_ne ?_
  refine wp_ret ?_
  refine ex_then_ret ?_
  refine bp_ret1 HF Try.results150 (HF.resBox rfl (HS.out.box 1 rfl) (by kernel_rfl)) ?_
  replace HS : Bx (St w0 (rdA rb ab n cb (B + 1) :: boxA b1 5 33 (.agg #[.int .i64 0, .int .i64 0, .int .i64 0, .int .i64 0, .int .i64 0]) :: F) _) := ⟨(HS.out).pick 0 rfl⟩
  replace HS : Bx (St w0 (rdA rb ab n cb (B + 100) :: boxA b1 5 33 (.agg #[.int .i64 0, .int .i64 0, .int .i64 0, .int .i64 0, .int .i64 0]) :: F) _) := ⟨HS.out.rdLe (by omega)⟩
  exact ⟨⟨0, 0, 0, 0, 0⟩, rfl, (HS.out.erase 1)⟩
 ·clear HF; have HF := HF1; clear HF1
  have dcc1 := ne_of_beq_false cc1
  refine wc_false HF rfl ?_
  refine wp_skip ?_
  refine ex_then ?_
  refine wp_seq ?_
  have hs116 : (⟨#[116]⟩ : ByteArray).size = 1 := rfl
  refine wp_region_lit ?_
  refine wl_mv HF rfl rfl rfl rfl rfl ?_; clear HF a; intro a HF
  replace HS : Bx (St w0 (rdA rb ab n cb (B + 1) :: boxA b1 5 33 (.agg #[.int .i64 0, .int .i64 0, .int .i64 0, .int .i64 0, .int .i64 0]) :: F) _) := ⟨(HS.out).pick 0 rfl⟩
  refine wl_call rfl HF rfl (enter_of Try.func110 (by kernel_rfl) rfl) (args := #[.pointer (some ⟨rb, 0, none⟩), .int .i64 12]) rfl (pickN w0 _ rb ab n cb bs hn hR (B + 1) (by omega) 12 (by omega) _ HS.out) rfl rfl ?_
  rintro _ w4 ⟨dn3, rfl, hu3, hs1⟩
  refine ⟨_, rfl, ?_⟩; replace HS := Bx.mk hs1; clear hs1 HF; clear a; intro a HF
  replace HS : Bx (St w0 (rdA rb ab n cb (B + 1 + 1) :: boxA b1 5 33 (.agg #[.int .i64 0, .int .i64 0, .int .i64 0, .int .i64 0, .int .i64 0]) :: F) _) := ⟨HS.out⟩
  refine wl_y rfl HF rfl rfl (yl_addI rfl (HF.ev rfl) (HF.ev rfl) (i64w (by omega))) ?_; clear HF a; intro a HF
  refine wl_mv HF rfl rfl rfl rfl rfl ?_; clear HF a; intro a HF
  replace HS : Bx (St w0 (rdA rb ab n cb (B + 1 + 1) :: boxA b1 5 33 (.agg #[.int .i64 0, .int .i64 0, .int .i64 0, .int .i64 0, .int .i64 0]) :: F) _) := ⟨(HS.out).pick 0 rfl⟩
  refine wl_call rfl HF rfl (enter_of Try.func110 (by kernel_rfl) rfl) (args := #[.pointer (some ⟨rb, 0, none⟩), .int .i64 9]) rfl (pickN w0 _ rb ab n cb bs hn hR (B + 1 + 1) (by omega) 9 (by omega) _ HS.out) rfl rfl ?_
  rintro _ w5 ⟨dn4, rfl, hu4, hs1⟩
  refine ⟨_, rfl, ?_⟩; replace HS := Bx.mk hs1; clear hs1 HF; clear a; intro a HF
  replace HS : Bx (St w0 (rdA rb ab n cb (B + 1 + 1 + 1) :: boxA b1 5 33 (.agg #[.int .i64 0, .int .i64 0, .int .i64 0, .int .i64 0, .int .i64 0]) :: F) _) := ⟨HS.out⟩
  refine wl_y rfl HF rfl rfl (yl_addI rfl (HF.ev rfl) (HF.ev rfl) (i64w (by omega))) ?_; clear HF a; intro a HF
  refine wl_mv HF rfl rfl rfl rfl rfl ?_; clear HF a; intro a HF
  replace HS : Bx (St w0 (rdA rb ab n cb (B + 1 + 1 + 1) :: boxA b1 5 33 (.agg #[.int .i64 0, .int .i64 0, .int .i64 0, .int .i64 0, .int .i64 0]) :: F) _) := ⟨(HS.out).pick 0 rfl⟩
  refine wl_call rfl HF rfl (enter_of Try.func110 (by kernel_rfl) rfl) (args := #[.pointer (some ⟨rb, 0, none⟩), .int .i64 3]) rfl (pickN w0 _ rb ab n cb bs hn hR (B + 1 + 1 + 1) (by omega) 3 (by omega) _ HS.out) rfl rfl ?_
  rintro _ w6 ⟨dn5, rfl, hu5, hs1⟩
  refine ⟨_, rfl, ?_⟩; replace HS := Bx.mk hs1; clear hs1 HF; clear a; intro a HF
  replace HS : Bx (St w0 (rdA rb ab n cb (B + 1 + 1 + 1 + 1) :: boxA b1 5 33 (.agg #[.int .i64 0, .int .i64 0, .int .i64 0, .int .i64 0, .int .i64 0]) :: F) _) := ⟨HS.out⟩
  refine wl_mv HF rfl rfl rfl rfl rfl ?_; clear HF a; intro a HF
  replace HS : Bx (St w0 (rdA rb ab n cb (B + 1 + 1 + 1 + 1) :: boxA b1 5 33 (.agg #[.int .i64 0, .int .i64 0, .int .i64 0, .int .i64 0, .int .i64 0]) :: F) _) := ⟨(HS.out).pick 0 rfl⟩
  refine wl_call rfl HF rfl (enter_of Try.func111 (by kernel_rfl) rfl) (args := #[.pointer (some ⟨rb, 0, none⟩), .int .i64 9]) rfl (l91Text_any w0 _ rb ab n cb bs hn hR (B + 1 + 1 + 1 + 1) (by omega) 9 (by omega) _ HS.out) rfl rfl ?_
  rintro _ w7 ⟨dt6, rfl, ht6, hs1⟩
  refine ⟨_, rfl, ?_⟩; replace HS := Bx.mk hs1; clear hs1 HF; clear a; intro a HF
  replace HS : Bx (St w0 (rdA rb ab n cb (B + 1 + 1 + 1 + 1 + (2 + 2 * 9)) :: boxA b1 5 33 (.agg #[.int .i64 0, .int .i64 0, .int .i64 0, .int .i64 0, .int .i64 0]) :: F) _) := ⟨HS.out⟩
  refine wl_y rfl HF rfl rfl (yl_addS rfl (HF.ev rfl) (HF.ev rfl) (by omega)) ?_; clear HF a; intro a HF
  have hsz : ((⟨#[116]⟩ : ByteArray) ++ dt6).size ≤ 1000000 := by rw [ByteArray.size_append]; show 1 + _ ≤ _; omega
  refine wl_call rfl HF rfl (enter_of Try.func112 (by kernel_rfl) rfl) (args := #[.int .i64 ((8 : Int) + (dn3 : Int)), .int .i64 ((1 : Int) + (dn4 : Int)), .int .i64 (dn5 : Int), .string ((⟨#[116]⟩ : ByteArray) ++ dt6)]) rfl (ptrOfS_any ((8 : Int) + (dn3 : Int)) ((1 : Int) + (dn4 : Int)) (dn5 : Int) ((⟨#[116]⟩ : ByteArray) ++ dt6) _ (by omega)) rfl rfl ?_
  rintro _ w8 ⟨rfl, hb⟩
  refine ⟨_, rfl, ?_⟩; replace HS := Bx.mk (HS.out.later hb); clear hb HF; clear a; intro a HF
  obtain ⟨pp, hpp⟩ : ∃ p : PtrD, p = ptrOf ((8 : Int) + (dn3 : Int)) ((1 : Int) + (dn4 : Int)) (dn5 : Int) ((⟨#[116]⟩ : ByteArray) ++ dt6) := ⟨_, rfl⟩; rw [← hpp] at HF; obtain ⟨pb, hpb⟩ : ∃ b : Bool, b = ptrOk ((8 : Int) + (dn3 : Int)) ((1 : Int) + (dn4 : Int)) (dn5 : Int) ((⟨#[116]⟩ : ByteArray) ++ dt6) := ⟨_, rfl⟩; rw [← hpb] at HF; clear hpp hpb
  refine wl_mv HF rfl rfl rfl rfl rfl ?_; clear HF a; intro a HF
  refine wl_y rfl HF rfl rfl (yl_extract rfl (HF.ev rfl) rfl) ?_; clear HF a; intro a HF
  refine wl_y rfl HF rfl rfl (yl_extract rfl (HF.ev rfl) rfl) ?_; clear HF a; intro a HF
  refine wl_alloc rfl HF rfl rfl rfl (Z := [.int .i64 0, .int .i64 0, .int .i64 0, .int .i64 0, .int .i64 0]) (by kernel_rfl) rfl HS.out ?_; clear HF HS a; intro a w9 b7 HF HS; replace HS := Bx.mk HS
  refine wl_storeBox rfl HF rfl rfl (HF.ev rfl) (HF.ev rfl) HS.out 0 rfl (cells_lit [.int .i64 pp.fAt, .int .i64 pp.fBirth, .int .i64 pp.fSize, .int .i64 pp.fSum, .int .i64 pp.fLevel] rfl rfl) (by kernel_rfl) ?_; clear HS; intro w10 HS; replace HS := Bx.mk HS
  have HS : Bx (St w0 (boxA b7 5 33 (.agg #[.int .i64 pp.fAt, .int .i64 pp.fBirth, .int .i64 pp.fSize, .int .i64 pp.fSum, .int .i64 pp.fLevel]) :: rdA rb ab n cb (B + 1 + 1 + 1 + 1 + (2 + 2 * 9)) :: boxA b1 5 33 (.agg #[.int .i64 0, .int .i64 0, .int .i64 0, .int .i64 0, .int .i64 0]) :: F) _) := HS
  refine wl_as HF rfl rfl rfl rfl rfl ?_; clear HF a; intro a HF
  refine wl_ne ?_
  refine wp_seq ?_
  refine wp_sr ?_
  refine wl_mv HF rfl rfl rfl rfl rfl ?_; clear HF a; intro a HF
  replace HS : Bx (St w0 (rdA rb ab n cb (B + 1 + 1 + 1 + 1 + (2 + 2 * 9)) :: boxA b7 5 33 (.agg #[.int .i64 pp.fAt, .int .i64 pp.fBirth, .int .i64 pp.fSize, .int .i64 pp.fSum, .int .i64 pp.fLevel]) :: boxA b1 5 33 (.agg #[.int .i64 0, .int .i64 0, .int .i64 0, .int .i64 0, .int .i64 0]) :: F) _) := ⟨(HS.out).pick 1 rfl⟩
  refine wl_call rfl HF rfl (enter_of Try.func110 (by kernel_rfl) rfl) (args := #[.pointer (some ⟨rb, 0, none⟩), .int .i64 24]) rfl (pickN w0 _ rb ab n cb bs hn hR (B + 1 + 1 + 1 + 1 + (2 + 2 * 9)) (by omega) 24 (by omega) _ HS.out) rfl rfl ?_
  rintro _ w11 ⟨dn8, rfl, hu8, hs1⟩
  refine ⟨_, rfl, ?_⟩; replace HS := Bx.mk hs1; clear hs1 HF; clear a; intro a HF
  replace HS : Bx (St w0 (rdA rb ab n cb (B + 1 + 1 + 1 + 1 + (2 + 2 * 9) + 1) :: boxA b7 5 33 (.agg #[.int .i64 pp.fAt, .int .i64 pp.fBirth, .int .i64 pp.fSize, .int .i64 pp.fSum, .int .i64 pp.fLevel]) :: boxA b1 5 33 (.agg #[.int .i64 0, .int .i64 0, .int .i64 0, .int .i64 0, .int .i64 0]) :: F) _) := ⟨HS.out⟩
  refine wl_ne ?_
  refine wp_block ?_
  refine wp_sr ?_
  refine wl_y rfl HF rfl rfl (yl_eqlI rfl (HF.ev rfl) (HF.ev rfl)) ?_; clear HF a; intro a HF
  refine wl_as HF rfl rfl rfl rfl rfl ?_; clear HF a; intro a HF
  refine wl_ne ?_
  refine HF.cases 26 rfl (fun cc2 HF1 => ?_) (fun cc2 HF1 => ?_)
  ·clear HF; have HF := HF1; clear HF1
   have dcc2 := eq_of_beq cc2
   refine wc_true HF rfl ?_
   refine wp_region_lit ?_
   refine wl_mv HF rfl rfl rfl rfl rfl ?_; clear HF a; intro a HF
   replace HS : Bx (St w0 (rdA rb ab n cb (B + 1 + 1 + 1 + 1 + (2 + 2 * 9) + 1) :: boxA b7 5 33 (.agg #[.int .i64 pp.fAt, .int .i64 pp.fBirth, .int .i64 pp.fSize, .int .i64 pp.fSum, .int .i64 pp.fLevel]) :: boxA b1 5 33 (.agg #[.int .i64 0, .int .i64 0, .int .i64 0, .int .i64 0, .int .i64 0]) :: F) _) := ⟨(HS.out).pick 0 rfl⟩
   refine wl_call rfl HF rfl (enter_of Try.func42 (by kernel_rfl) rfl) (args := #[.pointer (some ⟨rb, 0, none⟩)]) rfl (l91Row_any w0 _ rb ab n cb bs hn hR (B + 1 + 1 + 1 + 1 + (2 + 2 * 9) + 1) (by omega) _ HS.out) rfl rfl ?_
   rintro _ w12 ⟨di9, rfl, hu9a, hu9b, hs1⟩
   refine ⟨_, rfl, ?_⟩; replace HS := Bx.mk hs1; clear hs1 HF; clear a; intro a HF
   replace HS : Bx (St w0 (rdA rb ab n cb (B + 1 + 1 + 1 + 1 + (2 + 2 * 9) + 1 + 2) :: boxA b7 5 33 (.agg #[.int .i64 pp.fAt, .int .i64 pp.fBirth, .int .i64 pp.fSize, .int .i64 pp.fSum, .int .i64 pp.fLevel]) :: boxA b1 5 33 (.agg #[.int .i64 0, .int .i64 0, .int .i64 0, .int .i64 0, .int .i64 0]) :: F) _) := ⟨HS.out⟩
   refine wl_y rfl HF rfl rfl (yl_fieldAddr (j := 0) rfl (HF.ev rfl) (by kernel_rfl)) ?_; clear HF a; intro a HF
   refine wl_storeF rfl rfl rfl (HF.ev rfl) (HF.ev rfl) (by kernel_rfl) HS.out 1 rfl rfl rfl ?_; clear HS; intro w13 HS; replace HS := Bx.mk HS
   have HS : Bx (St w0 (rdA rb ab n cb (B + 1 + 1 + 1 + 1 + (2 + 2 * 9) + 1 + 2) :: boxA b7 5 33 (.agg #[.int .i64 di9, .int .i64 pp.fBirth, .int .i64 pp.fSize, .int .i64 pp.fSum, .int .i64 pp.fLevel]) :: boxA b1 5 33 (.agg #[.int .i64 0, .int .i64 0, .int .i64 0, .int .i64 0, .int .i64 0]) :: F) _) := HS
   refine wpList_nil ?_
   refine ex_block ?_
   refine ex_then ?_
   refine wp_sr ?_
   refine wl_y rfl HF rfl rfl (yl_loadR (cs := [.int .i64 di9, .int .i64 pp.fBirth, .int .i64 pp.fSize, .int .i64 pp.fSum, .int .i64 pp.fLevel]) rfl (HF.ev rfl) ((HS.out.box 1 rfl).sub 0 5) (by kernel_rfl)) ?_; clear HF a; intro a HF
   refine wl_storeBox rfl HF rfl rfl (HF.ev rfl) (HF.ev rfl) HS.out 2 rfl (cells_lit [.int .i64 di9, .int .i64 pp.fBirth, .int .i64 pp.fSize, .int .i64 pp.fSum, .int .i64 pp.fLevel] rfl rfl) (by kernel_rfl) ?_; clear HS; intro w14 HS; replace HS := Bx.mk HS
   have HS : Bx (St w0 (rdA rb ab n cb (B + 1 + 1 + 1 + 1 + (2 + 2 * 9) + 1 + 2) :: boxA b7 5 33 (.agg #[.int .i64 di9, .int .i64 pp.fBirth, .int .i64 pp.fSize, .int .i64 pp.fSum, .int .i64 pp.fLevel]) :: boxA b1 5 33 (.agg #[.int .i64 di9, .int .i64 pp.fBirth, .int .i64 pp.fSize, .int .i64 pp.fSum, .int .i64 pp.fLevel]) :: F) _) := HS
   refine wl_ne ?_
   refine wp_ret ?_
   refine bp_ret1 HF Try.results150 (HF.resBox rfl (HS.out.box 2 rfl) (by kernel_rfl)) ?_
   replace HS : Bx (St w0 (rdA rb ab n cb (B + 1 + 1 + 1 + 1 + (2 + 2 * 9) + 1 + 2) :: boxA b7 5 33 (.agg #[.int .i64 di9, .int .i64 pp.fBirth, .int .i64 pp.fSize, .int .i64 pp.fSum, .int .i64 pp.fLevel]) :: boxA b1 5 33 (.agg #[.int .i64 di9, .int .i64 pp.fBirth, .int .i64 pp.fSize, .int .i64 pp.fSum, .int .i64 pp.fLevel]) :: F) _) := ⟨(HS.out).pick 0 rfl⟩
   replace HS : Bx (St w0 (rdA rb ab n cb (B + 100) :: boxA b7 5 33 (.agg #[.int .i64 di9, .int .i64 pp.fBirth, .int .i64 pp.fSize, .int .i64 pp.fSum, .int .i64 pp.fLevel]) :: boxA b1 5 33 (.agg #[.int .i64 di9, .int .i64 pp.fBirth, .int .i64 pp.fSize, .int .i64 pp.fSum, .int .i64 pp.fLevel]) :: F) _) := ⟨HS.out.rdLe (by omega)⟩
   exact ⟨⟨di9, pp.fBirth, pp.fSize, pp.fSum, pp.fLevel⟩, rfl, ((HS.out.erase 2).erase 1)⟩
  ·clear HF; have HF := HF1; clear HF1
   have dcc2 := ne_of_beq_false cc2
   refine wc_false HF rfl ?_
   refine wp_sr ?_
   refine wl_y rfl HF rfl rfl (yl_eqlI rfl (HF.ev rfl) (HF.ev rfl)) ?_; clear HF a; intro a HF
   refine wl_as HF rfl rfl rfl rfl rfl ?_; clear HF a; intro a HF
   refine wl_ne ?_
   refine HF.cases 31 rfl (fun cc3 HF1 => ?_) (fun cc3 HF1 => ?_)
   ·clear HF; have HF := HF1; clear HF1
    have dcc3 := eq_of_beq cc3
    refine wc_true HF rfl ?_
    have hle : [(0 : Int), (-1 : Int), (900 : Int), (901 : Int)].length = 4 := rfl
    refine wp_region_lit ?_
    refine wl_buildS (enc := encI) (e := 3) (size := 1) rfl HF rfl rfl rfl (ps := [(0, .int .i64 0), (1, .int .i64 (-1)), (2, .int .i64 900), (3, .int .i64 901)]) rfl (cells := [.int .i64 0, .int .i64 (-1), .int .i64 900, .int .i64 901]) (by kernel_rfl) [(0 : Int), (-1 : Int), (900 : Int), (901 : Int)] rfl rfl (by unfold maxLen; omega) rfl HS.out ?_; clear HF HS a; intro b10 a w15 HF HS; replace HS := Bx.mk HS
    refine wl_mv HF rfl rfl rfl rfl rfl ?_; clear HF a; intro a HF
    replace HS : Bx (St w0 (rdA rb ab n cb (B + 1 + 1 + 1 + 1 + (2 + 2 * 9) + 1) :: rowA encI 1 3 (.slice (some ⟨b10, 0, none⟩) 4 4) ([(0 : Int), (-1 : Int), (900 : Int), (901 : Int)]) :: boxA b7 5 33 (.agg #[.int .i64 pp.fAt, .int .i64 pp.fBirth, .int .i64 pp.fSize, .int .i64 pp.fSum, .int .i64 pp.fLevel]) :: boxA b1 5 33 (.agg #[.int .i64 0, .int .i64 0, .int .i64 0, .int .i64 0, .int .i64 0]) :: F) _) := ⟨(HS.out).pick 1 rfl⟩
    refine wl_call rfl HF rfl (enter_of Try.func110 (by kernel_rfl) rfl) (args := #[.pointer (some ⟨rb, 0, none⟩), .int .i64 4]) rfl (pickN w0 _ rb ab n cb bs hn hR (B + 1 + 1 + 1 + 1 + (2 + 2 * 9) + 1) (by omega) 4 (by omega) _ HS.out) rfl rfl ?_
    rintro _ w16 ⟨dn11, rfl, hu11, hs1⟩
    refine ⟨_, rfl, ?_⟩; replace HS := Bx.mk hs1; clear hs1 HF; clear a; intro a HF
    replace HS : Bx (St w0 (rdA rb ab n cb (B + 1 + 1 + 1 + 1 + (2 + 2 * 9) + 1 + 1) :: rowA encI 1 3 (.slice (some ⟨b10, 0, none⟩) 4 4) ([(0 : Int), (-1 : Int), (900 : Int), (901 : Int)]) :: boxA b7 5 33 (.agg #[.int .i64 pp.fAt, .int .i64 pp.fBirth, .int .i64 pp.fSize, .int .i64 pp.fSum, .int .i64 pp.fLevel]) :: boxA b1 5 33 (.agg #[.int .i64 0, .int .i64 0, .int .i64 0, .int .i64 0, .int .i64 0]) :: F) _) := ⟨HS.out⟩
    refine wl_y rfl HF rfl rfl (yl_indexAddr (e := 3) (i := dn11) (size := 1) rfl (HF.ev rfl) (HF.ev rfl) (by kernel_rfl) rfl (by omega)) ?_; clear HF a; intro a HF
    refine wl_y rfl HF rfl rfl (yl_load (v := .int .i64 (([(0 : Int), (-1 : Int), (900 : Int), (901 : Int)]).getD dn11 0)) rfl (HF.ev rfl) (HS.out.elem1 encI_len 1 rfl (get_getD (xs := [(0 : Int), (-1 : Int), (900 : Int), (901 : Int)]) (j := dn11) (d := 0) (by omega)) rfl) (by kernel_rfl)) ?_; clear HF a; intro a HF
    refine wl_y rfl HF rfl rfl (yl_fieldAddr (j := 1) rfl (HF.ev rfl) (by kernel_rfl)) ?_; clear HF a; intro a HF
    refine wl_storeF rfl rfl rfl (HF.ev rfl) (HF.ev rfl) (by kernel_rfl) HS.out 2 rfl rfl rfl ?_; clear HS; intro w17 HS; replace HS := Bx.mk HS
    have HS : Bx (St w0 (rdA rb ab n cb (B + 1 + 1 + 1 + 1 + (2 + 2 * 9) + 1 + 1) :: rowA encI 1 3 (.slice (some ⟨b10, 0, none⟩) 4 4) ([(0 : Int), (-1 : Int), (900 : Int), (901 : Int)]) :: boxA b7 5 33 (.agg #[.int .i64 pp.fAt, .int .i64 (([(0 : Int), (-1 : Int), (900 : Int), (901 : Int)]).getD dn11 0), .int .i64 pp.fSize, .int .i64 pp.fSum, .int .i64 pp.fLevel]) :: boxA b1 5 33 (.agg #[.int .i64 0, .int .i64 0, .int .i64 0, .int .i64 0, .int .i64 0]) :: F) _) := HS
    refine wpList_nil ?_
    refine ex_block ?_
    refine ex_then ?_
    refine wp_sr ?_
    refine wl_y rfl HF rfl rfl (yl_loadR (cs := [.int .i64 pp.fAt, .int .i64 (([(0 : Int), (-1 : Int), (900 : Int), (901 : Int)]).getD dn11 0), .int .i64 pp.fSize, .int .i64 pp.fSum, .int .i64 pp.fLevel]) rfl (HF.ev rfl) ((HS.out.box 2 rfl).sub 0 5) (by kernel_rfl)) ?_; clear HF a; intro a HF
    refine wl_storeBox rfl HF rfl rfl (HF.ev rfl) (HF.ev rfl) HS.out 3 rfl (cells_lit [.int .i64 pp.fAt, .int .i64 (([(0 : Int), (-1 : Int), (900 : Int), (901 : Int)]).getD dn11 0), .int .i64 pp.fSize, .int .i64 pp.fSum, .int .i64 pp.fLevel] rfl rfl) (by kernel_rfl) ?_; clear HS; intro w18 HS; replace HS := Bx.mk HS
    have HS : Bx (St w0 (rdA rb ab n cb (B + 1 + 1 + 1 + 1 + (2 + 2 * 9) + 1 + 1) :: rowA encI 1 3 (.slice (some ⟨b10, 0, none⟩) 4 4) ([(0 : Int), (-1 : Int), (900 : Int), (901 : Int)]) :: boxA b7 5 33 (.agg #[.int .i64 pp.fAt, .int .i64 (([(0 : Int), (-1 : Int), (900 : Int), (901 : Int)]).getD dn11 0), .int .i64 pp.fSize, .int .i64 pp.fSum, .int .i64 pp.fLevel]) :: boxA b1 5 33 (.agg #[.int .i64 pp.fAt, .int .i64 (([(0 : Int), (-1 : Int), (900 : Int), (901 : Int)]).getD dn11 0), .int .i64 pp.fSize, .int .i64 pp.fSum, .int .i64 pp.fLevel]) :: F) _) := HS
    refine wl_ne ?_
    refine wp_ret ?_
    refine bp_ret1 HF Try.results150 (HF.resBox rfl (HS.out.box 3 rfl) (by kernel_rfl)) ?_
    replace HS : Bx (St w0 (rdA rb ab n cb (B + 1 + 1 + 1 + 1 + (2 + 2 * 9) + 1 + 1) :: rowA encI 1 3 (.slice (some ⟨b10, 0, none⟩) 4 4) ([(0 : Int), (-1 : Int), (900 : Int), (901 : Int)]) :: boxA b7 5 33 (.agg #[.int .i64 pp.fAt, .int .i64 (([(0 : Int), (-1 : Int), (900 : Int), (901 : Int)]).getD dn11 0), .int .i64 pp.fSize, .int .i64 pp.fSum, .int .i64 pp.fLevel]) :: boxA b1 5 33 (.agg #[.int .i64 pp.fAt, .int .i64 (([(0 : Int), (-1 : Int), (900 : Int), (901 : Int)]).getD dn11 0), .int .i64 pp.fSize, .int .i64 pp.fSum, .int .i64 pp.fLevel]) :: F) _) := ⟨(HS.out).pick 0 rfl⟩
    replace HS : Bx (St w0 (rdA rb ab n cb (B + 100) :: rowA encI 1 3 (.slice (some ⟨b10, 0, none⟩) 4 4) ([(0 : Int), (-1 : Int), (900 : Int), (901 : Int)]) :: boxA b7 5 33 (.agg #[.int .i64 pp.fAt, .int .i64 (([(0 : Int), (-1 : Int), (900 : Int), (901 : Int)]).getD dn11 0), .int .i64 pp.fSize, .int .i64 pp.fSum, .int .i64 pp.fLevel]) :: boxA b1 5 33 (.agg #[.int .i64 pp.fAt, .int .i64 (([(0 : Int), (-1 : Int), (900 : Int), (901 : Int)]).getD dn11 0), .int .i64 pp.fSize, .int .i64 pp.fSum, .int .i64 pp.fLevel]) :: F) _) := ⟨HS.out.rdLe (by omega)⟩
    exact ⟨⟨pp.fAt, (([(0 : Int), (-1 : Int), (900 : Int), (901 : Int)]).getD dn11 0), pp.fSize, pp.fSum, pp.fLevel⟩, rfl, (((HS.out.erase 3).erase 2).erase 1)⟩
   ·clear HF; have HF := HF1; clear HF1
    have dcc3 := ne_of_beq_false cc3
    refine wc_false HF rfl ?_
    refine wp_sr ?_
    refine wl_y rfl HF rfl rfl (yl_eqlI rfl (HF.ev rfl) (HF.ev rfl)) ?_; clear HF a; intro a HF
    refine wl_as HF rfl rfl rfl rfl rfl ?_; clear HF a; intro a HF
    refine wl_ne ?_
    refine HF.cases 39 rfl (fun cc4 HF1 => ?_) (fun cc4 HF1 => ?_)
    ·clear HF; have HF := HF1; clear HF1
     have dcc4 := eq_of_beq cc4
     refine wc_true HF rfl ?_
     have hle : [(0 : Int), (-1 : Int), (128 : Int), (129 : Int)].length = 4 := rfl
     refine wp_region_lit ?_
     refine wl_buildS (enc := encI) (e := 3) (size := 1) rfl HF rfl rfl rfl (ps := [(0, .int .i64 0), (1, .int .i64 (-1)), (2, .int .i64 128), (3, .int .i64 129)]) rfl (cells := [.int .i64 0, .int .i64 (-1), .int .i64 128, .int .i64 129]) (by kernel_rfl) [(0 : Int), (-1 : Int), (128 : Int), (129 : Int)] rfl rfl (by unfold maxLen; omega) rfl HS.out ?_; clear HF HS a; intro b12 a w19 HF HS; replace HS := Bx.mk HS
     refine wl_mv HF rfl rfl rfl rfl rfl ?_; clear HF a; intro a HF
     replace HS : Bx (St w0 (rdA rb ab n cb (B + 1 + 1 + 1 + 1 + (2 + 2 * 9) + 1) :: rowA encI 1 3 (.slice (some ⟨b12, 0, none⟩) 4 4) ([(0 : Int), (-1 : Int), (128 : Int), (129 : Int)]) :: boxA b7 5 33 (.agg #[.int .i64 pp.fAt, .int .i64 pp.fBirth, .int .i64 pp.fSize, .int .i64 pp.fSum, .int .i64 pp.fLevel]) :: boxA b1 5 33 (.agg #[.int .i64 0, .int .i64 0, .int .i64 0, .int .i64 0, .int .i64 0]) :: F) _) := ⟨(HS.out).pick 1 rfl⟩
     refine wl_call rfl HF rfl (enter_of Try.func110 (by kernel_rfl) rfl) (args := #[.pointer (some ⟨rb, 0, none⟩), .int .i64 4]) rfl (pickN w0 _ rb ab n cb bs hn hR (B + 1 + 1 + 1 + 1 + (2 + 2 * 9) + 1) (by omega) 4 (by omega) _ HS.out) rfl rfl ?_
     rintro _ w20 ⟨dn13, rfl, hu13, hs1⟩
     refine ⟨_, rfl, ?_⟩; replace HS := Bx.mk hs1; clear hs1 HF; clear a; intro a HF
     replace HS : Bx (St w0 (rdA rb ab n cb (B + 1 + 1 + 1 + 1 + (2 + 2 * 9) + 1 + 1) :: rowA encI 1 3 (.slice (some ⟨b12, 0, none⟩) 4 4) ([(0 : Int), (-1 : Int), (128 : Int), (129 : Int)]) :: boxA b7 5 33 (.agg #[.int .i64 pp.fAt, .int .i64 pp.fBirth, .int .i64 pp.fSize, .int .i64 pp.fSum, .int .i64 pp.fLevel]) :: boxA b1 5 33 (.agg #[.int .i64 0, .int .i64 0, .int .i64 0, .int .i64 0, .int .i64 0]) :: F) _) := ⟨HS.out⟩
     refine wl_y rfl HF rfl rfl (yl_indexAddr (e := 3) (i := dn13) (size := 1) rfl (HF.ev rfl) (HF.ev rfl) (by kernel_rfl) rfl (by omega)) ?_; clear HF a; intro a HF
     refine wl_y rfl HF rfl rfl (yl_load (v := .int .i64 (([(0 : Int), (-1 : Int), (128 : Int), (129 : Int)]).getD dn13 0)) rfl (HF.ev rfl) (HS.out.elem1 encI_len 1 rfl (get_getD (xs := [(0 : Int), (-1 : Int), (128 : Int), (129 : Int)]) (j := dn13) (d := 0) (by omega)) rfl) (by kernel_rfl)) ?_; clear HF a; intro a HF
     refine wl_y rfl HF rfl rfl (yl_fieldAddr (j := 2) rfl (HF.ev rfl) (by kernel_rfl)) ?_; clear HF a; intro a HF
     refine wl_storeF rfl rfl rfl (HF.ev rfl) (HF.ev rfl) (by kernel_rfl) HS.out 2 rfl rfl rfl ?_; clear HS; intro w21 HS; replace HS := Bx.mk HS
     have HS : Bx (St w0 (rdA rb ab n cb (B + 1 + 1 + 1 + 1 + (2 + 2 * 9) + 1 + 1) :: rowA encI 1 3 (.slice (some ⟨b12, 0, none⟩) 4 4) ([(0 : Int), (-1 : Int), (128 : Int), (129 : Int)]) :: boxA b7 5 33 (.agg #[.int .i64 pp.fAt, .int .i64 pp.fBirth, .int .i64 (([(0 : Int), (-1 : Int), (128 : Int), (129 : Int)]).getD dn13 0), .int .i64 pp.fSum, .int .i64 pp.fLevel]) :: boxA b1 5 33 (.agg #[.int .i64 0, .int .i64 0, .int .i64 0, .int .i64 0, .int .i64 0]) :: F) _) := HS
     refine wpList_nil ?_
     refine ex_block ?_
     refine ex_then ?_
     refine wp_sr ?_
     refine wl_y rfl HF rfl rfl (yl_loadR (cs := [.int .i64 pp.fAt, .int .i64 pp.fBirth, .int .i64 (([(0 : Int), (-1 : Int), (128 : Int), (129 : Int)]).getD dn13 0), .int .i64 pp.fSum, .int .i64 pp.fLevel]) rfl (HF.ev rfl) ((HS.out.box 2 rfl).sub 0 5) (by kernel_rfl)) ?_; clear HF a; intro a HF
     refine wl_storeBox rfl HF rfl rfl (HF.ev rfl) (HF.ev rfl) HS.out 3 rfl (cells_lit [.int .i64 pp.fAt, .int .i64 pp.fBirth, .int .i64 (([(0 : Int), (-1 : Int), (128 : Int), (129 : Int)]).getD dn13 0), .int .i64 pp.fSum, .int .i64 pp.fLevel] rfl rfl) (by kernel_rfl) ?_; clear HS; intro w22 HS; replace HS := Bx.mk HS
     have HS : Bx (St w0 (rdA rb ab n cb (B + 1 + 1 + 1 + 1 + (2 + 2 * 9) + 1 + 1) :: rowA encI 1 3 (.slice (some ⟨b12, 0, none⟩) 4 4) ([(0 : Int), (-1 : Int), (128 : Int), (129 : Int)]) :: boxA b7 5 33 (.agg #[.int .i64 pp.fAt, .int .i64 pp.fBirth, .int .i64 (([(0 : Int), (-1 : Int), (128 : Int), (129 : Int)]).getD dn13 0), .int .i64 pp.fSum, .int .i64 pp.fLevel]) :: boxA b1 5 33 (.agg #[.int .i64 pp.fAt, .int .i64 pp.fBirth, .int .i64 (([(0 : Int), (-1 : Int), (128 : Int), (129 : Int)]).getD dn13 0), .int .i64 pp.fSum, .int .i64 pp.fLevel]) :: F) _) := HS
     refine wl_ne ?_
     refine wp_ret ?_
     refine bp_ret1 HF Try.results150 (HF.resBox rfl (HS.out.box 3 rfl) (by kernel_rfl)) ?_
     replace HS : Bx (St w0 (rdA rb ab n cb (B + 1 + 1 + 1 + 1 + (2 + 2 * 9) + 1 + 1) :: rowA encI 1 3 (.slice (some ⟨b12, 0, none⟩) 4 4) ([(0 : Int), (-1 : Int), (128 : Int), (129 : Int)]) :: boxA b7 5 33 (.agg #[.int .i64 pp.fAt, .int .i64 pp.fBirth, .int .i64 (([(0 : Int), (-1 : Int), (128 : Int), (129 : Int)]).getD dn13 0), .int .i64 pp.fSum, .int .i64 pp.fLevel]) :: boxA b1 5 33 (.agg #[.int .i64 pp.fAt, .int .i64 pp.fBirth, .int .i64 (([(0 : Int), (-1 : Int), (128 : Int), (129 : Int)]).getD dn13 0), .int .i64 pp.fSum, .int .i64 pp.fLevel]) :: F) _) := ⟨(HS.out).pick 0 rfl⟩
     replace HS : Bx (St w0 (rdA rb ab n cb (B + 100) :: rowA encI 1 3 (.slice (some ⟨b12, 0, none⟩) 4 4) ([(0 : Int), (-1 : Int), (128 : Int), (129 : Int)]) :: boxA b7 5 33 (.agg #[.int .i64 pp.fAt, .int .i64 pp.fBirth, .int .i64 (([(0 : Int), (-1 : Int), (128 : Int), (129 : Int)]).getD dn13 0), .int .i64 pp.fSum, .int .i64 pp.fLevel]) :: boxA b1 5 33 (.agg #[.int .i64 pp.fAt, .int .i64 pp.fBirth, .int .i64 (([(0 : Int), (-1 : Int), (128 : Int), (129 : Int)]).getD dn13 0), .int .i64 pp.fSum, .int .i64 pp.fLevel]) :: F) _) := ⟨HS.out.rdLe (by omega)⟩
     exact ⟨⟨pp.fAt, pp.fBirth, (([(0 : Int), (-1 : Int), (128 : Int), (129 : Int)]).getD dn13 0), pp.fSum, pp.fLevel⟩, rfl, (((HS.out.erase 3).erase 2).erase 1)⟩
    ·clear HF; have HF := HF1; clear HF1
     have dcc4 := ne_of_beq_false cc4
     refine wc_false HF rfl ?_
     refine wp_sr ?_
     refine wl_y rfl HF rfl rfl (yl_eqlI rfl (HF.ev rfl) (HF.ev rfl)) ?_; clear HF a; intro a HF
     refine wl_as HF rfl rfl rfl rfl rfl ?_; clear HF a; intro a HF
     refine wl_ne ?_
     refine HF.cases 47 rfl (fun cc5 HF1 => ?_) (fun cc5 HF1 => ?_)
     ·clear HF; have HF := HF1; clear HF1
      have dcc5 := eq_of_beq cc5
      refine wc_true HF rfl ?_
      have hle : [(-1 : Int), (99460728 : Int), (99460729 : Int), (0 : Int)].length = 4 := rfl
      refine wp_region_lit ?_
      refine wl_buildS (enc := encI) (e := 3) (size := 1) rfl HF rfl rfl rfl (ps := [(0, .int .i64 (-1)), (1, .int .i64 99460728), (2, .int .i64 99460729), (3, .int .i64 0)]) rfl (cells := [.int .i64 (-1), .int .i64 99460728, .int .i64 99460729, .int .i64 0]) (by kernel_rfl) [(-1 : Int), (99460728 : Int), (99460729 : Int), (0 : Int)] rfl rfl (by unfold maxLen; omega) rfl HS.out ?_; clear HF HS a; intro b14 a w23 HF HS; replace HS := Bx.mk HS
      refine wl_mv HF rfl rfl rfl rfl rfl ?_; clear HF a; intro a HF
      replace HS : Bx (St w0 (rdA rb ab n cb (B + 1 + 1 + 1 + 1 + (2 + 2 * 9) + 1) :: rowA encI 1 3 (.slice (some ⟨b14, 0, none⟩) 4 4) ([(-1 : Int), (99460728 : Int), (99460729 : Int), (0 : Int)]) :: boxA b7 5 33 (.agg #[.int .i64 pp.fAt, .int .i64 pp.fBirth, .int .i64 pp.fSize, .int .i64 pp.fSum, .int .i64 pp.fLevel]) :: boxA b1 5 33 (.agg #[.int .i64 0, .int .i64 0, .int .i64 0, .int .i64 0, .int .i64 0]) :: F) _) := ⟨(HS.out).pick 1 rfl⟩
      refine wl_call rfl HF rfl (enter_of Try.func110 (by kernel_rfl) rfl) (args := #[.pointer (some ⟨rb, 0, none⟩), .int .i64 4]) rfl (pickN w0 _ rb ab n cb bs hn hR (B + 1 + 1 + 1 + 1 + (2 + 2 * 9) + 1) (by omega) 4 (by omega) _ HS.out) rfl rfl ?_
      rintro _ w24 ⟨dn15, rfl, hu15, hs1⟩
      refine ⟨_, rfl, ?_⟩; replace HS := Bx.mk hs1; clear hs1 HF; clear a; intro a HF
      replace HS : Bx (St w0 (rdA rb ab n cb (B + 1 + 1 + 1 + 1 + (2 + 2 * 9) + 1 + 1) :: rowA encI 1 3 (.slice (some ⟨b14, 0, none⟩) 4 4) ([(-1 : Int), (99460728 : Int), (99460729 : Int), (0 : Int)]) :: boxA b7 5 33 (.agg #[.int .i64 pp.fAt, .int .i64 pp.fBirth, .int .i64 pp.fSize, .int .i64 pp.fSum, .int .i64 pp.fLevel]) :: boxA b1 5 33 (.agg #[.int .i64 0, .int .i64 0, .int .i64 0, .int .i64 0, .int .i64 0]) :: F) _) := ⟨HS.out⟩
      refine wl_y rfl HF rfl rfl (yl_indexAddr (e := 3) (i := dn15) (size := 1) rfl (HF.ev rfl) (HF.ev rfl) (by kernel_rfl) rfl (by omega)) ?_; clear HF a; intro a HF
      refine wl_y rfl HF rfl rfl (yl_load (v := .int .i64 (([(-1 : Int), (99460728 : Int), (99460729 : Int), (0 : Int)]).getD dn15 0)) rfl (HF.ev rfl) (HS.out.elem1 encI_len 1 rfl (get_getD (xs := [(-1 : Int), (99460728 : Int), (99460729 : Int), (0 : Int)]) (j := dn15) (d := 0) (by omega)) rfl) (by kernel_rfl)) ?_; clear HF a; intro a HF
      refine wl_y rfl HF rfl rfl (yl_fieldAddr (j := 3) rfl (HF.ev rfl) (by kernel_rfl)) ?_; clear HF a; intro a HF
      refine wl_storeF rfl rfl rfl (HF.ev rfl) (HF.ev rfl) (by kernel_rfl) HS.out 2 rfl rfl rfl ?_; clear HS; intro w25 HS; replace HS := Bx.mk HS
      have HS : Bx (St w0 (rdA rb ab n cb (B + 1 + 1 + 1 + 1 + (2 + 2 * 9) + 1 + 1) :: rowA encI 1 3 (.slice (some ⟨b14, 0, none⟩) 4 4) ([(-1 : Int), (99460728 : Int), (99460729 : Int), (0 : Int)]) :: boxA b7 5 33 (.agg #[.int .i64 pp.fAt, .int .i64 pp.fBirth, .int .i64 pp.fSize, .int .i64 (([(-1 : Int), (99460728 : Int), (99460729 : Int), (0 : Int)]).getD dn15 0), .int .i64 pp.fLevel]) :: boxA b1 5 33 (.agg #[.int .i64 0, .int .i64 0, .int .i64 0, .int .i64 0, .int .i64 0]) :: F) _) := HS
      refine wpList_nil ?_
      refine ex_block ?_
      refine ex_then ?_
      refine wp_sr ?_
      refine wl_y rfl HF rfl rfl (yl_loadR (cs := [.int .i64 pp.fAt, .int .i64 pp.fBirth, .int .i64 pp.fSize, .int .i64 (([(-1 : Int), (99460728 : Int), (99460729 : Int), (0 : Int)]).getD dn15 0), .int .i64 pp.fLevel]) rfl (HF.ev rfl) ((HS.out.box 2 rfl).sub 0 5) (by kernel_rfl)) ?_; clear HF a; intro a HF
      refine wl_storeBox rfl HF rfl rfl (HF.ev rfl) (HF.ev rfl) HS.out 3 rfl (cells_lit [.int .i64 pp.fAt, .int .i64 pp.fBirth, .int .i64 pp.fSize, .int .i64 (([(-1 : Int), (99460728 : Int), (99460729 : Int), (0 : Int)]).getD dn15 0), .int .i64 pp.fLevel] rfl rfl) (by kernel_rfl) ?_; clear HS; intro w26 HS; replace HS := Bx.mk HS
      have HS : Bx (St w0 (rdA rb ab n cb (B + 1 + 1 + 1 + 1 + (2 + 2 * 9) + 1 + 1) :: rowA encI 1 3 (.slice (some ⟨b14, 0, none⟩) 4 4) ([(-1 : Int), (99460728 : Int), (99460729 : Int), (0 : Int)]) :: boxA b7 5 33 (.agg #[.int .i64 pp.fAt, .int .i64 pp.fBirth, .int .i64 pp.fSize, .int .i64 (([(-1 : Int), (99460728 : Int), (99460729 : Int), (0 : Int)]).getD dn15 0), .int .i64 pp.fLevel]) :: boxA b1 5 33 (.agg #[.int .i64 pp.fAt, .int .i64 pp.fBirth, .int .i64 pp.fSize, .int .i64 (([(-1 : Int), (99460728 : Int), (99460729 : Int), (0 : Int)]).getD dn15 0), .int .i64 pp.fLevel]) :: F) _) := HS
      refine wl_ne ?_
      refine wp_ret ?_
      refine bp_ret1 HF Try.results150 (HF.resBox rfl (HS.out.box 3 rfl) (by kernel_rfl)) ?_
      replace HS : Bx (St w0 (rdA rb ab n cb (B + 1 + 1 + 1 + 1 + (2 + 2 * 9) + 1 + 1) :: rowA encI 1 3 (.slice (some ⟨b14, 0, none⟩) 4 4) ([(-1 : Int), (99460728 : Int), (99460729 : Int), (0 : Int)]) :: boxA b7 5 33 (.agg #[.int .i64 pp.fAt, .int .i64 pp.fBirth, .int .i64 pp.fSize, .int .i64 (([(-1 : Int), (99460728 : Int), (99460729 : Int), (0 : Int)]).getD dn15 0), .int .i64 pp.fLevel]) :: boxA b1 5 33 (.agg #[.int .i64 pp.fAt, .int .i64 pp.fBirth, .int .i64 pp.fSize, .int .i64 (([(-1 : Int), (99460728 : Int), (99460729 : Int), (0 : Int)]).getD dn15 0), .int .i64 pp.fLevel]) :: F) _) := ⟨(HS.out).pick 0 rfl⟩
      replace HS : Bx (St w0 (rdA rb ab n cb (B + 100) :: rowA encI 1 3 (.slice (some ⟨b14, 0, none⟩) 4 4) ([(-1 : Int), (99460728 : Int), (99460729 : Int), (0 : Int)]) :: boxA b7 5 33 (.agg #[.int .i64 pp.fAt, .int .i64 pp.fBirth, .int .i64 pp.fSize, .int .i64 (([(-1 : Int), (99460728 : Int), (99460729 : Int), (0 : Int)]).getD dn15 0), .int .i64 pp.fLevel]) :: boxA b1 5 33 (.agg #[.int .i64 pp.fAt, .int .i64 pp.fBirth, .int .i64 pp.fSize, .int .i64 (([(-1 : Int), (99460728 : Int), (99460729 : Int), (0 : Int)]).getD dn15 0), .int .i64 pp.fLevel]) :: F) _) := ⟨HS.out.rdLe (by omega)⟩
      exact ⟨⟨pp.fAt, pp.fBirth, pp.fSize, (([(-1 : Int), (99460728 : Int), (99460729 : Int), (0 : Int)]).getD dn15 0), pp.fLevel⟩, rfl, (((HS.out.erase 3).erase 2).erase 1)⟩
     ·clear HF; have HF := HF1; clear HF1
      have dcc5 := ne_of_beq_false cc5
      refine wc_false HF rfl ?_
      refine wp_sr ?_
      refine wl_y rfl HF rfl rfl (yl_eqlI rfl (HF.ev rfl) (HF.ev rfl)) ?_; clear HF a; intro a HF
      refine wl_as HF rfl rfl rfl rfl rfl ?_; clear HF a; intro a HF
      refine wl_ne ?_
      refine HF.cases 55 rfl (fun cc6 HF1 => ?_) (fun cc6 HF1 => ?_)
      ·clear HF; have HF := HF1; clear HF1
       have dcc6 := eq_of_beq cc6
       refine wc_true HF rfl ?_
       have hle : [(-1 : Int), (3 : Int), (2 : Int)].length = 3 := rfl
       refine wp_region_lit ?_
       refine wl_buildS (enc := encI) (e := 3) (size := 1) rfl HF rfl rfl rfl (ps := [(0, .int .i64 (-1)), (1, .int .i64 3), (2, .int .i64 2)]) rfl (cells := [.int .i64 (-1), .int .i64 3, .int .i64 2]) (by kernel_rfl) [(-1 : Int), (3 : Int), (2 : Int)] rfl rfl (by unfold maxLen; omega) rfl HS.out ?_; clear HF HS a; intro b16 a w27 HF HS; replace HS := Bx.mk HS
       refine wl_mv HF rfl rfl rfl rfl rfl ?_; clear HF a; intro a HF
       replace HS : Bx (St w0 (rdA rb ab n cb (B + 1 + 1 + 1 + 1 + (2 + 2 * 9) + 1) :: rowA encI 1 3 (.slice (some ⟨b16, 0, none⟩) 3 3) ([(-1 : Int), (3 : Int), (2 : Int)]) :: boxA b7 5 33 (.agg #[.int .i64 pp.fAt, .int .i64 pp.fBirth, .int .i64 pp.fSize, .int .i64 pp.fSum, .int .i64 pp.fLevel]) :: boxA b1 5 33 (.agg #[.int .i64 0, .int .i64 0, .int .i64 0, .int .i64 0, .int .i64 0]) :: F) _) := ⟨(HS.out).pick 1 rfl⟩
       refine wl_call rfl HF rfl (enter_of Try.func110 (by kernel_rfl) rfl) (args := #[.pointer (some ⟨rb, 0, none⟩), .int .i64 3]) rfl (pickN w0 _ rb ab n cb bs hn hR (B + 1 + 1 + 1 + 1 + (2 + 2 * 9) + 1) (by omega) 3 (by omega) _ HS.out) rfl rfl ?_
       rintro _ w28 ⟨dn17, rfl, hu17, hs1⟩
       refine ⟨_, rfl, ?_⟩; replace HS := Bx.mk hs1; clear hs1 HF; clear a; intro a HF
       replace HS : Bx (St w0 (rdA rb ab n cb (B + 1 + 1 + 1 + 1 + (2 + 2 * 9) + 1 + 1) :: rowA encI 1 3 (.slice (some ⟨b16, 0, none⟩) 3 3) ([(-1 : Int), (3 : Int), (2 : Int)]) :: boxA b7 5 33 (.agg #[.int .i64 pp.fAt, .int .i64 pp.fBirth, .int .i64 pp.fSize, .int .i64 pp.fSum, .int .i64 pp.fLevel]) :: boxA b1 5 33 (.agg #[.int .i64 0, .int .i64 0, .int .i64 0, .int .i64 0, .int .i64 0]) :: F) _) := ⟨HS.out⟩
       refine wl_y rfl HF rfl rfl (yl_indexAddr (e := 3) (i := dn17) (size := 1) rfl (HF.ev rfl) (HF.ev rfl) (by kernel_rfl) rfl (by omega)) ?_; clear HF a; intro a HF
       refine wl_y rfl HF rfl rfl (yl_load (v := .int .i64 (([(-1 : Int), (3 : Int), (2 : Int)]).getD dn17 0)) rfl (HF.ev rfl) (HS.out.elem1 encI_len 1 rfl (get_getD (xs := [(-1 : Int), (3 : Int), (2 : Int)]) (j := dn17) (d := 0) (by omega)) rfl) (by kernel_rfl)) ?_; clear HF a; intro a HF
       refine wl_y rfl HF rfl rfl (yl_fieldAddr (j := 4) rfl (HF.ev rfl) (by kernel_rfl)) ?_; clear HF a; intro a HF
       refine wl_storeF rfl rfl rfl (HF.ev rfl) (HF.ev rfl) (by kernel_rfl) HS.out 2 rfl rfl rfl ?_; clear HS; intro w29 HS; replace HS := Bx.mk HS
       have HS : Bx (St w0 (rdA rb ab n cb (B + 1 + 1 + 1 + 1 + (2 + 2 * 9) + 1 + 1) :: rowA encI 1 3 (.slice (some ⟨b16, 0, none⟩) 3 3) ([(-1 : Int), (3 : Int), (2 : Int)]) :: boxA b7 5 33 (.agg #[.int .i64 pp.fAt, .int .i64 pp.fBirth, .int .i64 pp.fSize, .int .i64 pp.fSum, .int .i64 (([(-1 : Int), (3 : Int), (2 : Int)]).getD dn17 0)]) :: boxA b1 5 33 (.agg #[.int .i64 0, .int .i64 0, .int .i64 0, .int .i64 0, .int .i64 0]) :: F) _) := HS
       refine wpList_nil ?_
       refine ex_block ?_
       refine ex_then ?_
       refine wp_sr ?_
       refine wl_y rfl HF rfl rfl (yl_loadR (cs := [.int .i64 pp.fAt, .int .i64 pp.fBirth, .int .i64 pp.fSize, .int .i64 pp.fSum, .int .i64 (([(-1 : Int), (3 : Int), (2 : Int)]).getD dn17 0)]) rfl (HF.ev rfl) ((HS.out.box 2 rfl).sub 0 5) (by kernel_rfl)) ?_; clear HF a; intro a HF
       refine wl_storeBox rfl HF rfl rfl (HF.ev rfl) (HF.ev rfl) HS.out 3 rfl (cells_lit [.int .i64 pp.fAt, .int .i64 pp.fBirth, .int .i64 pp.fSize, .int .i64 pp.fSum, .int .i64 (([(-1 : Int), (3 : Int), (2 : Int)]).getD dn17 0)] rfl rfl) (by kernel_rfl) ?_; clear HS; intro w30 HS; replace HS := Bx.mk HS
       have HS : Bx (St w0 (rdA rb ab n cb (B + 1 + 1 + 1 + 1 + (2 + 2 * 9) + 1 + 1) :: rowA encI 1 3 (.slice (some ⟨b16, 0, none⟩) 3 3) ([(-1 : Int), (3 : Int), (2 : Int)]) :: boxA b7 5 33 (.agg #[.int .i64 pp.fAt, .int .i64 pp.fBirth, .int .i64 pp.fSize, .int .i64 pp.fSum, .int .i64 (([(-1 : Int), (3 : Int), (2 : Int)]).getD dn17 0)]) :: boxA b1 5 33 (.agg #[.int .i64 pp.fAt, .int .i64 pp.fBirth, .int .i64 pp.fSize, .int .i64 pp.fSum, .int .i64 (([(-1 : Int), (3 : Int), (2 : Int)]).getD dn17 0)]) :: F) _) := HS
       refine wl_ne ?_
       refine wp_ret ?_
       refine bp_ret1 HF Try.results150 (HF.resBox rfl (HS.out.box 3 rfl) (by kernel_rfl)) ?_
       replace HS : Bx (St w0 (rdA rb ab n cb (B + 1 + 1 + 1 + 1 + (2 + 2 * 9) + 1 + 1) :: rowA encI 1 3 (.slice (some ⟨b16, 0, none⟩) 3 3) ([(-1 : Int), (3 : Int), (2 : Int)]) :: boxA b7 5 33 (.agg #[.int .i64 pp.fAt, .int .i64 pp.fBirth, .int .i64 pp.fSize, .int .i64 pp.fSum, .int .i64 (([(-1 : Int), (3 : Int), (2 : Int)]).getD dn17 0)]) :: boxA b1 5 33 (.agg #[.int .i64 pp.fAt, .int .i64 pp.fBirth, .int .i64 pp.fSize, .int .i64 pp.fSum, .int .i64 (([(-1 : Int), (3 : Int), (2 : Int)]).getD dn17 0)]) :: F) _) := ⟨(HS.out).pick 0 rfl⟩
       replace HS : Bx (St w0 (rdA rb ab n cb (B + 100) :: rowA encI 1 3 (.slice (some ⟨b16, 0, none⟩) 3 3) ([(-1 : Int), (3 : Int), (2 : Int)]) :: boxA b7 5 33 (.agg #[.int .i64 pp.fAt, .int .i64 pp.fBirth, .int .i64 pp.fSize, .int .i64 pp.fSum, .int .i64 (([(-1 : Int), (3 : Int), (2 : Int)]).getD dn17 0)]) :: boxA b1 5 33 (.agg #[.int .i64 pp.fAt, .int .i64 pp.fBirth, .int .i64 pp.fSize, .int .i64 pp.fSum, .int .i64 (([(-1 : Int), (3 : Int), (2 : Int)]).getD dn17 0)]) :: F) _) := ⟨HS.out.rdLe (by omega)⟩
       exact ⟨⟨pp.fAt, pp.fBirth, pp.fSize, pp.fSum, (([(-1 : Int), (3 : Int), (2 : Int)]).getD dn17 0)⟩, rfl, (((HS.out.erase 3).erase 2).erase 1)⟩
      ·clear HF; have HF := HF1; clear HF1
       have dcc6 := ne_of_beq_false cc6
       refine wc_false HF rfl ?_
       refine wp_skip ?_
       refine ex_block ?_
       refine ex_then ?_
       refine wp_sr ?_
       refine wl_y rfl HF rfl rfl (yl_loadR (cs := [.int .i64 pp.fAt, .int .i64 pp.fBirth, .int .i64 pp.fSize, .int .i64 pp.fSum, .int .i64 pp.fLevel]) rfl (HF.ev rfl) ((HS.out.box 1 rfl).sub 0 5) (by kernel_rfl)) ?_; clear HF a; intro a HF
       refine wl_storeBox rfl HF rfl rfl (HF.ev rfl) (HF.ev rfl) HS.out 2 rfl (cells_lit [.int .i64 pp.fAt, .int .i64 pp.fBirth, .int .i64 pp.fSize, .int .i64 pp.fSum, .int .i64 pp.fLevel] rfl rfl) (by kernel_rfl) ?_; clear HS; intro w31 HS; replace HS := Bx.mk HS
       have HS : Bx (St w0 (rdA rb ab n cb (B + 1 + 1 + 1 + 1 + (2 + 2 * 9) + 1) :: boxA b7 5 33 (.agg #[.int .i64 pp.fAt, .int .i64 pp.fBirth, .int .i64 pp.fSize, .int .i64 pp.fSum, .int .i64 pp.fLevel]) :: boxA b1 5 33 (.agg #[.int .i64 pp.fAt, .int .i64 pp.fBirth, .int .i64 pp.fSize, .int .i64 pp.fSum, .int .i64 pp.fLevel]) :: F) _) := HS
       refine wl_ne ?_
       refine wp_ret ?_
       refine bp_ret1 HF Try.results150 (HF.resBox rfl (HS.out.box 2 rfl) (by kernel_rfl)) ?_
       replace HS : Bx (St w0 (rdA rb ab n cb (B + 1 + 1 + 1 + 1 + (2 + 2 * 9) + 1) :: boxA b7 5 33 (.agg #[.int .i64 pp.fAt, .int .i64 pp.fBirth, .int .i64 pp.fSize, .int .i64 pp.fSum, .int .i64 pp.fLevel]) :: boxA b1 5 33 (.agg #[.int .i64 pp.fAt, .int .i64 pp.fBirth, .int .i64 pp.fSize, .int .i64 pp.fSum, .int .i64 pp.fLevel]) :: F) _) := ⟨(HS.out).pick 0 rfl⟩
       replace HS : Bx (St w0 (rdA rb ab n cb (B + 100) :: boxA b7 5 33 (.agg #[.int .i64 pp.fAt, .int .i64 pp.fBirth, .int .i64 pp.fSize, .int .i64 pp.fSum, .int .i64 pp.fLevel]) :: boxA b1 5 33 (.agg #[.int .i64 pp.fAt, .int .i64 pp.fBirth, .int .i64 pp.fSize, .int .i64 pp.fSum, .int .i64 pp.fLevel]) :: F) _) := ⟨HS.out.rdLe (by omega)⟩
       exact ⟨⟨pp.fAt, pp.fBirth, pp.fSize, pp.fSum, pp.fLevel⟩, rfl, ((HS.out.erase 2).erase 1)⟩

theorem l91Of_any (w0 w : World) (rb : Nat) (ab : Option Addr) (n cb : Nat) (bs : List UInt8) (hn : n ≤ 2000) (hR : Rd encB 1 w0 ab n bs) (B : Nat) (hB : B ≤ 700000) (ap : Option Addr) (cu : Nat) (us : List PtrD) (hu : us.length ≤ 1000) (F : List Asr) (hS : St w0 (rdA rb ab n cb B :: rowA PtrD.cells 5 33 (.slice ap us.length cu) us :: F) w) : Calls Try.prog 100 #[.pointer (some ⟨rb, 0, none⟩), .slice ap us.length cu] w fun e w' => ∃ p : PtrD, e = .returned (.agg #[.int .i64 p.fAt, .int .i64 p.fBirth, .int .i64 p.fSize, .int .i64 p.fSum, .int .i64 p.fLevel]) ∧ St w0 (rdA rb ab n cb (B + 110) :: rowA PtrD.cells 5 33 (.slice ap us.length cu) us :: F) w' := by
 have HS := Bx.mk hS; clear hS
 refine wc_enter Try.func100 rfl Try.ntmps100 [(0, .pointer (some ⟨rb, 0, none⟩)), (1, .slice ap us.length cu)] ⟨rfl, rfl, trivial⟩ rfl ?_; intro a HF
 refine wp_sr ?_
 refine wl_alloc rfl HF rfl rfl rfl (Z := [.int .i64 0, .int .i64 0, .int .i64 0, .int .i64 0, .int .i64 0]) (by kernel_rfl) rfl HS.out ?_; clear HF HS a; intro a w1 b1 HF HS; replace HS := Bx.mk HS
 refine wl_ne ?_
 refine wp_seq ?_
 refine wp_sr ?_
 refine wl_mv HF rfl rfl rfl rfl rfl ?_; clear HF a; intro a HF
 refine wl_y rfl HF rfl rfl (yl_lenL (e := 33) (size := 5) rfl (HF.ev rfl) (by kernel_rfl)) ?_; clear HF a; intro a HF
 refine wl_y rfl HF rfl rfl (yl_eqlI rfl (HF.ev rfl) (HF.ev rfl)) ?_; clear HF a; intro a HF
 refine wl_mv HF rfl rfl rfl rfl rfl ?_; clear HF a; intro a HF
 refine HF.cases 8 rfl (fun cc1 HF1 => ?_) (fun cc1 HF1 => ?_)
 ·clear HF; have HF := HF1; clear HF1
  have dcc1 := eq_of_beq cc1
  refine wl_skip HF rfl rfl rfl rfl rfl rfl ?_; clear HF a; intro a HF
  refine wl_skip HF rfl rfl rfl rfl rfl rfl ?_; clear HF a; intro a HF
  refine wl_skip HF rfl rfl rfl rfl rfl rfl ?_; clear HF a; intro a HF
  refine wl_y rfl HF rfl rfl (yl_pick_t rfl (HF.ev rfl) (HF.ev rfl)) ?_; clear HF a; intro a HF
  refine wl_ne ?_
  refine wc_true HF rfl ?_
  refine wp_sr ?_
  refine wl_mv HF rfl rfl rfl rfl rfl ?_; clear HF a; intro a HF
  replace HS : Bx (St w0 (rdA rb ab n cb B :: boxA b1 5 33 (.agg #[.int .i64 0, .int .i64 0, .int .i64 0, .int .i64 0, .int .i64 0]) :: rowA PtrD.cells 5 33 (.slice ap us.length cu) us :: F) _) := ⟨(HS.out).pick 1 rfl⟩
  refine wl_call rfl HF rfl (enter_of Try.func150 (by kernel_rfl) rfl) (args := #[.pointer (some ⟨rb, 0, none⟩)]) rfl (l91Ptr_any w0 _ rb ab n cb bs hn hR B (by omega) _ HS.out) rfl rfl ?_
  rintro _ w2 ⟨dp2, rfl, hs1⟩
  refine ⟨_, rfl, ?_⟩; replace HS := Bx.mk hs1; clear hs1 HF; clear a; intro a HF
  replace HS : Bx (St w0 (rdA rb ab n cb (B + 100) :: boxA b1 5 33 (.agg #[.int .i64 0, .int .i64 0, .int .i64 0, .int .i64 0, .int .i64 0]) :: rowA PtrD.cells 5 33 (.slice ap us.length cu) us :: F) _) := ⟨HS.out⟩
  refine wl_storeBox rfl HF rfl rfl (HF.ev rfl) (HF.ev rfl) HS.out 1 rfl (cells_lit [.int .i64 dp2.fAt, .int .i64 dp2.fBirth, .int .i64 dp2.fSize, .int .i64 dp2.fSum, .int .i64 dp2.fLevel] rfl rfl) (by kernel_rfl) ?_; clear HS; intro w3 HS; replace HS := Bx.mk HS
  have HS : Bx (St w0 (rdA rb ab n cb (B + 100) :: boxA b1 5 33 (.agg #[.int .i64 dp2.fAt, .int .i64 dp2.fBirth, .int .i64 dp2.fSize, .int .i64 dp2.fSum, .int .i64 dp2.fLevel]) :: rowA PtrD.cells 5 33 (.slice ap us.length cu) us :: F) _) := HS
  refine wl_ne ?_
  refine wp_ret ?_
  refine ex_then_ret ?_
  refine bp_ret1 HF Try.results100 (HF.resBox rfl (HS.out.box 1 rfl) (by kernel_rfl)) ?_
  replace HS : Bx (St w0 (rdA rb ab n cb (B + 100) :: boxA b1 5 33 (.agg #[.int .i64 dp2.fAt, .int .i64 dp2.fBirth, .int .i64 dp2.fSize, .int .i64 dp2.fSum, .int .i64 dp2.fLevel]) :: rowA PtrD.cells 5 33 (.slice ap us.length cu) us :: F) _) := ⟨(HS.out).pick 0 rfl⟩
  replace HS : Bx (St w0 (rdA rb ab n cb (B + 110) :: boxA b1 5 33 (.agg #[.int .i64 dp2.fAt, .int .i64 dp2.fBirth, .int .i64 dp2.fSize, .int .i64 dp2.fSum, .int .i64 dp2.fLevel]) :: rowA PtrD.cells 5 33 (.slice ap us.length cu) us :: F) _) := ⟨HS.out.rdLe (by omega)⟩
  replace HS : Bx (St w0 (rdA rb ab n cb (B + 110) :: rowA PtrD.cells 5 33 (.slice ap us.length cu) us :: boxA b1 5 33 (.agg #[.int .i64 dp2.fAt, .int .i64 dp2.fBirth, .int .i64 dp2.fSize, .int .i64 dp2.fSum, .int .i64 dp2.fLevel]) :: F) _) := ⟨((HS.out).pick 2 rfl).pick 1 rfl⟩
  exact ⟨dp2, rfl, (HS.out.erase 2)⟩
 ·clear HF; have HF := HF1; clear HF1
  have dcc1 := ne_of_beq_false cc1
  refine wl_yg HF rfl rfl rfl rfl rfl (yl_move rfl (HF.ev rfl)) ?_; clear HF a; intro a HF
  replace HS : Bx (St w0 (rdA rb ab n cb B :: boxA b1 5 33 (.agg #[.int .i64 0, .int .i64 0, .int .i64 0, .int .i64 0, .int .i64 0]) :: rowA PtrD.cells 5 33 (.slice ap us.length cu) us :: F) _) := ⟨(HS.out).pick 1 rfl⟩
  refine wl_callg HF rfl rfl rfl rfl (enter_of Try.func110 (by kernel_rfl) rfl) (args := #[.pointer (some ⟨rb, 0, none⟩), .int .i64 9]) rfl (pickN w0 _ rb ab n cb bs hn hR B (by omega) 9 (by omega) _ HS.out) rfl rfl ?_
  rintro _ w4 ⟨dn3, rfl, hu3, hs1⟩
  refine ⟨_, rfl, ?_⟩; replace HS := Bx.mk hs1; clear hs1 HF; clear a; intro a HF
  replace HS : Bx (St w0 (rdA rb ab n cb (B + 1) :: boxA b1 5 33 (.agg #[.int .i64 0, .int .i64 0, .int .i64 0, .int .i64 0, .int .i64 0]) :: rowA PtrD.cells 5 33 (.slice ap us.length cu) us :: F) _) := ⟨HS.out⟩
  refine wl_yg HF rfl rfl rfl rfl rfl (yl_eqlI rfl (HF.ev rfl) (HF.ev rfl)) ?_; clear HF a; intro a HF
  refine wl_y rfl HF rfl rfl (yl_pick_f rfl (HF.ev rfl) (HF.ev rfl)) ?_; clear HF a; intro a HF
  refine wl_ne ?_
  refine HF.cases 12 rfl (fun cc2 HF1 => ?_) (fun cc2 HF1 => ?_)
  ·clear HF; have HF := HF1; clear HF1
   have dcc2 := eq_of_beq cc2
   refine wc_true HF rfl ?_
   refine wp_sr ?_
   refine wl_mv HF rfl rfl rfl rfl rfl ?_; clear HF a; intro a HF
   replace HS : Bx (St w0 (rdA rb ab n cb (B + 1) :: boxA b1 5 33 (.agg #[.int .i64 0, .int .i64 0, .int .i64 0, .int .i64 0, .int .i64 0]) :: rowA PtrD.cells 5 33 (.slice ap us.length cu) us :: F) _) := ⟨(HS.out).pick 0 rfl⟩
   refine wl_call rfl HF rfl (enter_of Try.func150 (by kernel_rfl) rfl) (args := #[.pointer (some ⟨rb, 0, none⟩)]) rfl (l91Ptr_any w0 _ rb ab n cb bs hn hR (B + 1) (by omega) _ HS.out) rfl rfl ?_
   rintro _ w5 ⟨dp4, rfl, hs1⟩
   refine ⟨_, rfl, ?_⟩; replace HS := Bx.mk hs1; clear hs1 HF; clear a; intro a HF
   replace HS : Bx (St w0 (rdA rb ab n cb (B + 1 + 100) :: boxA b1 5 33 (.agg #[.int .i64 0, .int .i64 0, .int .i64 0, .int .i64 0, .int .i64 0]) :: rowA PtrD.cells 5 33 (.slice ap us.length cu) us :: F) _) := ⟨HS.out⟩
   refine wl_storeBox rfl HF rfl rfl (HF.ev rfl) (HF.ev rfl) HS.out 1 rfl (cells_lit [.int .i64 dp4.fAt, .int .i64 dp4.fBirth, .int .i64 dp4.fSize, .int .i64 dp4.fSum, .int .i64 dp4.fLevel] rfl rfl) (by kernel_rfl) ?_; clear HS; intro w6 HS; replace HS := Bx.mk HS
   have HS : Bx (St w0 (rdA rb ab n cb (B + 1 + 100) :: boxA b1 5 33 (.agg #[.int .i64 dp4.fAt, .int .i64 dp4.fBirth, .int .i64 dp4.fSize, .int .i64 dp4.fSum, .int .i64 dp4.fLevel]) :: rowA PtrD.cells 5 33 (.slice ap us.length cu) us :: F) _) := HS
   refine wl_ne ?_
   refine wp_ret ?_
   refine ex_then_ret ?_
   refine bp_ret1 HF Try.results100 (HF.resBox rfl (HS.out.box 1 rfl) (by kernel_rfl)) ?_
   replace HS : Bx (St w0 (rdA rb ab n cb (B + 1 + 100) :: boxA b1 5 33 (.agg #[.int .i64 dp4.fAt, .int .i64 dp4.fBirth, .int .i64 dp4.fSize, .int .i64 dp4.fSum, .int .i64 dp4.fLevel]) :: rowA PtrD.cells 5 33 (.slice ap us.length cu) us :: F) _) := ⟨(HS.out).pick 0 rfl⟩
   replace HS : Bx (St w0 (rdA rb ab n cb (B + 110) :: boxA b1 5 33 (.agg #[.int .i64 dp4.fAt, .int .i64 dp4.fBirth, .int .i64 dp4.fSize, .int .i64 dp4.fSum, .int .i64 dp4.fLevel]) :: rowA PtrD.cells 5 33 (.slice ap us.length cu) us :: F) _) := ⟨HS.out.rdLe (by omega)⟩
   replace HS : Bx (St w0 (rdA rb ab n cb (B + 110) :: rowA PtrD.cells 5 33 (.slice ap us.length cu) us :: boxA b1 5 33 (.agg #[.int .i64 dp4.fAt, .int .i64 dp4.fBirth, .int .i64 dp4.fSize, .int .i64 dp4.fSum, .int .i64 dp4.fLevel]) :: F) _) := ⟨((HS.out).pick 2 rfl).pick 1 rfl⟩
   exact ⟨dp4, rfl, (HS.out.erase 2)⟩
  ·clear HF; have HF := HF1; clear HF1
   have dcc2 := ne_of_beq_false cc2
   refine wc_false HF rfl ?_
   refine wp_skip ?_
   refine ex_then ?_
   refine wp_seq ?_
   obtain ⟨g5, rfl, _, _, _, _⟩ := HS.out.rowOpen 2 rfl (by omega)
   refine wp_region_lit ?_
   refine wl_mv HF rfl rfl rfl rfl rfl ?_; clear HF a; intro a HF
   refine wl_mv HF rfl rfl rfl rfl rfl ?_; clear HF a; intro a HF
   refine wl_mv HF rfl rfl rfl rfl rfl ?_; clear HF a; intro a HF
   refine wl_y rfl HF rfl rfl (yl_lenL (e := 33) (size := 5) rfl (HF.ev rfl) (by kernel_rfl)) ?_; clear HF a; intro a HF
   replace HS : Bx (St w0 (rdA rb ab n cb (B + 1) :: boxA b1 5 33 (.agg #[.int .i64 0, .int .i64 0, .int .i64 0, .int .i64 0, .int .i64 0]) :: rowA PtrD.cells 5 33 (.slice (some ⟨g5, 0, none⟩) us.length cu) us :: F) _) := ⟨(HS.out).pick 0 rfl⟩
   refine wl_call rfl HF rfl (enter_of Try.func110 (by kernel_rfl) rfl) (args := #[.pointer (some ⟨rb, 0, none⟩), .int .i64 (us.length : Int)]) rfl (pickN w0 _ rb ab n cb bs hn hR (B + 1) (by omega) (us.length : Int) (by omega) _ HS.out) rfl rfl ?_
   rintro _ w7 ⟨dn6, rfl, hu6, hs1⟩
   refine ⟨_, rfl, ?_⟩; replace HS := Bx.mk hs1; clear hs1 HF; clear a; intro a HF
   replace HS : Bx (St w0 (rdA rb ab n cb (B + 1 + 1) :: boxA b1 5 33 (.agg #[.int .i64 0, .int .i64 0, .int .i64 0, .int .i64 0, .int .i64 0]) :: rowA PtrD.cells 5 33 (.slice (some ⟨g5, 0, none⟩) us.length cu) us :: F) _) := ⟨HS.out⟩
   refine wl_y rfl HF rfl rfl (yl_indexAddr (e := 33) (i := dn6) (size := 5) rfl (HF.ev rfl) (HF.ev rfl) (by kernel_rfl) rfl (by omega)) ?_; clear HF a; intro a HF
   refine wl_y rfl HF rfl rfl (yl_loadR (cs := [.int .i64 ((us.getD dn6 PtrD.zero).fAt), .int .i64 ((us.getD dn6 PtrD.zero).fBirth), .int .i64 ((us.getD dn6 PtrD.zero).fSize), .int .i64 ((us.getD dn6 PtrD.zero).fSum), .int .i64 ((us.getD dn6 PtrD.zero).fLevel)]) rfl (HF.ev rfl) (HS.out.elem PtrD.cells_len 2 rfl (get_getD (xs := us) (j := dn6) (d := PtrD.zero) (by omega))) (by kernel_rfl)) ?_; clear HF a; intro a HF
   refine wl_storeBox rfl HF rfl rfl (HF.ev rfl) (HF.ev rfl) HS.out 1 rfl (cells_lit [.int .i64 ((us.getD dn6 PtrD.zero).fAt), .int .i64 ((us.getD dn6 PtrD.zero).fBirth), .int .i64 ((us.getD dn6 PtrD.zero).fSize), .int .i64 ((us.getD dn6 PtrD.zero).fSum), .int .i64 ((us.getD dn6 PtrD.zero).fLevel)] rfl rfl) (by kernel_rfl) ?_; clear HS; intro w8 HS; replace HS := Bx.mk HS
   have HS : Bx (St w0 (rdA rb ab n cb (B + 1 + 1) :: boxA b1 5 33 (.agg #[.int .i64 ((us.getD dn6 PtrD.zero).fAt), .int .i64 ((us.getD dn6 PtrD.zero).fBirth), .int .i64 ((us.getD dn6 PtrD.zero).fSize), .int .i64 ((us.getD dn6 PtrD.zero).fSum), .int .i64 ((us.getD dn6 PtrD.zero).fLevel)]) :: rowA PtrD.cells 5 33 (.slice (some ⟨g5, 0, none⟩) us.length cu) us :: F) _) := HS
   refine wl_ne ?_
   refine wp_ret ?_
   refine bp_ret1 HF Try.results100 (HF.resBox rfl (HS.out.box 1 rfl) (by kernel_rfl)) ?_
   replace HS : Bx (St w0 (rdA rb ab n cb (B + 1 + 1) :: boxA b1 5 33 (.agg #[.int .i64 ((us.getD dn6 PtrD.zero).fAt), .int .i64 ((us.getD dn6 PtrD.zero).fBirth), .int .i64 ((us.getD dn6 PtrD.zero).fSize), .int .i64 ((us.getD dn6 PtrD.zero).fSum), .int .i64 ((us.getD dn6 PtrD.zero).fLevel)]) :: rowA PtrD.cells 5 33 (.slice (some ⟨g5, 0, none⟩) us.length cu) us :: F) _) := ⟨(HS.out).pick 0 rfl⟩
   replace HS : Bx (St w0 (rdA rb ab n cb (B + 110) :: boxA b1 5 33 (.agg #[.int .i64 ((us.getD dn6 PtrD.zero).fAt), .int .i64 ((us.getD dn6 PtrD.zero).fBirth), .int .i64 ((us.getD dn6 PtrD.zero).fSize), .int .i64 ((us.getD dn6 PtrD.zero).fSum), .int .i64 ((us.getD dn6 PtrD.zero).fLevel)]) :: rowA PtrD.cells 5 33 (.slice (some ⟨g5, 0, none⟩) us.length cu) us :: F) _) := ⟨HS.out.rdLe (by omega)⟩
   replace HS : Bx (St w0 (rdA rb ab n cb (B + 110) :: rowA PtrD.cells 5 33 (.slice (some ⟨g5, 0, none⟩) us.length cu) us :: boxA b1 5 33 (.agg #[.int .i64 ((us.getD dn6 PtrD.zero).fAt), .int .i64 ((us.getD dn6 PtrD.zero).fBirth), .int .i64 ((us.getD dn6 PtrD.zero).fSize), .int .i64 ((us.getD dn6 PtrD.zero).fSum), .int .i64 ((us.getD dn6 PtrD.zero).fLevel)]) :: F) _) := ⟨((HS.out).pick 2 rfl).pick 1 rfl⟩
   exact ⟨(us.getD dn6 PtrD.zero), rfl, (HS.out.erase 2)⟩

theorem drawRaidHeal_any (w0 : World) (ab : Option Addr) (n0 cb : Nat) (bs0 : List UInt8) (hcap : n0 ≤ cb) (hn0 : n0 ≤ 1048576) (hR0 : Rd encB 1 w0 ab n0 bs0) : Calls Try.prog 32 #[.slice ab n0 cb] w0 fun e w' => ∃ (ao : Option Addr) (co : Nat) (ps : List HD) (p : PtrD), e = .returned (.tuple #[.agg #[.slice ao ps.length co], .agg #[.int .i64 p.fAt, .int .i64 p.fBirth, .int .i64 p.fSize, .int .i64 p.fSum, .int .i64 p.fLevel]]) ∧ ps.length ≤ 3 ∧ fitsL ps ∧ St w0 [holdsA (rdsP ao ps)] w' := by
 have HS := Bx.mk (St.start w0)
 refine wc_enter Try.func32 rfl Try.ntmps32 [(0, .slice ab n0 cb)] ⟨rfl, trivial⟩ rfl ?_; intro a HF
 refine wp_sr ?_
 refine wl_alloc rfl HF rfl rfl rfl (Z := [.slice none 0 0]) (by kernel_rfl) rfl HS.out ?_; clear HF HS a; intro a w1 b1 HF HS; replace HS := Bx.mk HS
 refine wl_alloc rfl HF rfl rfl rfl (Z := [.int .i64 0, .int .i64 0, .int .i64 0, .int .i64 0, .int .i64 0]) (by kernel_rfl) rfl HS.out ?_; clear HF HS a; intro a w2 b2 HF HS; replace HS := Bx.mk HS
 refine wl_ne ?_
 refine wp_sr ?_
 refine wl_mv HF rfl rfl rfl rfl rfl ?_; clear HF a; intro a HF
 refine wl_call rfl HF rfl (enter_of Try.func40 (by kernel_rfl) rfl) (args := #[.slice ab n0 cb]) rfl (l6Open_any _ ab n0 cb hcap hn0) rfl rfl ?_
 rintro _ w3 ⟨rb, n, rfl, hn, hnn, hs⟩
 obtain ⟨bs, hR⟩ : ∃ bs, Rd encB 1 w0 ab n bs := ⟨_, hR0.take (k := n) (by rw [hR0.len]; exact hnn)⟩
 refine ⟨_, rfl, ?_⟩; replace HS := Bx.mk (HS.out.add hs); clear hs HF; clear a; intro a HF
 replace HS : Bx (St w0 ([rdA rb ab n cb 0, boxA b2 5 33 (.agg #[.int .i64 0, .int .i64 0, .int .i64 0, .int .i64 0, .int .i64 0]), boxA b1 1 25 (.agg #[.slice none 0 0])]) _) := ⟨HS.out⟩
 refine wl_as HF rfl rfl rfl rfl rfl ?_; clear HF a; intro a HF
 refine wl_ne ?_
 refine wp_sr ?_
 refine wl_mv HF rfl rfl rfl rfl rfl ?_; clear HF a; intro a HF
 replace HS : Bx (St w0 ([rdA rb ab n cb 0, boxA b2 5 33 (.agg #[.int .i64 0, .int .i64 0, .int .i64 0, .int .i64 0, .int .i64 0]), boxA b1 1 25 (.agg #[.slice none 0 0])]) _) := ⟨(HS.out).pick 0 rfl⟩
 refine wl_call rfl HF rfl (enter_of Try.func41 (by kernel_rfl) rfl) (args := #[.pointer (some ⟨rb, 0, none⟩)]) rfl (l91Raid_any w0 _ rb ab n cb bs hn hR 0 (by omega) _ HS.out) rfl rfl ?_
 rintro _ w4 ⟨ao, co, ps, ap, cu, us, rfl, hpl, hpf, hul, hs1⟩
 refine ⟨_, rfl, ?_⟩; replace HS := Bx.mk hs1; clear hs1 HF; clear a; intro a HF
 replace HS : Bx (St w0 ([rdA rb ab n cb (0 + 2000), holdsA (rdsP ao ps), rowA PtrD.cells 5 33 (.slice ap us.length cu) us, boxA b2 5 33 (.agg #[.int .i64 0, .int .i64 0, .int .i64 0, .int .i64 0, .int .i64 0]), boxA b1 1 25 (.agg #[.slice none 0 0])]) _) := ⟨HS.out⟩
 refine wl_mv HF rfl rfl rfl rfl rfl ?_; clear HF a; intro a HF
 refine wl_y rfl HF rfl rfl (yl_extract rfl (HF.ev rfl) rfl) ?_; clear HF a; intro a HF
 refine wl_y rfl HF rfl rfl (yl_extract rfl (HF.ev rfl) rfl) ?_; clear HF a; intro a HF
 refine wl_alloc rfl HF rfl rfl rfl (Z := [.slice none 0 0]) (by kernel_rfl) rfl HS.out ?_; clear HF HS a; intro a w5 b3 HF HS; replace HS := Bx.mk HS
 refine wl_storeBox rfl HF rfl rfl (HF.ev rfl) (HF.ev rfl) HS.out 0 rfl (cells_lit [.slice ao ps.length co] rfl rfl) (by kernel_rfl) ?_; clear HS; intro w6 HS; replace HS := Bx.mk HS
 have HS : Bx (St w0 ([boxA b3 1 25 (.agg #[.slice ao ps.length co]), rdA rb ab n cb (0 + 2000), holdsA (rdsP ao ps), rowA PtrD.cells 5 33 (.slice ap us.length cu) us, boxA b2 5 33 (.agg #[.int .i64 0, .int .i64 0, .int .i64 0, .int .i64 0, .int .i64 0]), boxA b1 1 25 (.agg #[.slice none 0 0])]) _) := HS
 refine wl_as HF rfl rfl rfl rfl rfl ?_; clear HF a; intro a HF
 refine wl_ne ?_
 refine wp_seq ?_
 refine wr_marked (W := w0) (s := [boxA b3 1 25 (.agg #[.slice ao ps.length co]), holdsA (rdsP ao ps), boxA b2 5 33 (.agg #[.int .i64 0, .int .i64 0, .int .i64 0, .int .i64 0, .int .i64 0]), boxA b1 1 25 (.agg #[.slice none 0 0])]) 4 (by kernel_rfl) ?_
 have HS2 := Bx.mk HS.out.drew; replace HS := Bx.mk (show St w0 ([boxA b3 1 25 (.agg #[.slice ao ps.length co]), holdsA (rdsP ao ps), boxA b2 5 33 (.agg #[.int .i64 0, .int .i64 0, .int .i64 0, .int .i64 0, .int .i64 0]), boxA b1 1 25 (.agg #[.slice none 0 0])]) _ from ((HS.out.drew.erase 3).erase 1)); generalize World.drew _ = w7 at HS HS2 ⊢
 refine wm_y 0 rfl (by kernel_rfl) (by kernel_rfl) (by kernel_rfl) (fun _ _ _ h => h) (by decide) (by kernel_rfl) (by kernel_rfl) rfl HF rfl rfl (fun _ HS => (yl_loadR (cs := [.slice ao ps.length co]) rfl (HF.ev rfl) ((HS.box 0 rfl).sub 0 1) (by kernel_rfl))) HS.out ?_; clear HF a; intro a HF
 refine wm_t 1 rfl (by kernel_rfl) (by kernel_rfl) (by kernel_rfl) (fun _ _ _ h => h) (by decide) rfl HF rfl rfl (fun _ _ => (yl_move rfl (HF.ev rfl))) (fun _ => HS.out) ?_; clear HF a; intro a HF
 refine wm_t 2 rfl (by kernel_rfl) (by kernel_rfl) (by kernel_rfl) (fun _ _ _ h => h) (by decide) rfl HF rfl rfl (fun _ _ => (yl_move rfl (HF.ev rfl))) (fun _ => HS.out) ?_; clear HF a; intro a HF
 refine wm_one 3 (by kernel_rfl) ?_
 replace HS2 : Bx (St w0 ([rdA rb ab n cb (0 + 2000), rowA PtrD.cells 5 33 (.slice ap us.length cu) us, boxA b3 1 25 (.agg #[.slice ao ps.length co]), holdsA (rdsP ao ps), boxA b2 5 33 (.agg #[.int .i64 0, .int .i64 0, .int .i64 0, .int .i64 0, .int .i64 0]), boxA b1 1 25 (.agg #[.slice none 0 0])]) _) := ⟨((HS2.out).pick 3 rfl).pick 2 rfl⟩
 refine wo_call rfl rfl HF rfl (enter_of Try.func100 (by kernel_rfl) rfl) (args := #[.pointer (some ⟨rb, 0, none⟩), .slice ap us.length cu]) rfl (l91Of_any w0 _ rb ab n cb bs hn hR (0 + 2000) (by omega) _ _ us (by omega) _ HS2.out) rfl rfl ?_
 rintro _ w8 ⟨pd, rfl, hs1⟩
 refine ⟨_, rfl, ?_⟩; replace HS2 := Bx.mk hs1; clear hs1 HF; clear a; intro a HF
 replace HS2 : Bx (St w0 ([rdA rb ab n cb (0 + 2000 + 110), rowA PtrD.cells 5 33 (.slice ap us.length cu) us, boxA b3 1 25 (.agg #[.slice ao ps.length co]), holdsA (rdsP ao ps), boxA b2 5 33 (.agg #[.int .i64 0, .int .i64 0, .int .i64 0, .int .i64 0, .int .i64 0]), boxA b1 1 25 (.agg #[.slice none 0 0])]) _) := ⟨HS2.out⟩
 clear HS; have HS : Bx (St w0 ([boxA b3 1 25 (.agg #[.slice ao ps.length co]), holdsA (rdsP ao ps), boxA b2 5 33 (.agg #[.int .i64 0, .int .i64 0, .int .i64 0, .int .i64 0, .int .i64 0]), boxA b1 1 25 (.agg #[.slice none 0 0])]) _) := ⟨((HS2.out.erase 1).erase 0)⟩
 refine ⟨fun _ => HS.out, ?_⟩
 refine wm_one 4 (by kernel_rfl) ?_
 refine wo_storeBox rfl rfl rfl rfl (HF.ev rfl) (HF.ev rfl) HS2.out 5 rfl (cells_lit [.slice ao ps.length co] rfl rfl) (by kernel_rfl) ?_
 clear HS2; intro w9 HS2; replace HS2 : Bx (St w0 ([rdA rb ab n cb (0 + 2000 + 110), rowA PtrD.cells 5 33 (.slice ap us.length cu) us, boxA b3 1 25 (.agg #[.slice ao ps.length co]), holdsA (rdsP ao ps), boxA b2 5 33 (.agg #[.int .i64 0, .int .i64 0, .int .i64 0, .int .i64 0, .int .i64 0]), boxA b1 1 25 (.agg #[.slice ao ps.length co])]) _) := ⟨HS2⟩; refine ⟨(fun h => absurd (show true = false from h) (by decide)), ?_⟩
 refine wm_one 5 (by kernel_rfl) ?_
 refine wo_storeBox rfl rfl rfl rfl (HF.ev rfl) (HF.ev rfl) HS2.out 4 rfl (cells_lit [.int .i64 pd.fAt, .int .i64 pd.fBirth, .int .i64 pd.fSize, .int .i64 pd.fSum, .int .i64 pd.fLevel] rfl rfl) (by kernel_rfl) ?_
 clear HS2; intro w10 HS2; replace HS2 : Bx (St w0 ([rdA rb ab n cb (0 + 2000 + 110), rowA PtrD.cells 5 33 (.slice ap us.length cu) us, boxA b3 1 25 (.agg #[.slice ao ps.length co]), holdsA (rdsP ao ps), boxA b2 5 33 (.agg #[.int .i64 pd.fAt, .int .i64 pd.fBirth, .int .i64 pd.fSize, .int .i64 pd.fSum, .int .i64 pd.fLevel]), boxA b1 1 25 (.agg #[.slice ao ps.length co])]) _) := ⟨HS2⟩; refine ⟨(fun h => absurd (show true = false from h) (by decide)), ?_⟩
 refine wm_done (by kernel_rfl) ?_
 clear HS; have HS := HS2; clear HS2
 refine ex_then ?_
 refine wp_ret ?_
 refine bp_ret2 HF Try.results32 (HF.resBox rfl (HS.out.box 5 rfl) (by kernel_rfl)) (HF.resBox rfl (HS.out.box 4 rfl) (by kernel_rfl)) ?_
 replace HS : Bx (St w0 ([holdsA (rdsP ao ps), rdA rb ab n cb (0 + 2000 + 110), rowA PtrD.cells 5 33 (.slice ap us.length cu) us, boxA b3 1 25 (.agg #[.slice ao ps.length co]), boxA b2 5 33 (.agg #[.int .i64 pd.fAt, .int .i64 pd.fBirth, .int .i64 pd.fSize, .int .i64 pd.fSum, .int .i64 pd.fLevel]), boxA b1 1 25 (.agg #[.slice ao ps.length co])]) _) := ⟨(HS.out).pick 3 rfl⟩
 exact ⟨ao, co, ps, pd, rfl, hpl, hpf, (((((HS.out.erase 5).erase 4).erase 3).erase 2).erase 1)⟩

end Go.Proofs.Ytfijfjjleelphaa

/- FnRaidHeal: the law, walked. -/
namespace Go.Proofs.Ytfijfjjleelphaa
set_option maxHeartbeats 1000000
set_option maxRecDepth 100000
open Go.RowKit

theorem raid_holdG {W w : World} {F : List Asr} {ao : Option Addr} {c n : Nat} {ps : List HD} (hn : n = ps.length) (h : St W (rowA HD.cells 3 44 (.slice ao n c) ps :: sepA (ps.map HD.asr) :: F) w) : St W (holdsA (rdsP ao ps) :: F) w := by
  subst hn
  exact ((St.join (r := [_, _]) (s := F)).1 h).hold (sep2 (fun w f h => row_reads HD.cells_len h) (fun w f h => hds_allP h) fun w h1 h2 => ⟨h1, h2⟩)
theorem heal_three {es : List DiskD} {qs : List HD} {p : PtrD} {nn : Nat} (h : healF (dsOf qs) p = some (es, nn)) : qs.length = 3 := by
  unfold healF at h
  cases hok : okR (dsOf qs)
  · rw [hok] at h; cases h
  · rw [← dsOf_len]; exact (okR_at hok).1
def fitsD (ds : List DiskD) : Prop := ∀ d, d ∈ ds → d.fits
theorem fitsL_of {ps : List HD} (h : fitsD (dsOf ps)) : fitsL ps := fun p hp => h p.d (List.mem_map_of_mem hp)
theorem fitsL_d {ps : List HD} (h : fitsL ps) : fitsD (dsOf ps) := fun d hd => by
  obtain ⟨p, hp, rfl⟩ := List.mem_map.1 hd
  exact h p hp
theorem fitsD_set {ds : List DiskD} (h : fitsD ds) {d : DiskD} (hd : d.fits) {i : Nat} : fitsD (ds.set i d) := fun x hx => (List.mem_or_eq_of_mem_set hx).elim (h x) fun e => by rw [e]; exact hd
theorem ok_fits {d : DiskD} (h : d.ok = true) : d.fits := by
  unfold DiskD.ok at h
  simp only [Bool.and_eq_true, decide_eq_true_eq] at h
  obtain ⟨h1, h2, _, h4, h5⟩ := h
  refine ⟨by omega, by omega, fun k => ?_, fun k => ?_⟩
  · by_cases hk : k < d.fCells.length
    · have := allB_at h4 hk
      unfold cellB at this
      simp only [Bool.and_eq_true, decide_eq_true_eq] at this
      omega
    · rw [show d.fCells.getD k ByteArray.empty = ByteArray.empty by simp [List.getD, List.getElem?_eq_none (Nat.le_of_not_lt hk)]]; exact Nat.zero_le _
  · by_cases hk : k < d.fWaits.length
    · have := allB_at h5 hk
      unfold waitB at this
      simp only [Bool.and_eq_true, decide_eq_true_eq] at this
      omega
    · rw [show d.fWaits.getD k default = default by simp [List.getD, List.getElem?_eq_none (Nat.le_of_not_lt hk)]]; exact Nat.zero_le _
theorem okR_fits {ps : List HD} (h : okR (dsOf ps) = true) : fitsL ps := fitsL_of fun d hd => by
  obtain ⟨h1, h2⟩ := okR_at h
  obtain ⟨k, hk, rfl⟩ := List.mem_iff_getElem.1 hd
  have := h2 k (by omega)
  rw [getD_get hk] at this
  exact ok_fits this
theorem fits_heal {ps qs : List HD} {p : PtrD} {nn : Nat} (h : healF (dsOf ps) p = some (dsOf qs, nn)) (_hf : fitsL ps) : fitsL qs := by
  obtain ⟨_, _, _, _, _, hok, _⟩ := heal_law h
  exact okR_fits hok

theorem fnRaidHeal_walk (w0 : World) (ab : Option Addr) (n0 cb : Nat) (bs : List UInt8) (hcap : n0 ≤ cb) (hR : Rd encB 1 w0 ab n0 bs) : Calls Try.prog 7 #[.slice ab n0 cb] w0 fun e w' => e = .returned (.bool true) ∧ Below w0.heap.size w0 w' := by
 have HS := Bx.mk (St.start w0)
 refine wc_enter Try.func7 rfl Try.ntmps7 [(0, .slice ab n0 cb)] ⟨rfl, trivial⟩ rfl ?_; intro a HF
 refine wp_sr ?_
 refine wl_as HF rfl rfl rfl rfl rfl ?_; clear HF a; intro a HF
 refine wl_ne ?_
 refine wp_seq ?_
 refine wp_sr ?_
 refine wl_mv HF rfl rfl rfl rfl rfl ?_; clear HF a; intro a HF
 refine wl_y rfl HF rfl rfl (yl_lenL (e := 5) (size := 1) rfl (HF.ev rfl) (by kernel_rfl)) ?_; clear HF a; intro a HF
 refine wl_y rfl HF rfl rfl (yl_gtrI rfl (HF.ev rfl) (HF.ev rfl)) ?_; clear HF a; intro a HF
 refine wl_ne ?_
 refine HF.cases 26 rfl (fun cc1 HF1 => ?_) (fun cc1 HF1 => ?_)
 ·clear HF; have HF := HF1; clear HF1
  have dcc1 := of_decide_eq_true cc1
  refine wc_true HF rfl ?_
  refine wp_sr ?_
  refine wl_as HF rfl rfl rfl rfl rfl ?_; clear HF a; intro a HF
  refine wl_ne ?_
  refine wp_ret ?_
  refine ex_then_ret ?_
  refine bp_ret1 HF Try.results7 (HF.res rfl) ?_
  exact ⟨rfl, HS.out.bel⟩
 ·clear HF; have HF := HF1; clear HF1
  have dcc1 := of_decide_eq_false cc1
  refine wc_false HF rfl ?_
  refine wp_skip ?_
  refine ex_then ?_
  refine wp_sr ?_
  refine wl_mv HF rfl rfl rfl rfl rfl ?_; clear HF a; intro a HF
  refine wl_call rfl HF rfl (enter_of Try.func32 (by kernel_rfl) rfl) (args := #[.slice ab n0 cb]) rfl (drawRaidHeal_any _ ab n0 cb bs hcap (by omega) (hR.below HS.out.bel)) rfl rfl ?_
  rintro _ w1 ⟨ao, co, ps, p, rfl, hpl, hpf, hs⟩
  refine ⟨_, rfl, ?_⟩; replace HS := Bx.mk (HS.out.add hs); clear hs HF; clear a; intro a HF
  replace HS : Bx (St w0 ([holdsA (rdsP ao ps)]) _) := ⟨HS.out⟩
  refine wl_mv HF rfl rfl rfl rfl rfl ?_; clear HF a; intro a HF
  refine wl_y rfl HF rfl rfl (yl_extract rfl (HF.ev rfl) rfl) ?_; clear HF a; intro a HF
  refine wl_y rfl HF rfl rfl (yl_extract rfl (HF.ev rfl) rfl) ?_; clear HF a; intro a HF
  refine wl_alloc rfl HF rfl rfl rfl (Z := [.slice none 0 0]) (by kernel_rfl) rfl HS.out ?_; clear HF HS a; intro a w2 b2 HF HS; replace HS := Bx.mk HS
  refine wl_alloc rfl HF rfl rfl rfl (Z := [.int .i64 0, .int .i64 0, .int .i64 0, .int .i64 0, .int .i64 0]) (by kernel_rfl) rfl HS.out ?_; clear HF HS a; intro a w3 b3 HF HS; replace HS := Bx.mk HS
  refine wl_storeBox rfl HF rfl rfl (HF.ev rfl) (HF.ev rfl) HS.out 1 rfl (cells_lit [.slice ao ps.length co] rfl rfl) (by kernel_rfl) ?_; clear HS; intro w4 HS; replace HS := Bx.mk HS
  have HS : Bx (St w0 ([boxA b3 5 33 (.agg #[.int .i64 0, .int .i64 0, .int .i64 0, .int .i64 0, .int .i64 0]), boxA b2 1 25 (.agg #[.slice ao ps.length co]), holdsA (rdsP ao ps)]) _) := HS
  refine wl_storeBox rfl HF rfl rfl (HF.ev rfl) (HF.ev rfl) HS.out 0 rfl (cells_lit [.int .i64 p.fAt, .int .i64 p.fBirth, .int .i64 p.fSize, .int .i64 p.fSum, .int .i64 p.fLevel] rfl rfl) (by kernel_rfl) ?_; clear HS; intro w5 HS; replace HS := Bx.mk HS
  have HS : Bx (St w0 ([boxA b3 5 33 (.agg #[.int .i64 p.fAt, .int .i64 p.fBirth, .int .i64 p.fSize, .int .i64 p.fSum, .int .i64 p.fLevel]), boxA b2 1 25 (.agg #[.slice ao ps.length co]), holdsA (rdsP ao ps)]) _) := HS
  refine wl_ne ?_
  refine wp_sr ?_
  refine wl_y rfl HF rfl rfl (yl_loadR (cs := [.slice ao ps.length co]) rfl (HF.ev rfl) ((HS.out.box 1 rfl).sub 0 1) (by kernel_rfl)) ?_; clear HF a; intro a HF
  refine wl_y rfl HF rfl rfl (yl_loadR (cs := [.int .i64 p.fAt, .int .i64 p.fBirth, .int .i64 p.fSize, .int .i64 p.fSum, .int .i64 p.fLevel]) rfl (HF.ev rfl) ((HS.out.box 0 rfl).sub 0 5) (by kernel_rfl)) ?_; clear HF a; intro a HF
  refine wl_call rfl HF rfl (enter_of Try.func21 (by kernel_rfl) rfl) (args := #[.agg #[.slice ao ps.length co], .agg #[.int .i64 p.fAt, .int .i64 p.fBirth, .int .i64 p.fSize, .int .i64 p.fSum, .int .i64 p.fLevel]]) rfl (implRaidHeal_any ao co ps _ (by omega) hpf.at (HS.out.holds 2 rfl).1 (HS.out.holds 2 rfl).at p) rfl rfl ?_
  rintro _ w6 (⟨hev, rfl, hs⟩ | ⟨ao1, cp1, qs1, nn, hev, rfl, hs⟩)
  ·skip
   refine ⟨_, rfl, ?_⟩; replace HS := Bx.mk (HS.out.add hs); clear hs HF; clear a; intro a HF
   replace HS : Bx (St w0 ([boxA b3 5 33 (.agg #[.int .i64 p.fAt, .int .i64 p.fBirth, .int .i64 p.fSize, .int .i64 p.fSum, .int .i64 p.fLevel]), boxA b2 1 25 (.agg #[.slice ao ps.length co]), holdsA (rdsP ao ps)]) _) := ⟨HS.out⟩
   refine wl_mv HF rfl rfl rfl rfl rfl ?_; clear HF a; intro a HF
   refine wl_y rfl HF rfl rfl (yl_extract rfl (HF.ev rfl) rfl) ?_; clear HF a; intro a HF
   refine wl_y rfl HF rfl rfl (yl_extract rfl (HF.ev rfl) rfl) ?_; clear HF a; intro a HF
   refine wl_y rfl HF rfl rfl (yl_extract rfl (HF.ev rfl) rfl) ?_; clear HF a; intro a HF
   refine wl_alloc rfl HF rfl rfl rfl (Z := [.slice none 0 0]) (by kernel_rfl) rfl HS.out ?_; clear HF HS a; intro a w7 b5 HF HS; replace HS := Bx.mk HS
   refine wl_storeBox rfl HF rfl rfl (HF.ev rfl) (HF.ev rfl) HS.out 0 rfl (cells_lit [.slice none 0 0] rfl rfl) (by kernel_rfl) ?_; clear HS; intro w8 HS; replace HS := Bx.mk HS
   have HS : Bx (St w0 ([boxA b5 1 25 (.agg #[.slice none 0 0]), boxA b3 5 33 (.agg #[.int .i64 p.fAt, .int .i64 p.fBirth, .int .i64 p.fSize, .int .i64 p.fSum, .int .i64 p.fLevel]), boxA b2 1 25 (.agg #[.slice ao ps.length co]), holdsA (rdsP ao ps)]) _) := HS
   refine wl_as HF rfl rfl rfl rfl rfl ?_; clear HF a; intro a HF
   refine wl_as HF rfl rfl rfl rfl rfl ?_; clear HF a; intro a HF
   refine wl_ne ?_
   refine wp_sr ?_
   refine wl_y rfl HF rfl rfl (yl_loadR (cs := [.slice ao ps.length co]) rfl (HF.ev rfl) ((HS.out.box 2 rfl).sub 0 1) (by kernel_rfl)) ?_; clear HF a; intro a HF
   refine wl_y rfl HF rfl rfl (yl_loadR (cs := [.int .i64 p.fAt, .int .i64 p.fBirth, .int .i64 p.fSize, .int .i64 p.fSum, .int .i64 p.fLevel]) rfl (HF.ev rfl) ((HS.out.box 1 rfl).sub 0 5) (by kernel_rfl)) ?_; clear HF a; intro a HF
   refine wl_call rfl HF rfl (enter_of Try.func33 (by kernel_rfl) rfl) (args := #[.agg #[.slice ao ps.length co], .agg #[.int .i64 p.fAt, .int .i64 p.fBirth, .int .i64 p.fSize, .int .i64 p.fSum, .int .i64 p.fLevel]]) rfl (specRaidHeal_any ao co ps _ (by omega) hpf.at (HS.out.holds 3 rfl).1 (HS.out.holds 3 rfl).at p) rfl rfl ?_
   rintro _ w9 (⟨hev2, rfl, hs⟩ | ⟨ao2, cp2, qs2, nn2, hev2, rfl, hs⟩)
   ·skip
    refine ⟨_, rfl, ?_⟩; replace HS := Bx.mk (HS.out.add hs); clear hs HF; clear a; intro a HF
    replace HS : Bx (St w0 ([boxA b5 1 25 (.agg #[.slice none 0 0]), boxA b3 5 33 (.agg #[.int .i64 p.fAt, .int .i64 p.fBirth, .int .i64 p.fSize, .int .i64 p.fSum, .int .i64 p.fLevel]), boxA b2 1 25 (.agg #[.slice ao ps.length co]), holdsA (rdsP ao ps)]) _) := ⟨HS.out⟩
    refine wl_mv HF rfl rfl rfl rfl rfl ?_; clear HF a; intro a HF
    refine wl_y rfl HF rfl rfl (yl_extract rfl (HF.ev rfl) rfl) ?_; clear HF a; intro a HF
    refine wl_y rfl HF rfl rfl (yl_extract rfl (HF.ev rfl) rfl) ?_; clear HF a; intro a HF
    refine wl_y rfl HF rfl rfl (yl_extract rfl (HF.ev rfl) rfl) ?_; clear HF a; intro a HF
    refine wl_alloc rfl HF rfl rfl rfl (Z := [.slice none 0 0]) (by kernel_rfl) rfl HS.out ?_; clear HF HS a; intro a w10 b7 HF HS; replace HS := Bx.mk HS
    refine wl_storeBox rfl HF rfl rfl (HF.ev rfl) (HF.ev rfl) HS.out 0 rfl (cells_lit [.slice none 0 0] rfl rfl) (by kernel_rfl) ?_; clear HS; intro w11 HS; replace HS := Bx.mk HS
    have HS : Bx (St w0 ([boxA b7 1 25 (.agg #[.slice none 0 0]), boxA b5 1 25 (.agg #[.slice none 0 0]), boxA b3 5 33 (.agg #[.int .i64 p.fAt, .int .i64 p.fBirth, .int .i64 p.fSize, .int .i64 p.fSum, .int .i64 p.fLevel]), boxA b2 1 25 (.agg #[.slice ao ps.length co]), holdsA (rdsP ao ps)]) _) := HS
    refine wl_as HF rfl rfl rfl rfl rfl ?_; clear HF a; intro a HF
    refine wl_as HF rfl rfl rfl rfl rfl ?_; clear HF a; intro a HF
    refine wl_ne ?_
    refine wp_sr ?_
    refine wl_y rfl HF rfl rfl (yl_loadR (cs := [.slice none 0 0]) rfl (HF.ev rfl) ((HS.out.box 1 rfl).sub 0 1) (by kernel_rfl)) ?_; clear HF a; intro a HF
    refine wl_y rfl HF rfl rfl (yl_loadR (cs := [.slice none 0 0]) rfl (HF.ev rfl) ((HS.out.box 0 rfl).sub 0 1) (by kernel_rfl)) ?_; clear HF a; intro a HF
    refine wl_callB rfl HF rfl (enter_of Try.func12 (by kernel_rfl) rfl) (args := #[.agg #[.slice none 0 0], .agg #[.slice none 0 0]]) rfl (v := .bool true) ((pfRaid_yes none none 0 0 0 [] [] rfl rfl _ (by decide) fitsL_nil (rds_nil _) (rds_nil _))) rfl rfl HS.out ?_; clear HF HS a; intro w12 a HS HF; replace HS := Bx.mk HS
    refine wl_mv HF rfl rfl rfl rfl rfl ?_; clear HF a; intro a HF
    refine wl_yg HF rfl rfl rfl rfl rfl (yl_move rfl (HF.ev rfl)) ?_; clear HF a; intro a HF
    refine wl_yg HF rfl rfl rfl rfl rfl (yl_move rfl (HF.ev rfl)) ?_; clear HF a; intro a HF
    refine wl_yg HF rfl rfl rfl rfl rfl (yl_eqlI rfl (HF.ev rfl) (HF.ev rfl)) ?_; clear HF a; intro a HF
    refine wl_y rfl HF rfl rfl (yl_pick_t rfl (HF.ev rfl) (HF.ev rfl)) ?_; clear HF a; intro a HF
    refine wl_mv HF rfl rfl rfl rfl rfl ?_; clear HF a; intro a HF
    replace HF := HF.know (k := 54) (c := true) rfl (by decide)
    refine wl_yg HF rfl rfl rfl rfl rfl (yl_move rfl (HF.ev rfl)) ?_; clear HF a; intro a HF
    refine wl_yg HF rfl rfl rfl rfl rfl (yl_move rfl (HF.ev rfl)) ?_; clear HF a; intro a HF
    refine wl_yg HF rfl rfl rfl rfl rfl (yl_eqlBs rfl (HF.ev rfl) (HF.ev rfl) (by kernel_rfl)) ?_; clear HF a; intro a HF
    refine wl_y rfl HF rfl rfl (yl_pick_t rfl (HF.ev rfl) (HF.ev rfl)) ?_; clear HF a; intro a HF
    refine wl_as HF rfl rfl rfl rfl rfl ?_; clear HF a; intro a HF
    refine wl_ne ?_
    refine wp_seq ?_
    refine wp_sr ?_
    refine wl_mv HF rfl rfl rfl rfl rfl ?_; clear HF a; intro a HF
    refine wl_y rfl HF rfl rfl (yl_not rfl (HF.ev rfl)) ?_; clear HF a; intro a HF
    refine wl_mv HF rfl rfl rfl rfl rfl ?_; clear HF a; intro a HF
    refine wl_yg HF rfl rfl rfl rfl rfl (yl_move rfl (HF.ev rfl)) ?_; clear HF a; intro a HF
    refine wl_yg HF rfl rfl rfl rfl rfl (yl_not rfl (HF.ev rfl)) ?_; clear HF a; intro a HF
    refine wl_y rfl HF rfl rfl (yl_pick_f rfl (HF.ev rfl) (HF.ev rfl)) ?_; clear HF a; intro a HF
    refine wl_ne ?_
    refine wc_true HF rfl ?_
    refine wp_sr ?_
    refine wl_mv HF rfl rfl rfl rfl rfl ?_; clear HF a; intro a HF
    refine wl_as HF rfl rfl rfl rfl rfl ?_; clear HF a; intro a HF
    refine wl_ne ?_
    refine wp_ret ?_
    refine ex_then_ret ?_
    refine bp_ret1 HF Try.results7 (HF.res rfl) ?_
    exact ⟨rfl, HS.out.bel⟩
   ·skip
    exact absurd (hev2.symm.trans hev) (by simp)
  ·skip
   obtain ⟨tx, hr0, hr1, hh1, hnn, hok1, hl1, hlo, hls⟩ := heal_law hev; rw [dsOf_len] at hl1; have hf1 : fitsL qs1 := fits_heal hev hpf
   have hl0 : ps.length = 3 := heal_three hev
   refine ⟨_, rfl, ?_⟩; replace HS := Bx.mk (HS.out.add (raid_holdG rfl hs)); clear hs HF; clear a; intro a HF
   replace HS : Bx (St w0 ([holdsA (rdsP ao1 qs1), boxA b3 5 33 (.agg #[.int .i64 p.fAt, .int .i64 p.fBirth, .int .i64 p.fSize, .int .i64 p.fSum, .int .i64 p.fLevel]), boxA b2 1 25 (.agg #[.slice ao ps.length co]), holdsA (rdsP ao ps)]) _) := ⟨HS.out⟩
   refine wl_mv HF rfl rfl rfl rfl rfl ?_; clear HF a; intro a HF
   refine wl_y rfl HF rfl rfl (yl_extract rfl (HF.ev rfl) rfl) ?_; clear HF a; intro a HF
   refine wl_y rfl HF rfl rfl (yl_extract rfl (HF.ev rfl) rfl) ?_; clear HF a; intro a HF
   refine wl_y rfl HF rfl rfl (yl_extract rfl (HF.ev rfl) rfl) ?_; clear HF a; intro a HF
   refine wl_alloc rfl HF rfl rfl rfl (Z := [.slice none 0 0]) (by kernel_rfl) rfl HS.out ?_; clear HF HS a; intro a w13 b8 HF HS; replace HS := Bx.mk HS
   refine wl_storeBox rfl HF rfl rfl (HF.ev rfl) (HF.ev rfl) HS.out 0 rfl (cells_lit [.slice ao1 qs1.length cp1] rfl rfl) (by kernel_rfl) ?_; clear HS; intro w14 HS; replace HS := Bx.mk HS
   have HS : Bx (St w0 ([boxA b8 1 25 (.agg #[.slice ao1 qs1.length cp1]), holdsA (rdsP ao1 qs1), boxA b3 5 33 (.agg #[.int .i64 p.fAt, .int .i64 p.fBirth, .int .i64 p.fSize, .int .i64 p.fSum, .int .i64 p.fLevel]), boxA b2 1 25 (.agg #[.slice ao ps.length co]), holdsA (rdsP ao ps)]) _) := HS
   refine wl_as HF rfl rfl rfl rfl rfl ?_; clear HF a; intro a HF
   refine wl_as HF rfl rfl rfl rfl rfl ?_; clear HF a; intro a HF
   refine wl_ne ?_
   refine wp_sr ?_
   refine wl_y rfl HF rfl rfl (yl_loadR (cs := [.slice ao ps.length co]) rfl (HF.ev rfl) ((HS.out.box 3 rfl).sub 0 1) (by kernel_rfl)) ?_; clear HF a; intro a HF
   refine wl_y rfl HF rfl rfl (yl_loadR (cs := [.int .i64 p.fAt, .int .i64 p.fBirth, .int .i64 p.fSize, .int .i64 p.fSum, .int .i64 p.fLevel]) rfl (HF.ev rfl) ((HS.out.box 2 rfl).sub 0 5) (by kernel_rfl)) ?_; clear HF a; intro a HF
   refine wl_call rfl HF rfl (enter_of Try.func33 (by kernel_rfl) rfl) (args := #[.agg #[.slice ao ps.length co], .agg #[.int .i64 p.fAt, .int .i64 p.fBirth, .int .i64 p.fSize, .int .i64 p.fSum, .int .i64 p.fLevel]]) rfl (specRaidHeal_any ao co ps _ (by omega) hpf.at (HS.out.holds 4 rfl).1 (HS.out.holds 4 rfl).at p) rfl rfl ?_
   rintro _ w15 (⟨hev2, rfl, hs⟩ | ⟨ao2, cp2, qs2, nn2, hev2, rfl, hs⟩)
   ·skip
    exact absurd (hev2.symm.trans hev) (by simp)
   ·skip
    obtain ⟨hq2, hn2⟩ := Prod.mk.inj (Option.some.inj (hev2.symm.trans hev)); replace hn2 := hn2.symm; subst hn2
    refine ⟨_, rfl, ?_⟩; replace HS := Bx.mk (HS.out.add (raid_holdG rfl hs)); clear hs HF; clear a; intro a HF
    replace HS : Bx (St w0 ([holdsA (rdsP ao2 qs2), boxA b8 1 25 (.agg #[.slice ao1 qs1.length cp1]), holdsA (rdsP ao1 qs1), boxA b3 5 33 (.agg #[.int .i64 p.fAt, .int .i64 p.fBirth, .int .i64 p.fSize, .int .i64 p.fSum, .int .i64 p.fLevel]), boxA b2 1 25 (.agg #[.slice ao ps.length co]), holdsA (rdsP ao ps)]) _) := ⟨HS.out⟩
    refine wl_mv HF rfl rfl rfl rfl rfl ?_; clear HF a; intro a HF
    refine wl_y rfl HF rfl rfl (yl_extract rfl (HF.ev rfl) rfl) ?_; clear HF a; intro a HF
    refine wl_y rfl HF rfl rfl (yl_extract rfl (HF.ev rfl) rfl) ?_; clear HF a; intro a HF
    refine wl_y rfl HF rfl rfl (yl_extract rfl (HF.ev rfl) rfl) ?_; clear HF a; intro a HF
    refine wl_alloc rfl HF rfl rfl rfl (Z := [.slice none 0 0]) (by kernel_rfl) rfl HS.out ?_; clear HF HS a; intro a w16 b10 HF HS; replace HS := Bx.mk HS
    refine wl_storeBox rfl HF rfl rfl (HF.ev rfl) (HF.ev rfl) HS.out 0 rfl (cells_lit [.slice ao2 qs2.length cp2] rfl rfl) (by kernel_rfl) ?_; clear HS; intro w17 HS; replace HS := Bx.mk HS
    have HS : Bx (St w0 ([boxA b10 1 25 (.agg #[.slice ao2 qs2.length cp2]), holdsA (rdsP ao2 qs2), boxA b8 1 25 (.agg #[.slice ao1 qs1.length cp1]), holdsA (rdsP ao1 qs1), boxA b3 5 33 (.agg #[.int .i64 p.fAt, .int .i64 p.fBirth, .int .i64 p.fSize, .int .i64 p.fSum, .int .i64 p.fLevel]), boxA b2 1 25 (.agg #[.slice ao ps.length co]), holdsA (rdsP ao ps)]) _) := HS
    refine wl_as HF rfl rfl rfl rfl rfl ?_; clear HF a; intro a HF
    refine wl_as HF rfl rfl rfl rfl rfl ?_; clear HF a; intro a HF
    refine wl_ne ?_
    refine wp_sr ?_
    refine wl_y rfl HF rfl rfl (yl_loadR (cs := [.slice ao1 qs1.length cp1]) rfl (HF.ev rfl) ((HS.out.box 2 rfl).sub 0 1) (by kernel_rfl)) ?_; clear HF a; intro a HF
    refine wl_y rfl HF rfl rfl (yl_loadR (cs := [.slice ao2 qs2.length cp2]) rfl (HF.ev rfl) ((HS.out.box 0 rfl).sub 0 1) (by kernel_rfl)) ?_; clear HF a; intro a HF
    refine wl_callB rfl HF rfl (enter_of Try.func12 (by kernel_rfl) rfl) (args := #[.agg #[.slice ao1 qs1.length cp1], .agg #[.slice ao2 qs2.length cp2]]) rfl (v := .bool true) ((pfRaid_yes ao1 ao2 cp1 cp2 _ qs1 qs2 rfl hq2 _ (by omega) hf1 (HS.out.holds 3 rfl) (HS.out.holds 1 rfl))) rfl rfl HS.out ?_; clear HF HS a; intro w18 a HS HF; replace HS := Bx.mk HS
    refine wl_mv HF rfl rfl rfl rfl rfl ?_; clear HF a; intro a HF
    refine wl_yg HF rfl rfl rfl rfl rfl (yl_move rfl (HF.ev rfl)) ?_; clear HF a; intro a HF
    refine wl_yg HF rfl rfl rfl rfl rfl (yl_move rfl (HF.ev rfl)) ?_; clear HF a; intro a HF
    refine wl_yg HF rfl rfl rfl rfl rfl (yl_eqlI rfl (HF.ev rfl) (HF.ev rfl)) ?_; clear HF a; intro a HF
    refine wl_y rfl HF rfl rfl (yl_pick_t rfl (HF.ev rfl) (HF.ev rfl)) ?_; clear HF a; intro a HF
    refine wl_mv HF rfl rfl rfl rfl rfl ?_; clear HF a; intro a HF
    refine HF.cases 54 rfl (fun cc2 HF1 => ?_) (fun cc2 HF1 => ?_)
    ·clear HF; have HF := HF1; clear HF1
     have dcc2 := eq_of_beq cc2
     refine wl_yg HF rfl rfl rfl rfl rfl (yl_move rfl (HF.ev rfl)) ?_; clear HF a; intro a HF
     refine wl_yg HF rfl rfl rfl rfl rfl (yl_move rfl (HF.ev rfl)) ?_; clear HF a; intro a HF
     refine wl_yg HF rfl rfl rfl rfl rfl (yl_eqlBs rfl (HF.ev rfl) (HF.ev rfl) (by kernel_rfl)) ?_; clear HF a; intro a HF
     refine wl_y rfl HF rfl rfl (yl_pick_t rfl (HF.ev rfl) (HF.ev rfl)) ?_; clear HF a; intro a HF
     refine wl_as HF rfl rfl rfl rfl rfl ?_; clear HF a; intro a HF
     refine wl_ne ?_
     refine wp_seq ?_
     refine wp_sr ?_
     refine wl_mv HF rfl rfl rfl rfl rfl ?_; clear HF a; intro a HF
     refine wl_y rfl HF rfl rfl (yl_not rfl (HF.ev rfl)) ?_; clear HF a; intro a HF
     refine wl_mv HF rfl rfl rfl rfl rfl ?_; clear HF a; intro a HF
     refine wl_yg HF rfl rfl rfl rfl rfl (yl_move rfl (HF.ev rfl)) ?_; clear HF a; intro a HF
     refine wl_yg HF rfl rfl rfl rfl rfl (yl_not rfl (HF.ev rfl)) ?_; clear HF a; intro a HF
     refine wl_y rfl HF rfl rfl (yl_pick_f rfl (HF.ev rfl) (HF.ev rfl)) ?_; clear HF a; intro a HF
     refine wl_ne ?_
     refine wc_false HF rfl ?_
     refine wp_skip ?_
     refine ex_then ?_
     refine wp_sr ?_
     refine wl_y rfl HF rfl rfl (yl_loadR (cs := [.slice ao ps.length co]) rfl (HF.ev rfl) ((HS.out.box 5 rfl).sub 0 1) (by kernel_rfl)) ?_; clear HF a; intro a HF
     refine wl_y rfl HF rfl rfl (yl_loadR (cs := [.int .i64 p.fAt, .int .i64 p.fBirth, .int .i64 p.fSize, .int .i64 p.fSum, .int .i64 p.fLevel]) rfl (HF.ev rfl) ((HS.out.box 4 rfl).sub 0 5) (by kernel_rfl)) ?_; clear HF a; intro a HF
     refine wl_callB rfl HF rfl (enter_of Try.func16 (by kernel_rfl) rfl) (args := #[.agg #[.slice ao ps.length co], .agg #[.int .i64 p.fAt, .int .i64 p.fBirth, .int .i64 p.fSize, .int .i64 p.fSum, .int .i64 p.fLevel]]) rfl (v := .tuple #[.string tx, .bool true]) ((by have := implRaidRead_any ao co ps _ (by omega) hpf.at (HS.out.holds 6 rfl).1 (HS.out.holds 6 rfl).at p; rw [hr0] at this; exact this)) rfl rfl HS.out ?_; clear HF HS a; intro w19 a HS HF; replace HS := Bx.mk HS
     refine wl_mv HF rfl rfl rfl rfl rfl ?_; clear HF a; intro a HF
     refine wl_y rfl HF rfl rfl (yl_extract rfl (HF.ev rfl) rfl) ?_; clear HF a; intro a HF
     refine wl_y rfl HF rfl rfl (yl_extract rfl (HF.ev rfl) rfl) ?_; clear HF a; intro a HF
     refine wl_as HF rfl rfl rfl rfl rfl ?_; clear HF a; intro a HF
     refine wl_as HF rfl rfl rfl rfl rfl ?_; clear HF a; intro a HF
     refine wl_ne ?_
     refine wp_sr ?_
     refine wl_y rfl HF rfl rfl (yl_loadR (cs := [.slice ao1 qs1.length cp1]) rfl (HF.ev rfl) ((HS.out.box 2 rfl).sub 0 1) (by kernel_rfl)) ?_; clear HF a; intro a HF
     refine wl_y rfl HF rfl rfl (yl_loadR (cs := [.int .i64 p.fAt, .int .i64 p.fBirth, .int .i64 p.fSize, .int .i64 p.fSum, .int .i64 p.fLevel]) rfl (HF.ev rfl) ((HS.out.box 4 rfl).sub 0 5) (by kernel_rfl)) ?_; clear HF a; intro a HF
     refine wl_callB rfl HF rfl (enter_of Try.func16 (by kernel_rfl) rfl) (args := #[.agg #[.slice ao1 qs1.length cp1], .agg #[.int .i64 p.fAt, .int .i64 p.fBirth, .int .i64 p.fSize, .int .i64 p.fSum, .int .i64 p.fLevel]]) rfl (v := .tuple #[.string tx, .bool true]) ((by have := implRaidRead_any ao1 cp1 qs1 _ (by omega) hf1.at (HS.out.holds 3 rfl).1 (HS.out.holds 3 rfl).at p; rw [hr1] at this; exact this)) rfl rfl HS.out ?_; clear HF HS a; intro w20 a HS HF; replace HS := Bx.mk HS
     refine wl_mv HF rfl rfl rfl rfl rfl ?_; clear HF a; intro a HF
     refine wl_y rfl HF rfl rfl (yl_extract rfl (HF.ev rfl) rfl) ?_; clear HF a; intro a HF
     refine wl_y rfl HF rfl rfl (yl_extract rfl (HF.ev rfl) rfl) ?_; clear HF a; intro a HF
     refine wl_as HF rfl rfl rfl rfl rfl ?_; clear HF a; intro a HF
     refine wl_as HF rfl rfl rfl rfl rfl ?_; clear HF a; intro a HF
     refine wl_ne ?_
     refine wp_sr ?_
     refine wl_y rfl HF rfl rfl (yl_loadR (cs := [.slice ao1 qs1.length cp1]) rfl (HF.ev rfl) ((HS.out.box 2 rfl).sub 0 1) (by kernel_rfl)) ?_; clear HF a; intro a HF
     refine wl_y rfl HF rfl rfl (yl_loadR (cs := [.int .i64 p.fAt, .int .i64 p.fBirth, .int .i64 p.fSize, .int .i64 p.fSum, .int .i64 p.fLevel]) rfl (HF.ev rfl) ((HS.out.box 4 rfl).sub 0 5) (by kernel_rfl)) ?_; clear HF a; intro a HF
     refine wl_call rfl HF rfl (enter_of Try.func21 (by kernel_rfl) rfl) (args := #[.agg #[.slice ao1 qs1.length cp1], .agg #[.int .i64 p.fAt, .int .i64 p.fBirth, .int .i64 p.fSize, .int .i64 p.fSum, .int .i64 p.fLevel]]) rfl (implRaidHeal_any ao1 cp1 qs1 _ (by omega) hf1.at (HS.out.holds 3 rfl).1 (HS.out.holds 3 rfl).at p) rfl rfl ?_
     rintro _ w21 (⟨hev3, _⟩ | ⟨ao3, cp3, qs3, nn3, hev3, rfl, hs⟩)
     ·exact absurd (hev3.symm.trans hh1) (by simp)
     obtain ⟨hq3, hn3⟩ := Prod.mk.inj (Option.some.inj (hev3.symm.trans hh1)); subst hn3
     refine ⟨_, rfl, ?_⟩; replace HS := Bx.mk (HS.out.add (raid_holdG rfl hs)); clear hs HF; clear a; intro a HF
     replace HS : Bx (St w0 ([holdsA (rdsP ao3 qs3), boxA b10 1 25 (.agg #[.slice ao2 qs2.length cp2]), holdsA (rdsP ao2 qs2), boxA b8 1 25 (.agg #[.slice ao1 qs1.length cp1]), holdsA (rdsP ao1 qs1), boxA b3 5 33 (.agg #[.int .i64 p.fAt, .int .i64 p.fBirth, .int .i64 p.fSize, .int .i64 p.fSum, .int .i64 p.fLevel]), boxA b2 1 25 (.agg #[.slice ao ps.length co]), holdsA (rdsP ao ps)]) _) := ⟨HS.out⟩
     refine wl_mv HF rfl rfl rfl rfl rfl ?_; clear HF a; intro a HF
     refine wl_y rfl HF rfl rfl (yl_extract rfl (HF.ev rfl) rfl) ?_; clear HF a; intro a HF
     refine wl_y rfl HF rfl rfl (yl_extract rfl (HF.ev rfl) rfl) ?_; clear HF a; intro a HF
     refine wl_y rfl HF rfl rfl (yl_extract rfl (HF.ev rfl) rfl) ?_; clear HF a; intro a HF
     refine wl_alloc rfl HF rfl rfl rfl (Z := [.slice none 0 0]) (by kernel_rfl) rfl HS.out ?_; clear HF HS a; intro a w22 b12 HF HS; replace HS := Bx.mk HS
     refine wl_storeBox rfl HF rfl rfl (HF.ev rfl) (HF.ev rfl) HS.out 0 rfl (cells_lit [.slice ao3 qs3.length cp3] rfl rfl) (by kernel_rfl) ?_; clear HS; intro w23 HS; replace HS := Bx.mk HS
     have HS : Bx (St w0 ([boxA b12 1 25 (.agg #[.slice ao3 qs3.length cp3]), holdsA (rdsP ao3 qs3), boxA b10 1 25 (.agg #[.slice ao2 qs2.length cp2]), holdsA (rdsP ao2 qs2), boxA b8 1 25 (.agg #[.slice ao1 qs1.length cp1]), holdsA (rdsP ao1 qs1), boxA b3 5 33 (.agg #[.int .i64 p.fAt, .int .i64 p.fBirth, .int .i64 p.fSize, .int .i64 p.fSum, .int .i64 p.fLevel]), boxA b2 1 25 (.agg #[.slice ao ps.length co]), holdsA (rdsP ao ps)]) _) := HS
     refine wl_as HF rfl rfl rfl rfl rfl ?_; clear HF a; intro a HF
     refine wl_as HF rfl rfl rfl rfl rfl ?_; clear HF a; intro a HF
     refine wl_ne ?_
     refine wp_seq ?_
     refine wp_sr ?_
     refine wl_as HF rfl rfl rfl rfl rfl ?_; clear HF a; intro a HF
     refine wl_ne ?_
     refine wp_block ?_
     refine wc_loop (ι := Nat) (fun k a w => (k ≤ 3) ∧ Fr 133 a [(2, .bool false), (3, .pointer (some ⟨b2, 0, none⟩)), (4, .pointer (some ⟨b3, 0, none⟩)), (5, .pointer (some ⟨b8, 0, none⟩)), (6, .int .i64 (nn : Int)), (7, .bool true), (8, .pointer (some ⟨b10, 0, none⟩)), (9, .int .i64 (nn : Int)), (10, .bool true), (11, .bool true), (12, .string tx), (13, .bool true), (14, .string tx), (15, .bool true), (16, .pointer (some ⟨b12, 0, none⟩)), (17, .int .i64 0), (18, .bool true), (19, .int .i64 (k : Int))] ∧ St w0 ([boxA b12 1 25 (.agg #[.slice ao3 qs3.length cp3]), holdsA (rdsP ao3 qs3), boxA b10 1 25 (.agg #[.slice ao2 qs2.length cp2]), holdsA (rdsP ao2 qs2), boxA b8 1 25 (.agg #[.slice ao1 qs1.length cp1]), holdsA (rdsP ao1 qs1), boxA b3 5 33 (.agg #[.int .i64 p.fAt, .int .i64 p.fBirth, .int .i64 p.fSize, .int .i64 p.fSum, .int .i64 p.fLevel]), boxA b2 1 25 (.agg #[.slice ao ps.length co]), holdsA (rdsP ao ps)]) w) (fun k => 3 - k) 0 ⟨(by omega), HF.less _ ⟨rfl, rfl, rfl, rfl, rfl, rfl, rfl, rfl, rfl, rfl, rfl, rfl, rfl, rfl, rfl, rfl, rfl, rfl, trivial⟩, HS.out⟩ ?_
     clear HF HS; clear a
     rintro k a w24 ⟨hk, HF, HS⟩
     replace HS := Bx.mk HS
     refine wp_seq ?_
     refine wp_sr ?_
     refine wl_mv HF rfl rfl rfl rfl rfl ?_; clear HF a; intro a HF
     refine wl_y rfl HF rfl rfl (yl_lssI rfl (HF.ev rfl) (HF.ev rfl)) ?_; clear HF a; intro a HF
     refine wl_mv HF rfl rfl rfl rfl rfl ?_; clear HF a; intro a HF
     refine HF.cases 87 rfl (fun cc3 HF1 => ?_) (fun cc3 HF1 => ?_)
     ·clear HF; have HF := HF1; clear HF1
      have dcc3 := of_decide_eq_true cc3
      refine wl_yg HF rfl rfl rfl rfl rfl (yl_loadR (cs := [.slice ao ps.length co]) rfl (HF.ev rfl) ((HS.out.box 7 rfl).sub 0 1) (by kernel_rfl)) ?_; clear HF a; intro a HF
      refine wl_callBg HF rfl rfl rfl rfl (enter_of Try.func13 (by kernel_rfl) rfl) (args := #[.agg #[.slice ao ps.length co]]) rfl (v := .int .i64 (lostN (dsOf ps) 3 : Int)) ((pfLost_three ao co ps _ hl0 (HS.out.holds 8 rfl))) rfl rfl HS.out ?_; clear HF HS a; intro w25 a HS HF; replace HS := Bx.mk HS
      refine wl_yg HF rfl rfl rfl rfl rfl (yl_eqlI rfl (HF.ev rfl) (HF.ev rfl)) ?_; clear HF a; intro a HF
      refine wl_y rfl HF rfl rfl (yl_pick_t rfl (HF.ev rfl) (HF.ev rfl)) ?_; clear HF a; intro a HF
      refine wl_ne ?_
      refine HF.cases 91 rfl (fun cc4 HF1 => ?_) (fun cc4 HF1 => ?_)
      ·clear HF; have HF := HF1; clear HF1
       have dcc4 := eq_of_beq cc4
       refine wc_true HF rfl ?_
       refine wp_skip ?_
       refine ex_then ?_
       refine wp_seq ?_
       refine wp_block ?_
       refine wp_sr ?_
       refine wl_y rfl HF rfl rfl (yl_loadR (cs := [.slice ao1 qs1.length cp1]) rfl (HF.ev rfl) ((HS.out.box 4 rfl).sub 0 1) (by kernel_rfl)) ?_; clear HF a; intro a HF
       refine wl_mv HF rfl rfl rfl rfl rfl ?_; clear HF a; intro a HF
       refine wl_call rfl HF rfl (enter_of Try.func17 (by kernel_rfl) rfl) (args := #[.agg #[.slice ao1 qs1.length cp1], .int .i64 (k : Int)]) rfl (raidLose_any ao1 cp1 qs1 _ (by omega) hf1 (HS.out.holds 5 rfl) k) rfl rfl ?_
       rintro _ w26 (⟨h0, _⟩ | ⟨_, ao4, cp4, qs4, hq4, rfl, hs⟩)
       ·exact absurd h0 (by rw [hok1, inB_yes (n := (k : Int)) (by omega) (by omega)]; simp)
       have hr4 : readR (dsOf qs4) p = (tx, true) := by rw [hq4]; exact hls (by omega) k (by omega)
       have hl4 : qs4.length = 3 := by rw [← dsOf_len, hq4, List.length_set, dsOf_len, hl1]
       have hf4 : fitsL qs4 := fitsL_of (by rw [hq4]; exact fitsD_set (fitsL_d hf1) lost_fits)
       refine ⟨_, rfl, ?_⟩; replace HS := Bx.mk (HS.out.add hs); clear hs HF; clear a; intro a HF
       replace HS : Bx (St w0 ([holdsA (rdsP ao4 qs4), boxA b12 1 25 (.agg #[.slice ao3 qs3.length cp3]), holdsA (rdsP ao3 qs3), boxA b10 1 25 (.agg #[.slice ao2 qs2.length cp2]), holdsA (rdsP ao2 qs2), boxA b8 1 25 (.agg #[.slice ao1 qs1.length cp1]), holdsA (rdsP ao1 qs1), boxA b3 5 33 (.agg #[.int .i64 p.fAt, .int .i64 p.fBirth, .int .i64 p.fSize, .int .i64 p.fSum, .int .i64 p.fLevel]), boxA b2 1 25 (.agg #[.slice ao ps.length co]), holdsA (rdsP ao ps)]) _) := ⟨HS.out⟩
       refine wl_mv HF rfl rfl rfl rfl rfl ?_; clear HF a; intro a HF
       refine wl_y rfl HF rfl rfl (yl_extract rfl (HF.ev rfl) rfl) ?_; clear HF a; intro a HF
       refine wl_y rfl HF rfl rfl (yl_extract rfl (HF.ev rfl) rfl) ?_; clear HF a; intro a HF
       refine wl_alloc rfl HF rfl rfl rfl (Z := [.slice none 0 0]) (by kernel_rfl) rfl HS.out ?_; clear HF HS a; intro a w27 b14 HF HS; replace HS := Bx.mk HS
       refine wl_storeBox rfl HF rfl rfl (HF.ev rfl) (HF.ev rfl) HS.out 0 rfl (cells_lit [.slice ao4 qs4.length cp4] rfl rfl) (by kernel_rfl) ?_; clear HS; intro w28 HS; replace HS := Bx.mk HS
       have HS : Bx (St w0 ([boxA b14 1 25 (.agg #[.slice ao4 qs4.length cp4]), holdsA (rdsP ao4 qs4), boxA b12 1 25 (.agg #[.slice ao3 qs3.length cp3]), holdsA (rdsP ao3 qs3), boxA b10 1 25 (.agg #[.slice ao2 qs2.length cp2]), holdsA (rdsP ao2 qs2), boxA b8 1 25 (.agg #[.slice ao1 qs1.length cp1]), holdsA (rdsP ao1 qs1), boxA b3 5 33 (.agg #[.int .i64 p.fAt, .int .i64 p.fBirth, .int .i64 p.fSize, .int .i64 p.fSum, .int .i64 p.fLevel]), boxA b2 1 25 (.agg #[.slice ao ps.length co]), holdsA (rdsP ao ps)]) _) := HS
       refine wl_as HF rfl rfl rfl rfl rfl ?_; clear HF a; intro a HF
       refine wl_ne ?_
       refine wp_sr ?_
       refine wl_y rfl HF rfl rfl (yl_loadR (cs := [.slice ao4 qs4.length cp4]) rfl (HF.ev rfl) ((HS.out.box 0 rfl).sub 0 1) (by kernel_rfl)) ?_; clear HF a; intro a HF
       refine wl_y rfl HF rfl rfl (yl_loadR (cs := [.int .i64 p.fAt, .int .i64 p.fBirth, .int .i64 p.fSize, .int .i64 p.fSum, .int .i64 p.fLevel]) rfl (HF.ev rfl) ((HS.out.box 8 rfl).sub 0 5) (by kernel_rfl)) ?_; clear HF a; intro a HF
       refine wl_callB rfl HF rfl (enter_of Try.func16 (by kernel_rfl) rfl) (args := #[.agg #[.slice ao4 qs4.length cp4], .agg #[.int .i64 p.fAt, .int .i64 p.fBirth, .int .i64 p.fSize, .int .i64 p.fSum, .int .i64 p.fLevel]]) rfl (v := .tuple #[.string tx, .bool true]) ((by have := implRaidRead_any ao4 cp4 qs4 _ (by omega) hf4.at (HS.out.holds 1 rfl).1 (HS.out.holds 1 rfl).at p; rw [hr4] at this; exact this)) rfl rfl HS.out ?_; clear HF HS a; intro w29 a HS HF; replace HS := Bx.mk HS
       refine wl_mv HF rfl rfl rfl rfl rfl ?_; clear HF a; intro a HF
       refine wl_y rfl HF rfl rfl (yl_extract rfl (HF.ev rfl) rfl) ?_; clear HF a; intro a HF
       refine wl_y rfl HF rfl rfl (yl_extract rfl (HF.ev rfl) rfl) ?_; clear HF a; intro a HF
       refine wl_as HF rfl rfl rfl rfl rfl ?_; clear HF a; intro a HF
       refine wl_as HF rfl rfl rfl rfl rfl ?_; clear HF a; intro a HF
       refine wl_ne ?_
       refine wp_sr ?_
       refine wl_mv HF rfl rfl rfl rfl rfl ?_; clear HF a; intro a HF
       refine wl_y rfl HF rfl rfl (yl_not rfl (HF.ev rfl)) ?_; clear HF a; intro a HF
       refine wl_mv HF rfl rfl rfl rfl rfl ?_; clear HF a; intro a HF
       refine wl_yg HF rfl rfl rfl rfl rfl (yl_move rfl (HF.ev rfl)) ?_; clear HF a; intro a HF
       refine wl_yg HF rfl rfl rfl rfl rfl (yl_move rfl (HF.ev rfl)) ?_; clear HF a; intro a HF
       refine wl_yg HF rfl rfl rfl rfl rfl (yl_neqS rfl (HF.ev rfl) (HF.ev rfl)) ?_; clear HF a; intro a HF
       refine wl_y rfl HF rfl rfl (yl_pick_f rfl (HF.ev rfl) (HF.ev rfl)) ?_; clear HF a; intro a HF
       refine wl_ne ?_
       refine HF.cases 112 rfl (fun cc5 HF1 => ?_) (fun cc5 HF1 => ?_)
       ·clear HF; have HF := HF1; clear HF1
        exact absurd cc5 (by simp)
       ·clear HF; have HF := HF1; clear HF1
        refine wc_false HF rfl ?_
        refine wp_skip ?_
        refine ex_block ?_
        refine ex_then ?_
        refine wp_region_lit ?_
        refine wl_mv HF rfl rfl rfl rfl rfl ?_; clear HF a; intro a HF
        refine wl_y rfl HF rfl rfl (yl_addI rfl (HF.ev rfl) (HF.ev rfl) (i64w (by omega))) ?_; clear HF a; intro a HF
        refine wl_as HF rfl rfl rfl rfl rfl ?_; clear HF a; intro a HF
        refine wl_ne ?_
        replace HS : Bx (St w0 ([boxA b12 1 25 (.agg #[.slice ao3 qs3.length cp3]), holdsA (rdsP ao3 qs3), boxA b10 1 25 (.agg #[.slice ao2 qs2.length cp2]), holdsA (rdsP ao2 qs2), boxA b8 1 25 (.agg #[.slice ao1 qs1.length cp1]), holdsA (rdsP ao1 qs1), boxA b3 5 33 (.agg #[.int .i64 p.fAt, .int .i64 p.fBirth, .int .i64 p.fSize, .int .i64 p.fSum, .int .i64 p.fLevel]), boxA b2 1 25 (.agg #[.slice ao ps.length co]), holdsA (rdsP ao ps), boxA b14 1 25 (.agg #[.slice ao4 qs4.length cp4]), holdsA (rdsP ao4 qs4)]) _) := ⟨(((((((((HS.out).pick 10 rfl).pick 10 rfl).pick 10 rfl).pick 10 rfl).pick 10 rfl).pick 10 rfl).pick 10 rfl).pick 10 rfl).pick 10 rfl⟩
        exact ⟨k + 1, ⟨(by omega), HF.less _ ⟨rfl, rfl, rfl, rfl, rfl, rfl, rfl, rfl, rfl, rfl, rfl, rfl, rfl, rfl, rfl, rfl, rfl, rfl, trivial⟩, ((HS.out.erase 10).erase 9)⟩, (by omega)⟩
      ·clear HF; have HF := HF1; clear HF1
       have dcc4 := ne_of_beq_false cc4
       refine wc_false HF rfl ?_
       refine wp_exit ?_
       refine ex_then_exit ?_
       refine ex_then_exit ?_
       refine ex_block_hit ?_
       refine ex_then ?_
       refine wp_sr ?_
       refine wl_mv HF rfl rfl rfl rfl rfl ?_; clear HF a; intro a HF
       refine wl_mv HF rfl rfl rfl rfl rfl ?_; clear HF a; intro a HF
       refine wl_yg HF rfl rfl rfl rfl rfl (yl_move rfl (HF.ev rfl)) ?_; clear HF a; intro a HF
       refine wl_y rfl HF rfl rfl (yl_pick_t rfl (HF.ev rfl) (HF.ev rfl)) ?_; clear HF a; intro a HF
       refine wl_mv HF rfl rfl rfl rfl rfl ?_; clear HF a; intro a HF
       refine wl_yg HF rfl rfl rfl rfl rfl (yl_move rfl (HF.ev rfl)) ?_; clear HF a; intro a HF
       refine wl_yg HF rfl rfl rfl rfl rfl (yl_move rfl (HF.ev rfl)) ?_; clear HF a; intro a HF
       refine wl_yg HF rfl rfl rfl rfl rfl (yl_eqlS rfl (HF.ev rfl) (HF.ev rfl)) ?_; clear HF a; intro a HF
       refine wl_y rfl HF rfl rfl (yl_pick_t rfl (HF.ev rfl) (HF.ev rfl)) ?_; clear HF a; intro a HF
       refine wl_mv HF rfl rfl rfl rfl rfl ?_; clear HF a; intro a HF
       refine HF.cases 122 rfl (fun cc6 HF1 => ?_) (fun cc6 HF1 => ?_)
       ·clear HF; have HF := HF1; clear HF1
        refine wl_yg HF rfl rfl rfl rfl rfl (yl_move rfl (HF.ev rfl)) ?_; clear HF a; intro a HF
        refine wl_y rfl HF rfl rfl (yl_pick_t rfl (HF.ev rfl) (HF.ev rfl)) ?_; clear HF a; intro a HF
        refine wl_mv HF rfl rfl rfl rfl rfl ?_; clear HF a; intro a HF
        refine wl_yg HF rfl rfl rfl rfl rfl (yl_move rfl (HF.ev rfl)) ?_; clear HF a; intro a HF
        refine wl_yg HF rfl rfl rfl rfl rfl (yl_eqlI rfl (HF.ev rfl) (HF.ev rfl)) ?_; clear HF a; intro a HF
        refine wl_y rfl HF rfl rfl (yl_pick_t rfl (HF.ev rfl) (HF.ev rfl)) ?_; clear HF a; intro a HF
        refine wl_mv HF rfl rfl rfl rfl rfl ?_; clear HF a; intro a HF
        replace HF := HF.know (k := 129) (c := true) rfl (by decide)
        refine wl_yg HF rfl rfl rfl rfl rfl (yl_move rfl (HF.ev rfl)) ?_; clear HF a; intro a HF
        refine wl_yg HF rfl rfl rfl rfl rfl (yl_leqI rfl (HF.ev rfl) (HF.ev rfl)) ?_; clear HF a; intro a HF
        refine wl_y rfl HF rfl rfl (yl_pick_t rfl (HF.ev rfl) (HF.ev rfl)) ?_; clear HF a; intro a HF
        refine wl_as HF rfl rfl rfl rfl rfl ?_; clear HF a; intro a HF
        refine wl_ne ?_
        refine wp_ret ?_
        refine bp_ret1 HF Try.results7 (HF.res rfl) ?_
        exact ⟨by rw [decide_eq_true (show (nn : Int) ≤ 3 by omega)], HS.out.bel⟩
       ·clear HF; have HF := HF1; clear HF1
        exact absurd cc6 (by simp)
     ·clear HF; have HF := HF1; clear HF1
      have dcc3 := of_decide_eq_false cc3
      refine wl_skip HF rfl rfl rfl rfl rfl rfl ?_; clear HF a; intro a HF
      refine wl_skip HF rfl rfl rfl rfl rfl rfl ?_; clear HF a; intro a HF
      refine wl_skip HF rfl rfl rfl rfl rfl rfl ?_; clear HF a; intro a HF
      refine wl_y rfl HF rfl rfl (yl_pick_f rfl (HF.ev rfl) (HF.ev rfl)) ?_; clear HF a; intro a HF
      refine wl_ne ?_
      refine wc_false HF rfl ?_
      refine wp_exit ?_
      refine ex_then_exit ?_
      refine ex_then_exit ?_
      refine ex_block_hit ?_
      refine ex_then ?_
      refine wp_sr ?_
      refine wl_mv HF rfl rfl rfl rfl rfl ?_; clear HF a; intro a HF
      refine wl_mv HF rfl rfl rfl rfl rfl ?_; clear HF a; intro a HF
      refine wl_yg HF rfl rfl rfl rfl rfl (yl_move rfl (HF.ev rfl)) ?_; clear HF a; intro a HF
      refine wl_y rfl HF rfl rfl (yl_pick_t rfl (HF.ev rfl) (HF.ev rfl)) ?_; clear HF a; intro a HF
      refine wl_mv HF rfl rfl rfl rfl rfl ?_; clear HF a; intro a HF
      refine wl_yg HF rfl rfl rfl rfl rfl (yl_move rfl (HF.ev rfl)) ?_; clear HF a; intro a HF
      refine wl_yg HF rfl rfl rfl rfl rfl (yl_move rfl (HF.ev rfl)) ?_; clear HF a; intro a HF
      refine wl_yg HF rfl rfl rfl rfl rfl (yl_eqlS rfl (HF.ev rfl) (HF.ev rfl)) ?_; clear HF a; intro a HF
      refine wl_y rfl HF rfl rfl (yl_pick_t rfl (HF.ev rfl) (HF.ev rfl)) ?_; clear HF a; intro a HF
      refine wl_mv HF rfl rfl rfl rfl rfl ?_; clear HF a; intro a HF
      refine HF.cases 122 rfl (fun cc7 HF1 => ?_) (fun cc7 HF1 => ?_)
      ·clear HF; have HF := HF1; clear HF1
       refine wl_yg HF rfl rfl rfl rfl rfl (yl_move rfl (HF.ev rfl)) ?_; clear HF a; intro a HF
       refine wl_y rfl HF rfl rfl (yl_pick_t rfl (HF.ev rfl) (HF.ev rfl)) ?_; clear HF a; intro a HF
       refine wl_mv HF rfl rfl rfl rfl rfl ?_; clear HF a; intro a HF
       refine wl_yg HF rfl rfl rfl rfl rfl (yl_move rfl (HF.ev rfl)) ?_; clear HF a; intro a HF
       refine wl_yg HF rfl rfl rfl rfl rfl (yl_eqlI rfl (HF.ev rfl) (HF.ev rfl)) ?_; clear HF a; intro a HF
       refine wl_y rfl HF rfl rfl (yl_pick_t rfl (HF.ev rfl) (HF.ev rfl)) ?_; clear HF a; intro a HF
       refine wl_mv HF rfl rfl rfl rfl rfl ?_; clear HF a; intro a HF
       replace HF := HF.know (k := 129) (c := true) rfl (by decide)
       refine wl_yg HF rfl rfl rfl rfl rfl (yl_move rfl (HF.ev rfl)) ?_; clear HF a; intro a HF
       refine wl_yg HF rfl rfl rfl rfl rfl (yl_leqI rfl (HF.ev rfl) (HF.ev rfl)) ?_; clear HF a; intro a HF
       refine wl_y rfl HF rfl rfl (yl_pick_t rfl (HF.ev rfl) (HF.ev rfl)) ?_; clear HF a; intro a HF
       refine wl_as HF rfl rfl rfl rfl rfl ?_; clear HF a; intro a HF
       refine wl_ne ?_
       refine wp_ret ?_
       refine bp_ret1 HF Try.results7 (HF.res rfl) ?_
       exact ⟨by rw [decide_eq_true (show (nn : Int) ≤ 3 by omega)], HS.out.bel⟩
      ·clear HF; have HF := HF1; clear HF1
       exact absurd cc7 (by simp)
    ·clear HF; have HF := HF1; clear HF1
     exact absurd cc2 (by simp)

end Go.Proofs.Ytfijfjjleelphaa
