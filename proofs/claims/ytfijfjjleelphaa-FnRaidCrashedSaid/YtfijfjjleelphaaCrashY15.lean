/- A part of the proof in YtfijfjjleelphaaCrashY17. -/
import Derived.ArgAppend
import Derived.BigQuiet
import Derived.BigRegion
import Derived.Deep.AppendLies
import Derived.Deep.MidRow
import Derived.Deep.Quiet
import Derived.Deep.QuietTactic
import Derived.Deep.RegionHeld3
import Derived.Deep.RegionWith
import Derived.IntWalk
import Derived.Laws.BytesArg
import Derived.Lib.Hide
import Derived.Lib.LazyBuf
import Derived.Lib.SlBytesConst
import Derived.LoopIn
import Derived.LoopN
import Derived.LoopNIn
import Derived.Orders
import Derived.OrdersHeld
import Derived.OwnWalkIn
import Derived.RangeFuncLeaves
import Derived.RangeFuncNested
import Derived.Shelf.Abstract
import Derived.Still
import Derived.StillTail
import Derived.StillTailTactics
import Derived.TacticsInMore
import Derived.Test.YtfijfjjleelphaaRows
import Derived.WalkKit
import Derived.WalkLawsBesides
import Derived.WalkSpells
import Derived.Test.YtfijfjjleelphaaCrashY14
/- Drawing disks. -/
namespace Go.Proofs.Ytfijfjjleelphaa
set_option maxHeartbeats 1000000
set_option maxRecDepth 100000
open Go.RowKit

theorem l91Disk_any (w0 w : World) (rb : Nat) (ab : Option Addr) (n cb : Nat) (bs : List UInt8) (hn : n ≤ 2000) (hR : Rd encB 1 w0 ab n bs) (B : Nat) (hB : B ≤ 800000) (F : List Asr) (hS : St w0 (rdA rb ab n cb B :: F) w) : Calls Try.prog 116 #[.pointer (some ⟨rb, 0, none⟩)] w fun e w' => ∃ q : HD, q.d.fits ∧ e = .returned (.agg #[.slice q.a0 q.d.fCells.length q.c0, .slice q.a1 q.d.fWaits.length q.c1, .bool q.d.fGone]) ∧ St w0 (rdA rb ab n cb (B + 500) :: holdsA (fun w => q.reads w) :: F) w' := by
 have HS := Bx.mk hS; clear hS
 refine wc_enter Try.func116 rfl Try.ntmps116 [(0, .pointer (some ⟨rb, 0, none⟩))] ⟨rfl, trivial⟩ rfl ?_; intro a HF
 refine wp_sr ?_
 refine wl_alloc rfl HF rfl rfl rfl (Z := [.slice none 0 0, .slice none 0 0, .bool false]) (by kernel_rfl) rfl HS.out ?_; clear HF HS a; intro a w1 b1 HF HS; replace HS := Bx.mk HS
 refine wl_ne ?_
 refine wp_seq ?_
 refine wp_sr ?_
 refine wl_mv HF rfl rfl rfl rfl rfl ?_; clear HF a; intro a HF
 replace HS : Bx (St w0 (rdA rb ab n cb B :: boxA b1 3 44 (.agg #[.slice none 0 0, .slice none 0 0, .bool false]) :: F) _) := ⟨(HS.out).pick 1 rfl⟩
 refine wl_call rfl HF rfl (enter_of Try.func110 (by kernel_rfl) rfl) (args := #[.pointer (some ⟨rb, 0, none⟩), .int .i64 12]) rfl (pickN w0 _ rb ab n cb bs hn hR B (by omega) 12 (by omega) _ HS.out) rfl rfl ?_
 rintro _ w2 ⟨dn2, rfl, hu2, hs1⟩
 refine ⟨_, rfl, ?_⟩; replace HS := Bx.mk hs1; clear hs1 HF; clear a; intro a HF
 replace HS : Bx (St w0 (rdA rb ab n cb (B + 1) :: boxA b1 3 44 (.agg #[.slice none 0 0, .slice none 0 0, .bool false]) :: F) _) := ⟨HS.out⟩
 refine wl_y rfl HF rfl rfl (yl_eqlI rfl (HF.ev rfl) (HF.ev rfl)) ?_; clear HF a; intro a HF
 refine wl_ne ?_
 refine HF.cases 8 rfl (fun cc1 HF1 => ?_) (fun cc1 HF1 => ?_)
 ·clear HF; have HF := HF1; clear HF1
  have dcc1 := eq_of_beq cc1
  refine wc_true HF rfl ?_
  refine wp_sr ?_
  refine wl_call rfl HF rfl (enter_of Try.func114 (by kernel_rfl) rfl) (args := #[]) rfl (specLose_any _) rfl rfl ?_
  rintro _ w3 ⟨⟨qa3, qc3, qb3, qe3, qd⟩, hqd, rfl, hs⟩; obtain rfl : qd = lostD := hqd; refine ⟨_, rfl, ?_⟩
  replace HS := Bx.mk ((HS.out.add hs)); clear hs HF; clear a; intro a HF
  replace HS : Bx (St w0 (HD.asr ⟨qa3, qc3, qb3, qe3, lostD⟩ :: rdA rb ab n cb (B + 1) :: boxA b1 3 44 (.agg #[.slice none 0 0, .slice none 0 0, .bool false]) :: F) _) := ⟨HS.out⟩
  refine wl_storeBox rfl HF rfl rfl (HF.ev rfl) (HF.ev rfl) HS.out 2 rfl (cells_lit [.slice qa3 lostD.fCells.length qc3, .slice qb3 lostD.fWaits.length qe3, .bool lostD.fGone] rfl rfl) (by kernel_rfl) ?_; clear HS; intro w4 HS; replace HS := Bx.mk HS
  have HS : Bx (St w0 (HD.asr ⟨qa3, qc3, qb3, qe3, lostD⟩ :: rdA rb ab n cb (B + 1) :: boxA b1 3 44 (.agg #[.slice qa3 lostD.fCells.length qc3, .slice qb3 lostD.fWaits.length qe3, .bool lostD.fGone]) :: F) _) := HS
  refine wl_ne ?_
  refine wp_ret ?_
  refine ex_then_ret ?_
  refine bp_ret1 HF Try.results116 (HF.resBox rfl (HS.out.box 2 rfl) (by kernel_rfl)) ?_
  replace HS : Bx (St w0 (rdA rb ab n cb (B + 1) :: HD.asr ⟨qa3, qc3, qb3, qe3, lostD⟩ :: boxA b1 3 44 (.agg #[.slice qa3 lostD.fCells.length qc3, .slice qb3 lostD.fWaits.length qe3, .bool lostD.fGone]) :: F) _) := ⟨((HS.out).pick 0 rfl).pick 1 rfl⟩
  have HT := ((HS.out.rdLe (B' := B + 500) (by omega)).swap.hold (P := fun w => HD.reads w ⟨qa3, qc3, qb3, qe3, lostD⟩) (fun w f h => HD.asr_reads1 h)).swap
  exact ⟨⟨qa3, qc3, qb3, qe3, lostD⟩, lost_fits, rfl, (HT.erase 2)⟩
 ·clear HF; have HF := HF1; clear HF1
  have dcc1 := ne_of_beq_false cc1
  refine wc_false HF rfl ?_
  refine wp_skip ?_
  refine ex_then ?_
  refine wp_sr ?_
  refine wl_call rfl HF rfl (enter_of Try.func158 (by kernel_rfl) rfl) (args := #[]) rfl (diskNew_any _) rfl rfl ?_
  rintro _ w5 ⟨⟨qa4, qc4, qb4, qe4, qd⟩, hqd, rfl, hs⟩; obtain rfl : qd = newD := hqd; refine ⟨_, rfl, ?_⟩
  replace HS := Bx.mk (St.join.2 (HS.out.add hs)); clear hs HF; clear a; intro a HF
  replace HS : Bx (St w0 (rowA encS 1 9 (.slice qa4 newD.fCells.length qc4) newD.fCells :: rowA WaitD.cells 2 144 (.slice qb4 newD.fWaits.length qe4) newD.fWaits :: rdA rb ab n cb (B + 1) :: boxA b1 3 44 (.agg #[.slice none 0 0, .slice none 0 0, .bool false]) :: F) _) := ⟨HS.out⟩
  replace HS : Bx (St w0 (rowA encS 1 9 (.slice qa4 64 qc4) (List.replicate 64 ByteArray.empty) :: rowA WaitD.cells 2 144 (.slice qb4 0 qe4) ([]) :: rdA rb ab n cb (B + 1) :: boxA b1 3 44 (.agg #[.slice none 0 0, .slice none 0 0, .bool false]) :: F) _) := ⟨HS.out⟩
  replace HF : Fr 93 a [(0, .pointer (some ⟨rb, 0, none⟩)), (2, .pointer (some ⟨b1, 0, none⟩)), (6, .pointer (some ⟨rb, 0, none⟩)), (7, .int .i64 (dn2 : Int)), (8, .bool false), (10, .agg #[.slice qa4 64 qc4, .slice qb4 0 qe4, .bool false])] := HF.less _ ⟨rfl, rfl, rfl, rfl, rfl, rfl, trivial⟩
  obtain ⟨g5, rfl, _, _, _, _⟩ := HS.out.rowOpen 0 rfl (by rw [List.length_replicate]; omega)
  refine wl_alloc rfl HF rfl rfl rfl (Z := [.slice none 0 0, .slice none 0 0, .bool false]) (by kernel_rfl) rfl HS.out ?_; clear HF HS a; intro a w6 b6 HF HS; replace HS := Bx.mk HS
  refine wl_storeBox rfl HF rfl rfl (HF.ev rfl) (HF.ev rfl) HS.out 0 rfl (cells_lit [.slice (some ⟨g5, 0, none⟩) 64 qc4, .slice qb4 0 qe4, .bool false] rfl rfl) (by kernel_rfl) ?_; clear HS; intro w7 HS; replace HS := Bx.mk HS
  have HS : Bx (St w0 (boxA b6 3 44 (.agg #[.slice (some ⟨g5, 0, none⟩) 64 qc4, .slice qb4 0 qe4, .bool false]) :: rowA encS 1 9 (.slice (some ⟨g5, 0, none⟩) 64 qc4) (List.replicate 64 ByteArray.empty) :: rowA WaitD.cells 2 144 (.slice qb4 0 qe4) ([]) :: rdA rb ab n cb (B + 1) :: boxA b1 3 44 (.agg #[.slice none 0 0, .slice none 0 0, .bool false]) :: F) _) := HS
  refine wl_ne ?_
  refine wp_seq ?_
  refine wp_sr ?_
  refine wl_mv HF rfl rfl rfl rfl rfl ?_; clear HF a; intro a HF
  replace HS : Bx (St w0 (rdA rb ab n cb (B + 1) :: boxA b6 3 44 (.agg #[.slice (some ⟨g5, 0, none⟩) 64 qc4, .slice qb4 0 qe4, .bool false]) :: rowA encS 1 9 (.slice (some ⟨g5, 0, none⟩) 64 qc4) (List.replicate 64 ByteArray.empty) :: rowA WaitD.cells 2 144 (.slice qb4 0 qe4) ([]) :: boxA b1 3 44 (.agg #[.slice none 0 0, .slice none 0 0, .bool false]) :: F) _) := ⟨(HS.out).pick 3 rfl⟩
  refine wl_call rfl HF rfl (enter_of Try.func110 (by kernel_rfl) rfl) (args := #[.pointer (some ⟨rb, 0, none⟩), .int .i64 8]) rfl (pickN w0 _ rb ab n cb bs hn hR (B + 1) (by omega) 8 (by omega) _ HS.out) rfl rfl ?_
  rintro _ w8 ⟨dn7, rfl, hu7, hs1⟩
  refine ⟨_, rfl, ?_⟩; replace HS := Bx.mk hs1; clear hs1 HF; clear a; intro a HF
  replace HS : Bx (St w0 (rdA rb ab n cb (B + 1 + 1) :: boxA b6 3 44 (.agg #[.slice (some ⟨g5, 0, none⟩) 64 qc4, .slice qb4 0 qe4, .bool false]) :: rowA encS 1 9 (.slice (some ⟨g5, 0, none⟩) 64 qc4) (List.replicate 64 ByteArray.empty) :: rowA WaitD.cells 2 144 (.slice qb4 0 qe4) ([]) :: boxA b1 3 44 (.agg #[.slice none 0 0, .slice none 0 0, .bool false]) :: F) _) := ⟨HS.out⟩
  refine wl_as HF rfl rfl rfl rfl rfl ?_; clear HF a; intro a HF
  refine wl_ne ?_
  refine wp_block ?_
  replace HS : Bx (St w0 (rdA rb ab n cb (B + 1 + 1) :: boxA b6 3 44 (.agg #[.slice (some ⟨g5, 0, none⟩) 64 qc4, .slice qb4 0 qe4, .bool false]) :: rowA encS 1 9 (.slice (some ⟨g5, 0, none⟩) 64 qc4) (List.replicate 64 ByteArray.empty) :: rowA WaitD.cells 2 144 (.slice qb4 0 qe4) ([]) :: boxA b1 3 44 (.agg #[.slice none 0 0, .slice none 0 0, .bool false]) :: F) _) := ⟨(HS.out).pick 0 rfl⟩
  replace HS : Bx (St w0 (rdA rb ab n cb (B + 1 + 1 + 21 * 0) :: boxA b6 3 44 (.agg #[.slice (some ⟨g5, 0, none⟩) 64 qc4, .slice qb4 0 qe4, .bool false]) :: rowA encS 1 9 (.slice (some ⟨g5, 0, none⟩) 64 qc4) (List.replicate 64 ByteArray.empty) :: rowA WaitD.cells 2 144 (.slice qb4 0 qe4) ([]) :: boxA b1 3 44 (.agg #[.slice none 0 0, .slice none 0 0, .bool false]) :: F) _) := ⟨HS.out.rdLe (by omega)⟩
  refine wc_loop (ι := Nat) (fun k a w => ∃ (cs : List ByteArray), (k ≤ dn7 ∧ cs.length = 64 ∧ ∀ x, x ∈ cs → x.size ≤ 1000) ∧ Fr 93 a [(0, .pointer (some ⟨rb, 0, none⟩)), (2, .pointer (some ⟨b1, 0, none⟩)), (3, .pointer (some ⟨b6, 0, none⟩)), (4, .int .i64 ((dn7 : Int) - (k : Int)))] ∧ St w0 (rdA rb ab n cb (B + 1 + 1 + 21 * k) :: boxA b6 3 44 (.agg #[.slice (some ⟨g5, 0, none⟩) 64 qc4, .slice qb4 0 qe4, .bool false]) :: rowA encS 1 9 (.slice (some ⟨g5, 0, none⟩) 64 qc4) cs :: rowA WaitD.cells 2 144 (.slice qb4 0 qe4) ([]) :: boxA b1 3 44 (.agg #[.slice none 0 0, .slice none 0 0, .bool false]) :: F) w) (fun k => dn7 - k) 0 ⟨(List.replicate 64 ByteArray.empty), ⟨Nat.zero_le _, List.length_replicate .., fun x hx => by rw [List.eq_of_mem_replicate hx]; exact Nat.zero_le _⟩, HF.less _ ⟨rfl, rfl, rfl, (by show some (Value.int .i64 _) = some (Value.int .i64 _); exact congrArg (fun z => some (Value.int .i64 z)) (by omega)), trivial⟩, HS.out⟩ ?_
  clear HF HS; clear a
  rintro k a w9 ⟨cs, ⟨hk, hcl, hc⟩, HF, HS⟩
  replace HS := Bx.mk HS
  refine wp_seq ?_
  refine wp_sr ?_
  refine wl_mv HF rfl rfl rfl rfl rfl ?_; clear HF a; intro a HF
  refine wl_y rfl HF rfl rfl (yl_gtrI rfl (HF.ev rfl) (HF.ev rfl)) ?_; clear HF a; intro a HF
  refine wl_ne ?_
  refine HF.cases 14 rfl (fun cc2 HF1 => ?_) (fun cc2 HF1 => ?_)
  ·clear HF; have HF := HF1; clear HF1
   have dcc2 := of_decide_eq_true cc2
   refine wc_true HF rfl ?_
   refine wp_skip ?_
   refine ex_then ?_
   refine wp_seq ?_
   refine wp_block ?_
   refine wr_marked (W := w0) (s := boxA b6 3 44 (.agg #[.slice (some ⟨g5, 0, none⟩) 64 qc4, .slice qb4 0 qe4, .bool false]) :: rowA encS 1 9 (.slice (some ⟨g5, 0, none⟩) 64 qc4) cs :: rowA WaitD.cells 2 144 (.slice qb4 0 qe4) ([]) :: boxA b1 3 44 (.agg #[.slice none 0 0, .slice none 0 0, .bool false]) :: F) 7 (by kernel_rfl) ?_
   have HS2 := Bx.mk HS.out.drew; replace HS := Bx.mk (show St w0 (boxA b6 3 44 (.agg #[.slice (some ⟨g5, 0, none⟩) 64 qc4, .slice qb4 0 qe4, .bool false]) :: rowA encS 1 9 (.slice (some ⟨g5, 0, none⟩) 64 qc4) cs :: rowA WaitD.cells 2 144 (.slice qb4 0 qe4) ([]) :: boxA b1 3 44 (.agg #[.slice none 0 0, .slice none 0 0, .bool false]) :: F) _ from (HS.out.drew.erase 0)); generalize World.drew _ = w10 at HS HS2 ⊢
   refine wm_t 0 rfl (by kernel_rfl) (by kernel_rfl) (by kernel_rfl) (fun _ _ _ h => h) (by decide) rfl HF rfl rfl (fun _ _ => (yl_fieldAddr (j := 0) rfl (HF.ev rfl) (by kernel_rfl))) (fun _ => HS.out) ?_; clear HF a; intro a HF
   refine wm_y 1 rfl (by kernel_rfl) (by kernel_rfl) (by kernel_rfl) (fun _ _ _ h => h) (by decide) (by kernel_rfl) (by kernel_rfl) rfl HF rfl rfl (fun _ HS => (yl_load (v := .slice (some ⟨g5, 0, none⟩) 64 qc4) rfl (HF.ev rfl) (((HS.box 0 rfl).cell 0).trans rfl) (by kernel_rfl))) HS.out ?_; clear HF a; intro a HF
   refine wm_t 2 rfl (by kernel_rfl) (by kernel_rfl) (by kernel_rfl) (fun _ _ _ h => h) (by decide) rfl HF rfl rfl (fun _ _ => (yl_move rfl (HF.ev rfl))) (fun _ => HS.out) ?_; clear HF a; intro a HF
   refine wm_t 4 rfl (by kernel_rfl) (by kernel_rfl) (by kernel_rfl) (fun _ _ _ h => h) (by decide) rfl HF rfl rfl (fun _ _ => (yl_move rfl (HF.ev rfl))) (fun _ => HS.out) ?_; clear HF a; intro a HF
   refine wm_one 3 (by kernel_rfl) ?_
   replace HS2 : Bx (St w0 (rdA rb ab n cb (B + 1 + 1 + 21 * k) :: boxA b6 3 44 (.agg #[.slice (some ⟨g5, 0, none⟩) 64 qc4, .slice qb4 0 qe4, .bool false]) :: rowA encS 1 9 (.slice (some ⟨g5, 0, none⟩) 64 qc4) cs :: rowA WaitD.cells 2 144 (.slice qb4 0 qe4) ([]) :: boxA b1 3 44 (.agg #[.slice none 0 0, .slice none 0 0, .bool false]) :: F) _) := ⟨(HS2.out).pick 0 rfl⟩
   refine wo_call rfl rfl HF rfl (enter_of Try.func110 (by kernel_rfl) rfl) (args := #[.pointer (some ⟨rb, 0, none⟩), .int .i64 64]) rfl (pickN w0 _ rb ab n cb bs hn hR (B + 1 + 1 + 21 * k) (by omega) 64 (by omega) _ HS2.out) rfl rfl ?_
   rintro _ w11 ⟨dn8, rfl, hu8, hs1⟩
   refine ⟨_, rfl, ?_⟩; replace HS2 := Bx.mk hs1; clear hs1 HF; clear a; intro a HF
   replace HS2 : Bx (St w0 (rdA rb ab n cb (B + 1 + 1 + 21 * k + 1) :: boxA b6 3 44 (.agg #[.slice (some ⟨g5, 0, none⟩) 64 qc4, .slice qb4 0 qe4, .bool false]) :: rowA encS 1 9 (.slice (some ⟨g5, 0, none⟩) 64 qc4) cs :: rowA WaitD.cells 2 144 (.slice qb4 0 qe4) ([]) :: boxA b1 3 44 (.agg #[.slice none 0 0, .slice none 0 0, .bool false]) :: F) _) := ⟨HS2.out⟩
   clear HS; have HS : Bx (St w0 (boxA b6 3 44 (.agg #[.slice (some ⟨g5, 0, none⟩) 64 qc4, .slice qb4 0 qe4, .bool false]) :: rowA encS 1 9 (.slice (some ⟨g5, 0, none⟩) 64 qc4) cs :: rowA WaitD.cells 2 144 (.slice qb4 0 qe4) ([]) :: boxA b1 3 44 (.agg #[.slice none 0 0, .slice none 0 0, .bool false]) :: F) _) := ⟨(HS2.out.erase 0)⟩
   refine ⟨fun _ => HS.out, ?_⟩
   refine wm_one 5 (by kernel_rfl) ?_
   replace HS2 : Bx (St w0 (rdA rb ab n cb (B + 1 + 1 + 21 * k + 1) :: boxA b6 3 44 (.agg #[.slice (some ⟨g5, 0, none⟩) 64 qc4, .slice qb4 0 qe4, .bool false]) :: rowA encS 1 9 (.slice (some ⟨g5, 0, none⟩) 64 qc4) cs :: rowA WaitD.cells 2 144 (.slice qb4 0 qe4) ([]) :: boxA b1 3 44 (.agg #[.slice none 0 0, .slice none 0 0, .bool false]) :: F) _) := ⟨(HS2.out).pick 0 rfl⟩
   refine wo_call rfl rfl HF rfl (enter_of Try.func111 (by kernel_rfl) rfl) (args := #[.pointer (some ⟨rb, 0, none⟩), .int .i64 9]) rfl (l91Text_any w0 _ rb ab n cb bs hn hR (B + 1 + 1 + 21 * k + 1) (by omega) 9 (by omega) _ HS2.out) rfl rfl ?_
   rintro _ w12 ⟨dt9, rfl, ht9, hs1⟩
   refine ⟨_, rfl, ?_⟩; replace HS2 := Bx.mk hs1; clear hs1 HF; clear a; intro a HF
   replace HS2 : Bx (St w0 (rdA rb ab n cb (B + 1 + 1 + 21 * k + 1 + (2 + 2 * 9)) :: boxA b6 3 44 (.agg #[.slice (some ⟨g5, 0, none⟩) 64 qc4, .slice qb4 0 qe4, .bool false]) :: rowA encS 1 9 (.slice (some ⟨g5, 0, none⟩) 64 qc4) cs :: rowA WaitD.cells 2 144 (.slice qb4 0 qe4) ([]) :: boxA b1 3 44 (.agg #[.slice none 0 0, .slice none 0 0, .bool false]) :: F) _) := ⟨HS2.out⟩
   clear HS; have HS : Bx (St w0 (boxA b6 3 44 (.agg #[.slice (some ⟨g5, 0, none⟩) 64 qc4, .slice qb4 0 qe4, .bool false]) :: rowA encS 1 9 (.slice (some ⟨g5, 0, none⟩) 64 qc4) cs :: rowA WaitD.cells 2 144 (.slice qb4 0 qe4) ([]) :: boxA b1 3 44 (.agg #[.slice none 0 0, .slice none 0 0, .bool false]) :: F) _) := ⟨(HS2.out.erase 0)⟩
   refine ⟨fun _ => HS.out, ?_⟩
   refine wm_y 6 rfl (by kernel_rfl) (by kernel_rfl) (by kernel_rfl) (fun _ _ _ h => h) (by decide) (by kernel_rfl) (by kernel_rfl) rfl HF rfl rfl (fun _ HS => (yl_indexAddr (e := 9) (i := dn8) (size := 1) rfl (HF.ev rfl) (HF.ev rfl) (by kernel_rfl) rfl (by omega))) HS.out ?_; clear HF a; intro a HF
   refine wm_one 7 (by kernel_rfl) ?_
   refine wo_storeE encS_len rfl rfl rfl rfl (HF.ev rfl) (HF.ev rfl) (by kernel_rfl) HS2.out 2 rfl (by omega) (z := dt9) rfl rfl ?_
   clear HS2; intro w13 HS2; replace HS2 : Bx (St w0 (rdA rb ab n cb (B + 1 + 1 + 21 * k + 1 + (2 + 2 * 9)) :: boxA b6 3 44 (.agg #[.slice (some ⟨g5, 0, none⟩) 64 qc4, .slice qb4 0 qe4, .bool false]) :: rowA encS 1 9 (.slice (some ⟨g5, 0, none⟩) 64 qc4) (cs.set dn8 dt9) :: rowA WaitD.cells 2 144 (.slice qb4 0 qe4) ([]) :: boxA b1 3 44 (.agg #[.slice none 0 0, .slice none 0 0, .bool false]) :: F) _) := ⟨HS2⟩; refine ⟨(fun h => absurd (show true = false from h) (by decide)), ?_⟩
   refine wm_done (by kernel_rfl) ?_
   clear HS; have HS := HS2; clear HS2
   refine ex_block ?_
   refine ex_then ?_
   refine wp_region_lit ?_
   refine wl_mv HF rfl rfl rfl rfl rfl ?_; clear HF a; intro a HF
   refine wl_y rfl HF rfl rfl (yl_subI rfl (HF.ev rfl) (HF.ev rfl) (i64w (by omega))) ?_; clear HF a; intro a HF
   refine wl_as HF rfl rfl rfl rfl rfl ?_; clear HF a; intro a HF
   refine wl_ne ?_
   replace HS : Bx (St w0 (rdA rb ab n cb (B + 1 + 1 + 21 * k + 1 + (2 + 2 * 9)) :: boxA b6 3 44 (.agg #[.slice (some ⟨g5, 0, none⟩) 64 qc4, .slice qb4 0 qe4, .bool false]) :: rowA encS 1 9 (.slice (some ⟨g5, 0, none⟩) 64 qc4) (cs.set dn8 dt9) :: rowA WaitD.cells 2 144 (.slice qb4 0 qe4) ([]) :: boxA b1 3 44 (.agg #[.slice none 0 0, .slice none 0 0, .bool false]) :: F) _) := ⟨(HS.out).pick 0 rfl⟩
   replace HS : Bx (St w0 (rdA rb ab n cb (B + 1 + 1 + 21 * (k + 1)) :: boxA b6 3 44 (.agg #[.slice (some ⟨g5, 0, none⟩) 64 qc4, .slice qb4 0 qe4, .bool false]) :: rowA encS 1 9 (.slice (some ⟨g5, 0, none⟩) 64 qc4) (cs.set dn8 dt9) :: rowA WaitD.cells 2 144 (.slice qb4 0 qe4) ([]) :: boxA b1 3 44 (.agg #[.slice none 0 0, .slice none 0 0, .bool false]) :: F) _) := ⟨HS.out.rdLe (by omega)⟩
   exact ⟨k + 1, ⟨cs.set dn8 dt9, ⟨by omega, by rw [List.length_set]; exact hcl, (fun x hx => (List.mem_or_eq_of_mem_set hx).elim (hc x) fun e => by rw [e]; omega)⟩, HF.less _ ⟨rfl, rfl, rfl, (by show some (Value.int .i64 _) = some (Value.int .i64 _); exact congrArg (fun z => some (Value.int .i64 z)) (by omega)), trivial⟩, HS.out⟩, (by omega)⟩
  ·clear HF; have HF := HF1; clear HF1
   have dcc2 := of_decide_eq_false cc2
   refine wc_false HF rfl ?_
   refine wp_exit ?_
   refine ex_then_exit ?_
   refine ex_then_exit ?_
   refine ex_block_hit ?_
   refine ex_then ?_
   refine wp_seq ?_
   refine wp_sr ?_
   refine wl_mv HF rfl rfl rfl rfl rfl ?_; clear HF a; intro a HF
   replace HS : Bx (St w0 (rdA rb ab n cb (B + 1 + 1 + 21 * k) :: boxA b6 3 44 (.agg #[.slice (some ⟨g5, 0, none⟩) 64 qc4, .slice qb4 0 qe4, .bool false]) :: rowA encS 1 9 (.slice (some ⟨g5, 0, none⟩) 64 qc4) cs :: rowA WaitD.cells 2 144 (.slice qb4 0 qe4) ([]) :: boxA b1 3 44 (.agg #[.slice none 0 0, .slice none 0 0, .bool false]) :: F) _) := ⟨(HS.out).pick 0 rfl⟩
   refine wl_call rfl HF rfl (enter_of Try.func110 (by kernel_rfl) rfl) (args := #[.pointer (some ⟨rb, 0, none⟩), .int .i64 7]) rfl (pickN w0 _ rb ab n cb bs hn hR (B + 1 + 1 + 21 * k) (by omega) 7 (by omega) _ HS.out) rfl rfl ?_
   rintro _ w14 ⟨dn10, rfl, hu10, hs1⟩
   refine ⟨_, rfl, ?_⟩; replace HS := Bx.mk hs1; clear hs1 HF; clear a; intro a HF
   replace HS : Bx (St w0 (rdA rb ab n cb (B + 1 + 1 + 21 * k + 1) :: boxA b6 3 44 (.agg #[.slice (some ⟨g5, 0, none⟩) 64 qc4, .slice qb4 0 qe4, .bool false]) :: rowA encS 1 9 (.slice (some ⟨g5, 0, none⟩) 64 qc4) cs :: rowA WaitD.cells 2 144 (.slice qb4 0 qe4) ([]) :: boxA b1 3 44 (.agg #[.slice none 0 0, .slice none 0 0, .bool false]) :: F) _) := ⟨HS.out⟩
   refine wl_as HF rfl rfl rfl rfl rfl ?_; clear HF a; intro a HF
   refine wl_ne ?_
   refine wp_block ?_
   replace HS : Bx (St w0 (rdA rb ab n cb (B + 1 + 1 + 21 * k + 1) :: boxA b6 3 44 (.agg #[.slice (some ⟨g5, 0, none⟩) 64 qc4, .slice qb4 0 qe4, .bool false]) :: rowA encS 1 9 (.slice (some ⟨g5, 0, none⟩) 64 qc4) cs :: rowA WaitD.cells 2 144 (.slice qb4 0 qe4) ([]) :: boxA b1 3 44 (.agg #[.slice none 0 0, .slice none 0 0, .bool false]) :: F) _) := ⟨(HS.out).pick 0 rfl⟩
   replace HS : Bx (St w0 (rdA rb ab n cb (B + 1 + 1 + 21 * k + 1 + 21 * 0) :: boxA b6 3 44 (.agg #[.slice (some ⟨g5, 0, none⟩) 64 qc4, .slice qb4 0 qe4, .bool false]) :: rowA encS 1 9 (.slice (some ⟨g5, 0, none⟩) 64 qc4) cs :: rowA WaitD.cells 2 144 (.slice qb4 0 qe4) ([]) :: boxA b1 3 44 (.agg #[.slice none 0 0, .slice none 0 0, .bool false]) :: F) _) := ⟨HS.out.rdLe (by omega)⟩
   refine wc_loop (ι := Nat) (fun k2 a w => ∃ (aw : Option Addr) (cw : Nat) (ws : List WaitD), (k2 ≤ dn10 ∧ ws.length = k2 ∧ ∀ x, x ∈ ws → x.fText.size ≤ 1000) ∧ Fr 93 a [(0, .pointer (some ⟨rb, 0, none⟩)), (2, .pointer (some ⟨b1, 0, none⟩)), (3, .pointer (some ⟨b6, 0, none⟩)), (5, .int .i64 ((dn10 : Int) - (k2 : Int)))] ∧ St w0 (rdA rb ab n cb (B + 1 + 1 + 21 * k + 1 + 21 * k2) :: boxA b6 3 44 (.agg #[.slice (some ⟨g5, 0, none⟩) 64 qc4, .slice aw ws.length cw, .bool false]) :: rowA encS 1 9 (.slice (some ⟨g5, 0, none⟩) 64 qc4) cs :: rowA WaitD.cells 2 144 (.slice aw ws.length cw) ws :: boxA b1 3 44 (.agg #[.slice none 0 0, .slice none 0 0, .bool false]) :: F) w) (fun k2 => dn10 - k2) 0 ⟨_, _, [], ⟨Nat.zero_le _, rfl, fun x hx => by cases hx⟩, HF.less _ ⟨rfl, rfl, rfl, (by show some (Value.int .i64 _) = some (Value.int .i64 _); exact congrArg (fun z => some (Value.int .i64 z)) (by omega)), trivial⟩, HS.out⟩ ?_
   clear HF HS; clear a
   rintro k2 a w15 ⟨aw, cw, ws, ⟨hk, hwl, hw⟩, HF, HS⟩
   replace HS := Bx.mk HS
   refine wp_seq ?_
   refine wp_sr ?_
   refine wl_mv HF rfl rfl rfl rfl rfl ?_; clear HF a; intro a HF
   refine wl_y rfl HF rfl rfl (yl_gtrI rfl (HF.ev rfl) (HF.ev rfl)) ?_; clear HF a; intro a HF
   refine wl_ne ?_
   refine HF.cases 27 rfl (fun cc3 HF1 => ?_) (fun cc3 HF1 => ?_)
   ·clear HF; have HF := HF1; clear HF1
    have dcc3 := of_decide_eq_true cc3
    refine wc_true HF rfl ?_
    refine wp_skip ?_
    refine ex_then ?_
    refine wp_seq ?_
    refine wp_block ?_
    refine wr_marked (W := w0) (s := boxA b6 3 44 (.agg #[.slice (some ⟨g5, 0, none⟩) 64 qc4, .slice aw ws.length cw, .bool false]) :: rowA encS 1 9 (.slice (some ⟨g5, 0, none⟩) 64 qc4) cs :: boxA b1 3 44 (.agg #[.slice none 0 0, .slice none 0 0, .bool false]) :: F) 10 (by kernel_rfl) ?_
    have HS2 := Bx.mk HS.out.drew; replace HS := Bx.mk (show St w0 (boxA b6 3 44 (.agg #[.slice (some ⟨g5, 0, none⟩) 64 qc4, .slice aw ws.length cw, .bool false]) :: rowA encS 1 9 (.slice (some ⟨g5, 0, none⟩) 64 qc4) cs :: boxA b1 3 44 (.agg #[.slice none 0 0, .slice none 0 0, .bool false]) :: F) _ from ((HS.out.drew.erase 3).erase 0)); generalize World.drew _ = w16 at HS HS2 ⊢
    refine wm_t 0 rfl (by kernel_rfl) (by kernel_rfl) (by kernel_rfl) (fun _ _ _ h => h) (by decide) rfl HF rfl rfl (fun _ _ => (yl_fieldAddr (j := 1) rfl (HF.ev rfl) (by kernel_rfl))) (fun _ => HS.out) ?_; clear HF a; intro a HF
    refine wm_y 1 rfl (by kernel_rfl) (by kernel_rfl) (by kernel_rfl) (fun _ _ _ h => h) (by decide) (by kernel_rfl) (by kernel_rfl) rfl HF rfl rfl (fun _ HS => (yl_load (v := .slice aw ws.length cw) rfl (HF.ev rfl) (((HS.box 0 rfl).cell 1).trans rfl) (by kernel_rfl))) HS.out ?_; clear HF a; intro a HF
    refine wm_t 2 rfl (by kernel_rfl) (by kernel_rfl) (by kernel_rfl) (fun _ _ _ h => h) (by decide) rfl HF rfl rfl (fun _ _ => (yl_move rfl (HF.ev rfl))) (fun _ => HS.out) ?_; clear HF a; intro a HF
    refine wm_t 4 rfl (by kernel_rfl) (by kernel_rfl) (by kernel_rfl) (fun _ _ _ h => h) (by decide) rfl HF rfl rfl (fun _ _ => (yl_move rfl (HF.ev rfl))) (fun _ => HS.out) ?_; clear HF a; intro a HF
    refine wm_one 3 (by kernel_rfl) ?_
    replace HS2 : Bx (St w0 (rdA rb ab n cb (B + 1 + 1 + 21 * k + 1 + 21 * k2) :: boxA b6 3 44 (.agg #[.slice (some ⟨g5, 0, none⟩) 64 qc4, .slice aw ws.length cw, .bool false]) :: rowA encS 1 9 (.slice (some ⟨g5, 0, none⟩) 64 qc4) cs :: rowA WaitD.cells 2 144 (.slice aw ws.length cw) ws :: boxA b1 3 44 (.agg #[.slice none 0 0, .slice none 0 0, .bool false]) :: F) _) := ⟨(HS2.out).pick 0 rfl⟩
    refine wo_call rfl rfl HF rfl (enter_of Try.func110 (by kernel_rfl) rfl) (args := #[.pointer (some ⟨rb, 0, none⟩), .int .i64 14]) rfl (pickN w0 _ rb ab n cb bs hn hR (B + 1 + 1 + 21 * k + 1 + 21 * k2) (by omega) 14 (by omega) _ HS2.out) rfl rfl ?_
    rintro _ w17 ⟨dn11, rfl, hu11, hs1⟩
    refine ⟨_, rfl, ?_⟩; replace HS2 := Bx.mk hs1; clear hs1 HF; clear a; intro a HF
    replace HS2 : Bx (St w0 (rdA rb ab n cb (B + 1 + 1 + 21 * k + 1 + 21 * k2 + 1) :: boxA b6 3 44 (.agg #[.slice (some ⟨g5, 0, none⟩) 64 qc4, .slice aw ws.length cw, .bool false]) :: rowA encS 1 9 (.slice (some ⟨g5, 0, none⟩) 64 qc4) cs :: rowA WaitD.cells 2 144 (.slice aw ws.length cw) ws :: boxA b1 3 44 (.agg #[.slice none 0 0, .slice none 0 0, .bool false]) :: F) _) := ⟨HS2.out⟩
    clear HS; have HS : Bx (St w0 (boxA b6 3 44 (.agg #[.slice (some ⟨g5, 0, none⟩) 64 qc4, .slice aw ws.length cw, .bool false]) :: rowA encS 1 9 (.slice (some ⟨g5, 0, none⟩) 64 qc4) cs :: boxA b1 3 44 (.agg #[.slice none 0 0, .slice none 0 0, .bool false]) :: F) _) := ⟨((HS2.out.erase 3).erase 0)⟩
    refine ⟨fun _ => HS.out, ?_⟩
    refine wm_one 5 (by kernel_rfl) ?_
    replace HS2 : Bx (St w0 (rdA rb ab n cb (B + 1 + 1 + 21 * k + 1 + 21 * k2 + 1) :: boxA b6 3 44 (.agg #[.slice (some ⟨g5, 0, none⟩) 64 qc4, .slice aw ws.length cw, .bool false]) :: rowA encS 1 9 (.slice (some ⟨g5, 0, none⟩) 64 qc4) cs :: rowA WaitD.cells 2 144 (.slice aw ws.length cw) ws :: boxA b1 3 44 (.agg #[.slice none 0 0, .slice none 0 0, .bool false]) :: F) _) := ⟨(HS2.out).pick 0 rfl⟩
    refine wo_call rfl rfl HF rfl (enter_of Try.func111 (by kernel_rfl) rfl) (args := #[.pointer (some ⟨rb, 0, none⟩), .int .i64 9]) rfl (l91Text_any w0 _ rb ab n cb bs hn hR (B + 1 + 1 + 21 * k + 1 + 21 * k2 + 1) (by omega) 9 (by omega) _ HS2.out) rfl rfl ?_
    rintro _ w18 ⟨dt12, rfl, ht12, hs1⟩
    refine ⟨_, rfl, ?_⟩; replace HS2 := Bx.mk hs1; clear hs1 HF; clear a; intro a HF
    replace HS2 : Bx (St w0 (rdA rb ab n cb (B + 1 + 1 + 21 * k + 1 + 21 * k2 + 1 + (2 + 2 * 9)) :: boxA b6 3 44 (.agg #[.slice (some ⟨g5, 0, none⟩) 64 qc4, .slice aw ws.length cw, .bool false]) :: rowA encS 1 9 (.slice (some ⟨g5, 0, none⟩) 64 qc4) cs :: rowA WaitD.cells 2 144 (.slice aw ws.length cw) ws :: boxA b1 3 44 (.agg #[.slice none 0 0, .slice none 0 0, .bool false]) :: F) _) := ⟨HS2.out⟩
    clear HS; have HS : Bx (St w0 (boxA b6 3 44 (.agg #[.slice (some ⟨g5, 0, none⟩) 64 qc4, .slice aw ws.length cw, .bool false]) :: rowA encS 1 9 (.slice (some ⟨g5, 0, none⟩) 64 qc4) cs :: boxA b1 3 44 (.agg #[.slice none 0 0, .slice none 0 0, .bool false]) :: F) _) := ⟨((HS2.out.erase 3).erase 0)⟩
    refine ⟨fun _ => HS.out, ?_⟩
    refine wm_y 6 rfl (by kernel_rfl) (by kernel_rfl) (by kernel_rfl) (fun _ _ _ h => h) (by decide) (by kernel_rfl) (by kernel_rfl) rfl HF rfl rfl (fun _ HS => (yl_build HF rfl (ps := [(0, .int .i64 (dn11 : Int)), (1, .string dt12)]) rfl (cs := #[.int .i64 (dn11 : Int), .string dt12]) (by kernel_rfl))) HS.out ?_; clear HF a; intro a HF
    refine wm_one 7 (by kernel_rfl) ?_
    refine wo_buildS (enc := WaitD.cells) (e := 144) (size := 2) rfl rfl HF rfl rfl rfl (ps := [(0, .agg #[.int .i64 (dn11 : Int), .string dt12])]) rfl (cells := [.int .i64 (dn11 : Int), .string dt12]) (by kernel_rfl) [(⟨(dn11 : Int), dt12⟩ : WaitD)] rfl rfl (by unfold maxLen; omega) rfl HS2.out HS.out ?_; clear HF HS HS2 a; intro b13 a w19 HF HS2 HS; replace HS := Bx.mk HS; replace HS2 := Bx.mk HS2; refine ⟨fun _ => HS.out, ?_⟩
    refine wm_one 8 (by kernel_rfl) ?_
    refine wo_appL rfl rfl HF rfl rfl rfl (HF.ev rfl) (HF.ev rfl) elemW WaitD.cells_len HS2.out 4 (xs := ws) rfl (ys := [(⟨(dn11 : Int), dt12⟩ : WaitD)]) (St.rdN HS2.out WaitD.cells_len 0 rfl) (cells_one_W _) (by unfold maxLen; simp only [List.length_cons, List.length_nil]; omega) (by simp only [List.length_cons, List.length_nil]; omega) ?_; clear HF HS HS2 a; intro ao14 cp15 w20 a HF HS2; replace HS2 := Bx.mk HS2
    replace HS2 : Bx (St w0 (rowA WaitD.cells 2 144 (.slice (some ⟨b13, 0, none⟩) 1 1) ([(⟨(dn11 : Int), dt12⟩ : WaitD)]) :: rdA rb ab n cb (B + 1 + 1 + 21 * k + 1 + 21 * k2 + 1 + (2 + 2 * 9)) :: boxA b6 3 44 (.agg #[.slice (some ⟨g5, 0, none⟩) 64 qc4, .slice aw ws.length cw, .bool false]) :: rowA encS 1 9 (.slice (some ⟨g5, 0, none⟩) 64 qc4) cs :: rowA WaitD.cells 2 144 (.slice ao14 (ws.length + ([(⟨(dn11 : Int), dt12⟩ : WaitD)]).length) cp15) (ws ++ ([(⟨(dn11 : Int), dt12⟩ : WaitD)])) :: boxA b1 3 44 (.agg #[.slice none 0 0, .slice none 0 0, .bool false]) :: F) _) := ⟨HS2.out⟩
    have HS : Bx (St w0 (boxA b6 3 44 (.agg #[.slice (some ⟨g5, 0, none⟩) 64 qc4, .slice aw ws.length cw, .bool false]) :: rowA encS 1 9 (.slice (some ⟨g5, 0, none⟩) 64 qc4) cs :: boxA b1 3 44 (.agg #[.slice none 0 0, .slice none 0 0, .bool false]) :: F) _) := ⟨(((HS2.out.erase 4).erase 1).erase 0)⟩
    refine ⟨fun _ => HS.out, ?_⟩
    refine wm_t 9 rfl (by kernel_rfl) (by kernel_rfl) (by kernel_rfl) (fun _ _ _ h => h) (by decide) rfl HF rfl rfl (fun _ _ => (yl_fieldAddr (j := 1) rfl (HF.ev rfl) (by kernel_rfl))) (fun _ => HS.out) ?_; clear HF a; intro a HF
    refine wm_one 10 (by kernel_rfl) ?_
    refine wo_storeF rfl rfl rfl rfl (HF.ev rfl) (HF.ev rfl) (by kernel_rfl) HS2.out 2 rfl rfl rfl ?_
    clear HS2; intro w21 HS2; replace HS2 : Bx (St w0 (rowA WaitD.cells 2 144 (.slice (some ⟨b13, 0, none⟩) 1 1) ([(⟨(dn11 : Int), dt12⟩ : WaitD)]) :: rdA rb ab n cb (B + 1 + 1 + 21 * k + 1 + 21 * k2 + 1 + (2 + 2 * 9)) :: boxA b6 3 44 (.agg #[.slice (some ⟨g5, 0, none⟩) 64 qc4, .slice ao14 (ws.length + ([(⟨(dn11 : Int), dt12⟩ : WaitD)]).length) cp15, .bool false]) :: rowA encS 1 9 (.slice (some ⟨g5, 0, none⟩) 64 qc4) cs :: rowA WaitD.cells 2 144 (.slice ao14 (ws.length + ([(⟨(dn11 : Int), dt12⟩ : WaitD)]).length) cp15) (ws ++ ([(⟨(dn11 : Int), dt12⟩ : WaitD)])) :: boxA b1 3 44 (.agg #[.slice none 0 0, .slice none 0 0, .bool false]) :: F) _) := ⟨HS2⟩; refine ⟨(fun h => absurd (show true = false from h) (by decide)), ?_⟩
    refine wm_done (by kernel_rfl) ?_
    clear HS; have HS := HS2; clear HS2
    refine ex_block ?_
    refine ex_then ?_
    refine wp_region_lit ?_
    refine wl_mv HF rfl rfl rfl rfl rfl ?_; clear HF a; intro a HF
    refine wl_y rfl HF rfl rfl (yl_subI rfl (HF.ev rfl) (HF.ev rfl) (i64w (by omega))) ?_; clear HF a; intro a HF
    refine wl_as HF rfl rfl rfl rfl rfl ?_; clear HF a; intro a HF
    refine wl_ne ?_
    replace HS : Bx (St w0 (rdA rb ab n cb (B + 1 + 1 + 21 * k + 1 + 21 * k2 + 1 + (2 + 2 * 9)) :: rowA WaitD.cells 2 144 (.slice (some ⟨b13, 0, none⟩) 1 1) ([(⟨(dn11 : Int), dt12⟩ : WaitD)]) :: boxA b6 3 44 (.agg #[.slice (some ⟨g5, 0, none⟩) 64 qc4, .slice ao14 (ws.length + ([(⟨(dn11 : Int), dt12⟩ : WaitD)]).length) cp15, .bool false]) :: rowA encS 1 9 (.slice (some ⟨g5, 0, none⟩) 64 qc4) cs :: rowA WaitD.cells 2 144 (.slice ao14 (ws.length + ([(⟨(dn11 : Int), dt12⟩ : WaitD)]).length) cp15) (ws ++ ([(⟨(dn11 : Int), dt12⟩ : WaitD)])) :: boxA b1 3 44 (.agg #[.slice none 0 0, .slice none 0 0, .bool false]) :: F) _) := ⟨(HS.out).pick 1 rfl⟩
    replace HS : Bx (St w0 (rdA rb ab n cb (B + 1 + 1 + 21 * k + 1 + 21 * (k2 + 1)) :: rowA WaitD.cells 2 144 (.slice (some ⟨b13, 0, none⟩) 1 1) ([(⟨(dn11 : Int), dt12⟩ : WaitD)]) :: boxA b6 3 44 (.agg #[.slice (some ⟨g5, 0, none⟩) 64 qc4, .slice ao14 (ws.length + ([(⟨(dn11 : Int), dt12⟩ : WaitD)]).length) cp15, .bool false]) :: rowA encS 1 9 (.slice (some ⟨g5, 0, none⟩) 64 qc4) cs :: rowA WaitD.cells 2 144 (.slice ao14 (ws.length + ([(⟨(dn11 : Int), dt12⟩ : WaitD)]).length) cp15) (ws ++ ([(⟨(dn11 : Int), dt12⟩ : WaitD)])) :: boxA b1 3 44 (.agg #[.slice none 0 0, .slice none 0 0, .bool false]) :: F) _) := ⟨HS.out.rdLe (by omega)⟩
    have hz : ws.length + ([(⟨(dn11 : Int), dt12⟩ : WaitD)]).length = (ws ++ ([(⟨(dn11 : Int), dt12⟩ : WaitD)])).length := (List.length_append ..).symm
    rw [hz] at HS
    have hz1 : (ws ++ ([(⟨(dn11 : Int), dt12⟩ : WaitD)])).length = ws.length + 1 := by rw [List.length_append]; rfl
    replace HS : Bx (St w0 (rdA rb ab n cb (B + 1 + 1 + 21 * k + 1 + 21 * (k2 + 1)) :: boxA b6 3 44 (.agg #[.slice (some ⟨g5, 0, none⟩) 64 qc4, .slice ao14 ((ws ++ ([(⟨(dn11 : Int), dt12⟩ : WaitD)])).length) cp15, .bool false]) :: rowA encS 1 9 (.slice (some ⟨g5, 0, none⟩) 64 qc4) cs :: rowA WaitD.cells 2 144 (.slice ao14 ((ws ++ ([(⟨(dn11 : Int), dt12⟩ : WaitD)])).length) cp15) (ws ++ ([(⟨(dn11 : Int), dt12⟩ : WaitD)])) :: boxA b1 3 44 (.agg #[.slice none 0 0, .slice none 0 0, .bool false]) :: rowA WaitD.cells 2 144 (.slice (some ⟨b13, 0, none⟩) 1 1) ([(⟨(dn11 : Int), dt12⟩ : WaitD)]) :: F) _) := ⟨(((((HS.out).pick 5 rfl).pick 5 rfl).pick 5 rfl).pick 5 rfl).pick 4 rfl⟩
    exact ⟨k2 + 1, ⟨_, _, ws ++ ([(⟨(dn11 : Int), dt12⟩ : WaitD)]), ⟨by omega, by omega, (fun x hx => (List.mem_append.1 hx).elim (hw x) fun e => by rw [List.mem_singleton.1 e]; show dt12.size ≤ 1000; first | omega | decide)⟩, HF.less _ ⟨rfl, rfl, rfl, (by show some (Value.int .i64 _) = some (Value.int .i64 _); exact congrArg (fun z => some (Value.int .i64 z)) (by omega)), trivial⟩, (HS.out.erase 5)⟩, (by omega)⟩
   ·clear HF; have HF := HF1; clear HF1
    have dcc3 := of_decide_eq_false cc3
    refine wc_false HF rfl ?_
    refine wp_exit ?_
    refine ex_then_exit ?_
    refine ex_then_exit ?_
    refine ex_block_hit ?_
    refine ex_then ?_
    refine wp_seq ?_
    refine wp_sr ?_
    refine wl_mv HF rfl rfl rfl rfl rfl ?_; clear HF a; intro a HF
    replace HS : Bx (St w0 (rdA rb ab n cb (B + 1 + 1 + 21 * k + 1 + 21 * k2) :: boxA b6 3 44 (.agg #[.slice (some ⟨g5, 0, none⟩) 64 qc4, .slice aw ws.length cw, .bool false]) :: rowA encS 1 9 (.slice (some ⟨g5, 0, none⟩) 64 qc4) cs :: rowA WaitD.cells 2 144 (.slice aw ws.length cw) ws :: boxA b1 3 44 (.agg #[.slice none 0 0, .slice none 0 0, .bool false]) :: F) _) := ⟨(HS.out).pick 0 rfl⟩
    refine wl_call rfl HF rfl (enter_of Try.func110 (by kernel_rfl) rfl) (args := #[.pointer (some ⟨rb, 0, none⟩), .int .i64 30]) rfl (pickN w0 _ rb ab n cb bs hn hR (B + 1 + 1 + 21 * k + 1 + 21 * k2) (by omega) 30 (by omega) _ HS.out) rfl rfl ?_
    rintro _ w22 ⟨dn16, rfl, hu16, hs1⟩
    refine ⟨_, rfl, ?_⟩; replace HS := Bx.mk hs1; clear hs1 HF; clear a; intro a HF
    replace HS : Bx (St w0 (rdA rb ab n cb (B + 1 + 1 + 21 * k + 1 + 21 * k2 + 1) :: boxA b6 3 44 (.agg #[.slice (some ⟨g5, 0, none⟩) 64 qc4, .slice aw ws.length cw, .bool false]) :: rowA encS 1 9 (.slice (some ⟨g5, 0, none⟩) 64 qc4) cs :: rowA WaitD.cells 2 144 (.slice aw ws.length cw) ws :: boxA b1 3 44 (.agg #[.slice none 0 0, .slice none 0 0, .bool false]) :: F) _) := ⟨HS.out⟩
    refine wl_ne ?_
    refine wp_block ?_
    refine wp_sr ?_
    refine wl_y rfl HF rfl rfl (yl_eqlI rfl (HF.ev rfl) (HF.ev rfl)) ?_; clear HF a; intro a HF
    refine wl_as HF rfl rfl rfl rfl rfl ?_; clear HF a; intro a HF
    refine wl_ne ?_
    refine HF.cases 42 rfl (fun cc4 HF1 => ?_) (fun cc4 HF1 => ?_)
    ·clear HF; have HF := HF1; clear HF1
     have dcc4 := eq_of_beq cc4
     refine wc_true HF rfl ?_
     refine wp_region_lit ?_
     refine wl_y rfl HF rfl rfl (yl_fieldAddr (j := 0) rfl (HF.ev rfl) (by kernel_rfl)) ?_; clear HF a; intro a HF
     refine wl_y rfl HF rfl rfl (yl_load (v := .slice (some ⟨g5, 0, none⟩) 64 qc4) rfl (HF.ev rfl) (((HS.out.box 1 rfl).cell 0).trans rfl) (by kernel_rfl)) ?_; clear HF a; intro a HF
     refine wl_y rfl HF rfl rfl (yl_sliceLo (e := 9) (size := 1) (k := 1) rfl (HF.ev rfl) (HF.ev rfl) (by kernel_rfl) (by omega) (by omega) (Nat.lt_of_lt_of_le (by omega) (St.capLe HS.out 2 rfl))) ?_; clear HF a; intro a HF
     refine wl_y rfl HF rfl rfl (yl_fieldAddr (j := 0) rfl (HF.ev rfl) (by kernel_rfl)) ?_; clear HF a; intro a HF
     refine wl_storeF rfl rfl rfl (HF.ev rfl) (HF.ev rfl) (by kernel_rfl) HS.out 1 rfl rfl rfl ?_; clear HS; intro w23 HS; replace HS := Bx.mk HS
     have HS : Bx (St w0 (rdA rb ab n cb (B + 1 + 1 + 21 * k + 1 + 21 * k2 + 1) :: boxA b6 3 44 (.agg #[.slice (some ⟨g5, 0 + 1 * 1, none⟩) (64 - 1) (qc4 - 1), .slice aw ws.length cw, .bool false]) :: rowA encS 1 9 (.slice (some ⟨g5, 0, none⟩) 64 qc4) cs :: rowA WaitD.cells 2 144 (.slice aw ws.length cw) ws :: boxA b1 3 44 (.agg #[.slice none 0 0, .slice none 0 0, .bool false]) :: F) _) := HS
     refine wpList_nil ?_
     refine ex_block ?_
     refine ex_then ?_
     refine wp_sr ?_
     refine wl_y rfl HF rfl rfl (yl_loadR (cs := [.slice (some ⟨g5, 0 + 1 * 1, none⟩) (64 - 1) (qc4 - 1), .slice aw ws.length cw, .bool false]) rfl (HF.ev rfl) ((HS.out.box 1 rfl).sub 0 3) (by kernel_rfl)) ?_; clear HF a; intro a HF
     refine wl_storeBox rfl HF rfl rfl (HF.ev rfl) (HF.ev rfl) HS.out 4 rfl (cells_lit [.slice (some ⟨g5, 0 + 1 * 1, none⟩) (64 - 1) (qc4 - 1), .slice aw ws.length cw, .bool false] rfl rfl) (by kernel_rfl) ?_; clear HS; intro w24 HS; replace HS := Bx.mk HS
     have HS : Bx (St w0 (rdA rb ab n cb (B + 1 + 1 + 21 * k + 1 + 21 * k2 + 1) :: boxA b6 3 44 (.agg #[.slice (some ⟨g5, 0 + 1 * 1, none⟩) (64 - 1) (qc4 - 1), .slice aw ws.length cw, .bool false]) :: rowA encS 1 9 (.slice (some ⟨g5, 0, none⟩) 64 qc4) cs :: rowA WaitD.cells 2 144 (.slice aw ws.length cw) ws :: boxA b1 3 44 (.agg #[.slice (some ⟨g5, 0 + 1 * 1, none⟩) (64 - 1) (qc4 - 1), .slice aw ws.length cw, .bool false]) :: F) _) := HS
     refine wl_ne ?_
     refine wp_ret ?_
     refine bp_ret1 HF Try.results116 (HF.resBox rfl (HS.out.box 4 rfl) (by kernel_rfl)) ?_
     replace HS : Bx (St w0 (rdA rb ab n cb (B + 1 + 1 + 21 * k + 1 + 21 * k2 + 1) :: rowA encS 1 9 (.slice (some ⟨g5, 0, none⟩) 64 qc4) cs :: rowA WaitD.cells 2 144 (.slice aw ws.length cw) ws :: boxA b6 3 44 (.agg #[.slice (some ⟨g5, 0 + 1 * 1, none⟩) (64 - 1) (qc4 - 1), .slice aw ws.length cw, .bool false]) :: boxA b1 3 44 (.agg #[.slice (some ⟨g5, 0 + 1 * 1, none⟩) (64 - 1) (qc4 - 1), .slice aw ws.length cw, .bool false]) :: F) _) := ⟨(((HS.out).pick 3 rfl).pick 3 rfl).pick 2 rfl⟩
     have hwz : ∀ x, x ∈ ws → x.fText.size ≤ 1000 := hw
     have HT := ((St.join (r := [_, _]) (s := _)).1 (((HS.out.rdLe (B' := B + 500) (by omega)).pick 1 rfl).pick 2 rfl).swap).hold (P := fun w => HD.reads w (⟨some ⟨g5, 0 + 1 * 1, none⟩, qc4 - 1, aw, cw, (⟨cs.drop 1, ws, false⟩ : DiskD)⟩ : HD)) (fun w f h => cut_reads (k := 1) hcl (by omega) h)
     refine ⟨(⟨some ⟨g5, 0 + 1 * 1, none⟩, qc4 - 1, aw, cw, (⟨cs.drop 1, ws, false⟩ : DiskD)⟩ : HD), fits_of (by rw [List.length_drop]; omega) (by omega) (fun x hx => hc x (List.mem_of_mem_drop hx)) hwz, ?_, ((HT.swap.erase 3).erase 2)⟩
     show _ = Ending.returned (.agg #[.slice (some ⟨g5, 0 + 1 * 1, none⟩) (cs.drop 1).length (qc4 - 1), .slice aw (ws).length cw, .bool false])
     rw [List.length_drop, hcl]; all_goals rfl
    ·clear HF; have HF := HF1; clear HF1
     have dcc4 := ne_of_beq_false cc4
     refine wc_false HF rfl ?_
     refine wp_sr ?_
     refine wl_y rfl HF rfl rfl (yl_eqlI rfl (HF.ev rfl) (HF.ev rfl)) ?_; clear HF a; intro a HF
     refine wl_as HF rfl rfl rfl rfl rfl ?_; clear HF a; intro a HF
     refine wl_ne ?_
     refine HF.cases 48 rfl (fun cc5 HF1 => ?_) (fun cc5 HF1 => ?_)
     ·clear HF; have HF := HF1; clear HF1
      have dcc5 := eq_of_beq cc5
      refine wc_true HF rfl ?_
      refine wp_region_lit ?_
      refine wl_y rfl HF rfl rfl (yl_fieldAddr (j := 2) rfl (HF.ev rfl) (by kernel_rfl)) ?_; clear HF a; intro a HF
      refine wl_storeF rfl rfl rfl (HF.ev rfl) (HF.ev rfl) (by kernel_rfl) HS.out 1 rfl rfl rfl ?_; clear HS; intro w25 HS; replace HS := Bx.mk HS
      have HS : Bx (St w0 (rdA rb ab n cb (B + 1 + 1 + 21 * k + 1 + 21 * k2 + 1) :: boxA b6 3 44 (.agg #[.slice (some ⟨g5, 0, none⟩) 64 qc4, .slice aw ws.length cw, .bool true]) :: rowA encS 1 9 (.slice (some ⟨g5, 0, none⟩) 64 qc4) cs :: rowA WaitD.cells 2 144 (.slice aw ws.length cw) ws :: boxA b1 3 44 (.agg #[.slice none 0 0, .slice none 0 0, .bool false]) :: F) _) := HS
      refine wpList_nil ?_
      refine ex_block ?_
      refine ex_then ?_
      refine wp_sr ?_
      refine wl_y rfl HF rfl rfl (yl_loadR (cs := [.slice (some ⟨g5, 0, none⟩) 64 qc4, .slice aw ws.length cw, .bool true]) rfl (HF.ev rfl) ((HS.out.box 1 rfl).sub 0 3) (by kernel_rfl)) ?_; clear HF a; intro a HF
      refine wl_storeBox rfl HF rfl rfl (HF.ev rfl) (HF.ev rfl) HS.out 4 rfl (cells_lit [.slice (some ⟨g5, 0, none⟩) 64 qc4, .slice aw ws.length cw, .bool true] rfl rfl) (by kernel_rfl) ?_; clear HS; intro w26 HS; replace HS := Bx.mk HS
      have HS : Bx (St w0 (rdA rb ab n cb (B + 1 + 1 + 21 * k + 1 + 21 * k2 + 1) :: boxA b6 3 44 (.agg #[.slice (some ⟨g5, 0, none⟩) 64 qc4, .slice aw ws.length cw, .bool true]) :: rowA encS 1 9 (.slice (some ⟨g5, 0, none⟩) 64 qc4) cs :: rowA WaitD.cells 2 144 (.slice aw ws.length cw) ws :: boxA b1 3 44 (.agg #[.slice (some ⟨g5, 0, none⟩) 64 qc4, .slice aw ws.length cw, .bool true]) :: F) _) := HS
      refine wl_ne ?_
      refine wp_ret ?_
      refine bp_ret1 HF Try.results116 (HF.resBox rfl (HS.out.box 4 rfl) (by kernel_rfl)) ?_
      replace HS : Bx (St w0 (rdA rb ab n cb (B + 1 + 1 + 21 * k + 1 + 21 * k2 + 1) :: rowA encS 1 9 (.slice (some ⟨g5, 0, none⟩) 64 qc4) cs :: rowA WaitD.cells 2 144 (.slice aw ws.length cw) ws :: boxA b6 3 44 (.agg #[.slice (some ⟨g5, 0, none⟩) 64 qc4, .slice aw ws.length cw, .bool true]) :: boxA b1 3 44 (.agg #[.slice (some ⟨g5, 0, none⟩) 64 qc4, .slice aw ws.length cw, .bool true]) :: F) _) := ⟨(((HS.out).pick 3 rfl).pick 3 rfl).pick 2 rfl⟩
      have hwz : ∀ x, x ∈ ws → x.fText.size ≤ 1000 := hw
      have HT := ((St.join (r := [_, _]) (s := _)).1 (((HS.out.rdLe (B' := B + 500) (by omega)).pick 1 rfl).pick 2 rfl).swap).hold (P := fun w => HD.reads w (⟨some ⟨g5, 0 + 0 * 1, none⟩, qc4 - 0, aw, cw, (⟨cs.drop 0, ws, true⟩ : DiskD)⟩ : HD)) (fun w f h => cut_reads (k := 0) hcl (by omega) h)
      refine ⟨(⟨some ⟨g5, 0 + 0 * 1, none⟩, qc4 - 0, aw, cw, (⟨cs.drop 0, ws, true⟩ : DiskD)⟩ : HD), fits_of (by rw [List.length_drop]; omega) (by omega) (fun x hx => hc x (List.mem_of_mem_drop hx)) hwz, ?_, ((HT.swap.erase 3).erase 2)⟩
      show _ = Ending.returned (.agg #[.slice (some ⟨g5, 0 + 0 * 1, none⟩) (cs.drop 0).length (qc4 - 0), .slice aw (ws).length cw, .bool true])
      rw [List.length_drop, hcl]; all_goals rfl
     ·clear HF; have HF := HF1; clear HF1
      have dcc5 := ne_of_beq_false cc5
      refine wc_false HF rfl ?_
      refine wp_sr ?_
      refine wl_y rfl HF rfl rfl (yl_eqlI rfl (HF.ev rfl) (HF.ev rfl)) ?_; clear HF a; intro a HF
      refine wl_as HF rfl rfl rfl rfl rfl ?_; clear HF a; intro a HF
      refine wl_ne ?_
      refine HF.cases 51 rfl (fun cc6 HF1 => ?_) (fun cc6 HF1 => ?_)
      ·clear HF; have HF := HF1; clear HF1
       have dcc6 := eq_of_beq cc6
       refine wc_true HF rfl ?_
       refine wp_join (R := fun a w => ∃ (b19 : Nat) (dn18 : Nat) (b17 : Nat) (ao20 : Option Addr) (cp21 : Nat), Fr 93 a [(0, .pointer (some ⟨rb, 0, none⟩)), (2, .pointer (some ⟨b1, 0, none⟩)), (3, .pointer (some ⟨b6, 0, none⟩)), (5, .int .i64 ((dn10 : Int) - (k2 : Int))), (26, .int .i64 ((dn10 : Int) - (k2 : Int))), (27, .bool false), (40, .pointer (some ⟨rb, 0, none⟩)), (41, .int .i64 (dn16 : Int)), (43, .bool ((dn16 : Int) == 0)), (42, .bool false), (49, .bool ((dn16 : Int) == 1)), (48, .bool false), (52, .bool ((dn16 : Int) == 2)), (51, .bool true)] ∧ St w0 (rowA WaitD.cells 2 144 (.slice (some ⟨b19, 0, none⟩) 1 1) ([(⟨(([(-1 : Int), (64 : Int)]).getD dn18 0), (⟨#[119]⟩ : ByteArray)⟩ : WaitD)]) :: rdA rb ab n cb (B + 1 + 1 + 21 * k + 1 + 21 * k2 + 1 + 1) :: rowA encI 1 3 (.slice (some ⟨b17, 0, none⟩) 2 2) ([(-1 : Int), (64 : Int)]) :: boxA b6 3 44 (.agg #[.slice (some ⟨g5, 0, none⟩) 64 qc4, .slice ao20 (ws.length + ([(⟨(([(-1 : Int), (64 : Int)]).getD dn18 0), (⟨#[119]⟩ : ByteArray)⟩ : WaitD)]).length) cp21, .bool false]) :: rowA encS 1 9 (.slice (some ⟨g5, 0, none⟩) 64 qc4) cs :: rowA WaitD.cells 2 144 (.slice ao20 (ws.length + ([(⟨(([(-1 : Int), (64 : Int)]).getD dn18 0), (⟨#[119]⟩ : ByteArray)⟩ : WaitD)]).length) cp21) (ws ++ ([(⟨(([(-1 : Int), (64 : Int)]).getD dn18 0), (⟨#[119]⟩ : ByteArray)⟩ : WaitD)])) :: boxA b1 3 44 (.agg #[.slice none 0 0, .slice none 0 0, .bool false]) :: F) w) ?_ ?_
       ·skip
        have hl2 : [(-1 : Int), (64 : Int)].length = 2 := rfl
        refine wr_marked (W := w0) (s := boxA b6 3 44 (.agg #[.slice (some ⟨g5, 0, none⟩) 64 qc4, .slice aw ws.length cw, .bool false]) :: rowA encS 1 9 (.slice (some ⟨g5, 0, none⟩) 64 qc4) cs :: boxA b1 3 44 (.agg #[.slice none 0 0, .slice none 0 0, .bool false]) :: F) 11 (by kernel_rfl) ?_
        have HS2 := Bx.mk HS.out.drew; replace HS := Bx.mk (show St w0 (boxA b6 3 44 (.agg #[.slice (some ⟨g5, 0, none⟩) 64 qc4, .slice aw ws.length cw, .bool false]) :: rowA encS 1 9 (.slice (some ⟨g5, 0, none⟩) 64 qc4) cs :: boxA b1 3 44 (.agg #[.slice none 0 0, .slice none 0 0, .bool false]) :: F) _ from ((HS.out.drew.erase 3).erase 0)); generalize World.drew _ = w27 at HS HS2 ⊢
        refine wm_t 0 rfl (by kernel_rfl) (by kernel_rfl) (by kernel_rfl) (fun _ _ _ h => h) (by decide) rfl HF rfl rfl (fun _ _ => (yl_fieldAddr (j := 1) rfl (HF.ev rfl) (by kernel_rfl))) (fun _ => HS.out) ?_; clear HF a; intro a HF
        refine wm_y 1 rfl (by kernel_rfl) (by kernel_rfl) (by kernel_rfl) (fun _ _ _ h => h) (by decide) (by kernel_rfl) (by kernel_rfl) rfl HF rfl rfl (fun _ HS => (yl_load (v := .slice aw ws.length cw) rfl (HF.ev rfl) (((HS.box 0 rfl).cell 1).trans rfl) (by kernel_rfl))) HS.out ?_; clear HF a; intro a HF
        refine wm_t 3 rfl (by kernel_rfl) (by kernel_rfl) (by kernel_rfl) (fun _ _ _ h => h) (by decide) rfl HF rfl rfl (fun _ _ => (yl_move rfl (HF.ev rfl))) (fun _ => HS.out) ?_; clear HF a; intro a HF
        refine wm_two 2 4 (by kernel_rfl) ?_ ?_
        ·skip
         refine wo_buildS (enc := encI) (e := 3) (size := 1) rfl rfl HF rfl rfl rfl (ps := [(0, .int .i64 (-1)), (1, .int .i64 64)]) rfl (cells := [.int .i64 (-1), .int .i64 64]) (by kernel_rfl) [(-1 : Int), (64 : Int)] rfl rfl (by unfold maxLen; omega) rfl HS2.out HS.out ?_; clear HF HS HS2 a; intro b17 a w28 HF HS2 HS; replace HS := Bx.mk HS; replace HS2 := Bx.mk HS2; refine ⟨fun _ => HS.out, ?_⟩
         refine wm_one 4 (by kernel_rfl) ?_
         replace HS2 : Bx (St w0 (rdA rb ab n cb (B + 1 + 1 + 21 * k + 1 + 21 * k2 + 1) :: rowA encI 1 3 (.slice (some ⟨b17, 0, none⟩) 2 2) ([(-1 : Int), (64 : Int)]) :: boxA b6 3 44 (.agg #[.slice (some ⟨g5, 0, none⟩) 64 qc4, .slice aw ws.length cw, .bool false]) :: rowA encS 1 9 (.slice (some ⟨g5, 0, none⟩) 64 qc4) cs :: rowA WaitD.cells 2 144 (.slice aw ws.length cw) ws :: boxA b1 3 44 (.agg #[.slice none 0 0, .slice none 0 0, .bool false]) :: F) _) := ⟨(HS2.out).pick 1 rfl⟩
         refine wo_call rfl rfl HF rfl (enter_of Try.func110 (by kernel_rfl) rfl) (args := #[.pointer (some ⟨rb, 0, none⟩), .int .i64 2]) rfl (pickN w0 _ rb ab n cb bs hn hR (B + 1 + 1 + 21 * k + 1 + 21 * k2 + 1) (by omega) 2 (by omega) _ HS2.out) rfl rfl ?_
         rintro _ w29 ⟨dn18, rfl, hu18, hs1⟩
         refine ⟨_, rfl, ?_⟩; replace HS2 := Bx.mk hs1; clear hs1 HF; clear a; intro a HF
         replace HS2 : Bx (St w0 (rdA rb ab n cb (B + 1 + 1 + 21 * k + 1 + 21 * k2 + 1 + 1) :: rowA encI 1 3 (.slice (some ⟨b17, 0, none⟩) 2 2) ([(-1 : Int), (64 : Int)]) :: boxA b6 3 44 (.agg #[.slice (some ⟨g5, 0, none⟩) 64 qc4, .slice aw ws.length cw, .bool false]) :: rowA encS 1 9 (.slice (some ⟨g5, 0, none⟩) 64 qc4) cs :: rowA WaitD.cells 2 144 (.slice aw ws.length cw) ws :: boxA b1 3 44 (.agg #[.slice none 0 0, .slice none 0 0, .bool false]) :: F) _) := ⟨HS2.out⟩
         clear HS; have HS : Bx (St w0 (boxA b6 3 44 (.agg #[.slice (some ⟨g5, 0, none⟩) 64 qc4, .slice aw ws.length cw, .bool false]) :: rowA encS 1 9 (.slice (some ⟨g5, 0, none⟩) 64 qc4) cs :: boxA b1 3 44 (.agg #[.slice none 0 0, .slice none 0 0, .bool false]) :: F) _) := ⟨(((HS2.out.erase 4).erase 1).erase 0)⟩
         refine ⟨fun _ => HS.out, ?_⟩
         refine wm_y 5 rfl (by kernel_rfl) (by kernel_rfl) (by kernel_rfl) (fun _ _ _ h => h) (by decide) (by kernel_rfl) (by kernel_rfl) rfl HF rfl rfl (fun _ HS => (yl_indexAddr (e := 3) (i := dn18) (size := 1) rfl (HF.ev rfl) (HF.ev rfl) (by kernel_rfl) rfl (by omega))) HS.out ?_; clear HF a; intro a HF
         refine wm_one 6 (by kernel_rfl) ?_
         refine wo_y rfl rfl HF rfl rfl (yl_load (v := .int .i64 (([(-1 : Int), (64 : Int)]).getD dn18 0)) rfl (HF.ev rfl) (HS2.out.elem1 encI_len 1 rfl (get_getD (xs := [(-1 : Int), (64 : Int)]) (j := dn18) (d := 0) (by omega)) rfl) (by kernel_rfl)) ?_; clear HF a; intro a HF; refine ⟨fun _ => HS.out, ?_⟩
         refine wm_y 7 rfl (by kernel_rfl) (by kernel_rfl) (by kernel_rfl) (fun _ _ _ h => h) (by decide) (by kernel_rfl) (by kernel_rfl) rfl HF rfl rfl (fun _ HS => (yl_build HF rfl (ps := [(0, .int .i64 (([(-1 : Int), (64 : Int)]).getD dn18 0)), (1, .string (⟨#[119]⟩ : ByteArray))]) rfl (cs := #[.int .i64 (([(-1 : Int), (64 : Int)]).getD dn18 0), .string (⟨#[119]⟩ : ByteArray)]) (by kernel_rfl))) HS.out ?_; clear HF a; intro a HF
         refine wm_one 8 (by kernel_rfl) ?_
         refine wo_buildS (enc := WaitD.cells) (e := 144) (size := 2) rfl rfl HF rfl rfl rfl (ps := [(0, .agg #[.int .i64 (([(-1 : Int), (64 : Int)]).getD dn18 0), .string (⟨#[119]⟩ : ByteArray)])]) rfl (cells := [.int .i64 (([(-1 : Int), (64 : Int)]).getD dn18 0), .string (⟨#[119]⟩ : ByteArray)]) (by kernel_rfl) [(⟨(([(-1 : Int), (64 : Int)]).getD dn18 0), (⟨#[119]⟩ : ByteArray)⟩ : WaitD)] rfl rfl (by unfold maxLen; omega) rfl HS2.out HS.out ?_; clear HF HS HS2 a; intro b19 a w30 HF HS2 HS; replace HS := Bx.mk HS; replace HS2 := Bx.mk HS2; refine ⟨fun _ => HS.out, ?_⟩
         refine wm_one 9 (by kernel_rfl) ?_
         refine wo_appL rfl rfl HF rfl rfl rfl (HF.ev rfl) (HF.ev rfl) elemW WaitD.cells_len HS2.out 5 (xs := ws) rfl (ys := [(⟨(([(-1 : Int), (64 : Int)]).getD dn18 0), (⟨#[119]⟩ : ByteArray)⟩ : WaitD)]) (St.rdN HS2.out WaitD.cells_len 0 rfl) (cells_one_W _) (by unfold maxLen; simp only [List.length_cons, List.length_nil]; omega) (by simp only [List.length_cons, List.length_nil]; omega) ?_; clear HF HS HS2 a; intro ao20 cp21 w31 a HF HS2; replace HS2 := Bx.mk HS2
         replace HS2 : Bx (St w0 (rowA WaitD.cells 2 144 (.slice (some ⟨b19, 0, none⟩) 1 1) ([(⟨(([(-1 : Int), (64 : Int)]).getD dn18 0), (⟨#[119]⟩ : ByteArray)⟩ : WaitD)]) :: rdA rb ab n cb (B + 1 + 1 + 21 * k + 1 + 21 * k2 + 1 + 1) :: rowA encI 1 3 (.slice (some ⟨b17, 0, none⟩) 2 2) ([(-1 : Int), (64 : Int)]) :: boxA b6 3 44 (.agg #[.slice (some ⟨g5, 0, none⟩) 64 qc4, .slice aw ws.length cw, .bool false]) :: rowA encS 1 9 (.slice (some ⟨g5, 0, none⟩) 64 qc4) cs :: rowA WaitD.cells 2 144 (.slice ao20 (ws.length + ([(⟨(([(-1 : Int), (64 : Int)]).getD dn18 0), (⟨#[119]⟩ : ByteArray)⟩ : WaitD)]).length) cp21) (ws ++ ([(⟨(([(-1 : Int), (64 : Int)]).getD dn18 0), (⟨#[119]⟩ : ByteArray)⟩ : WaitD)])) :: boxA b1 3 44 (.agg #[.slice none 0 0, .slice none 0 0, .bool false]) :: F) _) := ⟨HS2.out⟩
         have HS : Bx (St w0 (boxA b6 3 44 (.agg #[.slice (some ⟨g5, 0, none⟩) 64 qc4, .slice aw ws.length cw, .bool false]) :: rowA encS 1 9 (.slice (some ⟨g5, 0, none⟩) 64 qc4) cs :: boxA b1 3 44 (.agg #[.slice none 0 0, .slice none 0 0, .bool false]) :: F) _) := ⟨((((HS2.out.erase 5).erase 2).erase 1).erase 0)⟩
         refine ⟨fun _ => HS.out, ?_⟩
         refine wm_t 10 rfl (by kernel_rfl) (by kernel_rfl) (by kernel_rfl) (fun _ _ _ h => h) (by decide) rfl HF rfl rfl (fun _ _ => (yl_fieldAddr (j := 1) rfl (HF.ev rfl) (by kernel_rfl))) (fun _ => HS.out) ?_; clear HF a; intro a HF
         refine wm_one 11 (by kernel_rfl) ?_
         refine wo_storeF rfl rfl rfl rfl (HF.ev rfl) (HF.ev rfl) (by kernel_rfl) HS2.out 3 rfl rfl rfl ?_
         clear HS2; intro w32 HS2; replace HS2 : Bx (St w0 (rowA WaitD.cells 2 144 (.slice (some ⟨b19, 0, none⟩) 1 1) ([(⟨(([(-1 : Int), (64 : Int)]).getD dn18 0), (⟨#[119]⟩ : ByteArray)⟩ : WaitD)]) :: rdA rb ab n cb (B + 1 + 1 + 21 * k + 1 + 21 * k2 + 1 + 1) :: rowA encI 1 3 (.slice (some ⟨b17, 0, none⟩) 2 2) ([(-1 : Int), (64 : Int)]) :: boxA b6 3 44 (.agg #[.slice (some ⟨g5, 0, none⟩) 64 qc4, .slice ao20 (ws.length + ([(⟨(([(-1 : Int), (64 : Int)]).getD dn18 0), (⟨#[119]⟩ : ByteArray)⟩ : WaitD)]).length) cp21, .bool false]) :: rowA encS 1 9 (.slice (some ⟨g5, 0, none⟩) 64 qc4) cs :: rowA WaitD.cells 2 144 (.slice ao20 (ws.length + ([(⟨(([(-1 : Int), (64 : Int)]).getD dn18 0), (⟨#[119]⟩ : ByteArray)⟩ : WaitD)]).length) cp21) (ws ++ ([(⟨(([(-1 : Int), (64 : Int)]).getD dn18 0), (⟨#[119]⟩ : ByteArray)⟩ : WaitD)])) :: boxA b1 3 44 (.agg #[.slice none 0 0, .slice none 0 0, .bool false]) :: F) _) := ⟨HS2⟩; refine ⟨(fun h => absurd (show true = false from h) (by decide)), ?_⟩
         refine wm_done (by kernel_rfl) ?_
         clear HS; have HS := HS2; clear HS2
         exact on_mk ⟨_, _, _, _, _, HF.less _ ⟨rfl, rfl, rfl, rfl, rfl, rfl, rfl, rfl, rfl, rfl, rfl, rfl, rfl, rfl, trivial⟩, HS.out⟩
        ·skip
         replace HS2 : Bx (St w0 (rdA rb ab n cb (B + 1 + 1 + 21 * k + 1 + 21 * k2 + 1) :: boxA b6 3 44 (.agg #[.slice (some ⟨g5, 0, none⟩) 64 qc4, .slice aw ws.length cw, .bool false]) :: rowA encS 1 9 (.slice (some ⟨g5, 0, none⟩) 64 qc4) cs :: rowA WaitD.cells 2 144 (.slice aw ws.length cw) ws :: boxA b1 3 44 (.agg #[.slice none 0 0, .slice none 0 0, .bool false]) :: F) _) := ⟨(HS2.out).pick 0 rfl⟩
         refine wo_call rfl rfl HF rfl (enter_of Try.func110 (by kernel_rfl) rfl) (args := #[.pointer (some ⟨rb, 0, none⟩), .int .i64 2]) rfl (pickN w0 _ rb ab n cb bs hn hR (B + 1 + 1 + 21 * k + 1 + 21 * k2 + 1) (by omega) 2 (by omega) _ HS2.out) rfl rfl ?_
         rintro _ w33 ⟨dn22, rfl, hu22, hs1⟩
         refine ⟨_, rfl, ?_⟩; replace HS2 := Bx.mk hs1; clear hs1 HF; clear a; intro a HF
         replace HS2 : Bx (St w0 (rdA rb ab n cb (B + 1 + 1 + 21 * k + 1 + 21 * k2 + 1 + 1) :: boxA b6 3 44 (.agg #[.slice (some ⟨g5, 0, none⟩) 64 qc4, .slice aw ws.length cw, .bool false]) :: rowA encS 1 9 (.slice (some ⟨g5, 0, none⟩) 64 qc4) cs :: rowA WaitD.cells 2 144 (.slice aw ws.length cw) ws :: boxA b1 3 44 (.agg #[.slice none 0 0, .slice none 0 0, .bool false]) :: F) _) := ⟨HS2.out⟩
         clear HS; have HS : Bx (St w0 (boxA b6 3 44 (.agg #[.slice (some ⟨g5, 0, none⟩) 64 qc4, .slice aw ws.length cw, .bool false]) :: rowA encS 1 9 (.slice (some ⟨g5, 0, none⟩) 64 qc4) cs :: boxA b1 3 44 (.agg #[.slice none 0 0, .slice none 0 0, .bool false]) :: F) _) := ⟨((HS2.out.erase 3).erase 0)⟩
         refine ⟨fun _ => HS.out, ?_⟩
         refine wm_one 2 (by kernel_rfl) ?_
         refine wo_buildS (enc := encI) (e := 3) (size := 1) rfl rfl HF rfl rfl rfl (ps := [(0, .int .i64 (-1)), (1, .int .i64 64)]) rfl (cells := [.int .i64 (-1), .int .i64 64]) (by kernel_rfl) [(-1 : Int), (64 : Int)] rfl rfl (by unfold maxLen; omega) rfl HS2.out HS.out ?_; clear HF HS HS2 a; intro b23 a w34 HF HS2 HS; replace HS := Bx.mk HS; replace HS2 := Bx.mk HS2; refine ⟨fun _ => HS.out, ?_⟩
         refine wm_y 5 rfl (by kernel_rfl) (by kernel_rfl) (by kernel_rfl) (fun _ _ _ h => h) (by decide) (by kernel_rfl) (by kernel_rfl) rfl HF rfl rfl (fun _ HS => (yl_indexAddr (e := 3) (i := dn22) (size := 1) rfl (HF.ev rfl) (HF.ev rfl) (by kernel_rfl) rfl (by omega))) HS.out ?_; clear HF a; intro a HF
         refine wm_one 6 (by kernel_rfl) ?_
         refine wo_y rfl rfl HF rfl rfl (yl_load (v := .int .i64 (([(-1 : Int), (64 : Int)]).getD dn22 0)) rfl (HF.ev rfl) (HS2.out.elem1 encI_len 0 rfl (get_getD (xs := [(-1 : Int), (64 : Int)]) (j := dn22) (d := 0) (by omega)) rfl) (by kernel_rfl)) ?_; clear HF a; intro a HF; refine ⟨fun _ => HS.out, ?_⟩
         refine wm_y 7 rfl (by kernel_rfl) (by kernel_rfl) (by kernel_rfl) (fun _ _ _ h => h) (by decide) (by kernel_rfl) (by kernel_rfl) rfl HF rfl rfl (fun _ HS => (yl_build HF rfl (ps := [(0, .int .i64 (([(-1 : Int), (64 : Int)]).getD dn22 0)), (1, .string (⟨#[119]⟩ : ByteArray))]) rfl (cs := #[.int .i64 (([(-1 : Int), (64 : Int)]).getD dn22 0), .string (⟨#[119]⟩ : ByteArray)]) (by kernel_rfl))) HS.out ?_; clear HF a; intro a HF
         refine wm_one 8 (by kernel_rfl) ?_
         refine wo_buildS (enc := WaitD.cells) (e := 144) (size := 2) rfl rfl HF rfl rfl rfl (ps := [(0, .agg #[.int .i64 (([(-1 : Int), (64 : Int)]).getD dn22 0), .string (⟨#[119]⟩ : ByteArray)])]) rfl (cells := [.int .i64 (([(-1 : Int), (64 : Int)]).getD dn22 0), .string (⟨#[119]⟩ : ByteArray)]) (by kernel_rfl) [(⟨(([(-1 : Int), (64 : Int)]).getD dn22 0), (⟨#[119]⟩ : ByteArray)⟩ : WaitD)] rfl rfl (by unfold maxLen; omega) rfl HS2.out HS.out ?_; clear HF HS HS2 a; intro b24 a w35 HF HS2 HS; replace HS := Bx.mk HS; replace HS2 := Bx.mk HS2; refine ⟨fun _ => HS.out, ?_⟩
         refine wm_one 9 (by kernel_rfl) ?_
         refine wo_appL rfl rfl HF rfl rfl rfl (HF.ev rfl) (HF.ev rfl) elemW WaitD.cells_len HS2.out 5 (xs := ws) rfl (ys := [(⟨(([(-1 : Int), (64 : Int)]).getD dn22 0), (⟨#[119]⟩ : ByteArray)⟩ : WaitD)]) (St.rdN HS2.out WaitD.cells_len 0 rfl) (cells_one_W _) (by unfold maxLen; simp only [List.length_cons, List.length_nil]; omega) (by simp only [List.length_cons, List.length_nil]; omega) ?_; clear HF HS HS2 a; intro ao25 cp26 w36 a HF HS2; replace HS2 := Bx.mk HS2
         replace HS2 : Bx (St w0 (rowA WaitD.cells 2 144 (.slice (some ⟨b24, 0, none⟩) 1 1) ([(⟨(([(-1 : Int), (64 : Int)]).getD dn22 0), (⟨#[119]⟩ : ByteArray)⟩ : WaitD)]) :: rowA encI 1 3 (.slice (some ⟨b23, 0, none⟩) 2 2) ([(-1 : Int), (64 : Int)]) :: rdA rb ab n cb (B + 1 + 1 + 21 * k + 1 + 21 * k2 + 1 + 1) :: boxA b6 3 44 (.agg #[.slice (some ⟨g5, 0, none⟩) 64 qc4, .slice aw ws.length cw, .bool false]) :: rowA encS 1 9 (.slice (some ⟨g5, 0, none⟩) 64 qc4) cs :: rowA WaitD.cells 2 144 (.slice ao25 (ws.length + ([(⟨(([(-1 : Int), (64 : Int)]).getD dn22 0), (⟨#[119]⟩ : ByteArray)⟩ : WaitD)]).length) cp26) (ws ++ ([(⟨(([(-1 : Int), (64 : Int)]).getD dn22 0), (⟨#[119]⟩ : ByteArray)⟩ : WaitD)])) :: boxA b1 3 44 (.agg #[.slice none 0 0, .slice none 0 0, .bool false]) :: F) _) := ⟨HS2.out⟩
         have HS : Bx (St w0 (boxA b6 3 44 (.agg #[.slice (some ⟨g5, 0, none⟩) 64 qc4, .slice aw ws.length cw, .bool false]) :: rowA encS 1 9 (.slice (some ⟨g5, 0, none⟩) 64 qc4) cs :: boxA b1 3 44 (.agg #[.slice none 0 0, .slice none 0 0, .bool false]) :: F) _) := ⟨((((HS2.out.erase 5).erase 2).erase 1).erase 0)⟩
         refine ⟨fun _ => HS.out, ?_⟩
         refine wm_t 10 rfl (by kernel_rfl) (by kernel_rfl) (by kernel_rfl) (fun _ _ _ h => h) (by decide) rfl HF rfl rfl (fun _ _ => (yl_fieldAddr (j := 1) rfl (HF.ev rfl) (by kernel_rfl))) (fun _ => HS.out) ?_; clear HF a; intro a HF
         refine wm_one 11 (by kernel_rfl) ?_
         refine wo_storeF rfl rfl rfl rfl (HF.ev rfl) (HF.ev rfl) (by kernel_rfl) HS2.out 3 rfl rfl rfl ?_
         clear HS2; intro w37 HS2; replace HS2 : Bx (St w0 (rowA WaitD.cells 2 144 (.slice (some ⟨b24, 0, none⟩) 1 1) ([(⟨(([(-1 : Int), (64 : Int)]).getD dn22 0), (⟨#[119]⟩ : ByteArray)⟩ : WaitD)]) :: rowA encI 1 3 (.slice (some ⟨b23, 0, none⟩) 2 2) ([(-1 : Int), (64 : Int)]) :: rdA rb ab n cb (B + 1 + 1 + 21 * k + 1 + 21 * k2 + 1 + 1) :: boxA b6 3 44 (.agg #[.slice (some ⟨g5, 0, none⟩) 64 qc4, .slice ao25 (ws.length + ([(⟨(([(-1 : Int), (64 : Int)]).getD dn22 0), (⟨#[119]⟩ : ByteArray)⟩ : WaitD)]).length) cp26, .bool false]) :: rowA encS 1 9 (.slice (some ⟨g5, 0, none⟩) 64 qc4) cs :: rowA WaitD.cells 2 144 (.slice ao25 (ws.length + ([(⟨(([(-1 : Int), (64 : Int)]).getD dn22 0), (⟨#[119]⟩ : ByteArray)⟩ : WaitD)]).length) cp26) (ws ++ ([(⟨(([(-1 : Int), (64 : Int)]).getD dn22 0), (⟨#[119]⟩ : ByteArray)⟩ : WaitD)])) :: boxA b1 3 44 (.agg #[.slice none 0 0, .slice none 0 0, .bool false]) :: F) _) := ⟨HS2⟩; refine ⟨(fun h => absurd (show true = false from h) (by decide)), ?_⟩
         refine wm_done (by kernel_rfl) ?_
         clear HS; have HS := HS2; clear HS2
         replace HS : Bx (St w0 (rowA WaitD.cells 2 144 (.slice (some ⟨b24, 0, none⟩) 1 1) ([(⟨(([(-1 : Int), (64 : Int)]).getD dn22 0), (⟨#[119]⟩ : ByteArray)⟩ : WaitD)]) :: rdA rb ab n cb (B + 1 + 1 + 21 * k + 1 + 21 * k2 + 1 + 1) :: rowA encI 1 3 (.slice (some ⟨b23, 0, none⟩) 2 2) ([(-1 : Int), (64 : Int)]) :: boxA b6 3 44 (.agg #[.slice (some ⟨g5, 0, none⟩) 64 qc4, .slice ao25 (ws.length + ([(⟨(([(-1 : Int), (64 : Int)]).getD dn22 0), (⟨#[119]⟩ : ByteArray)⟩ : WaitD)]).length) cp26, .bool false]) :: rowA encS 1 9 (.slice (some ⟨g5, 0, none⟩) 64 qc4) cs :: rowA WaitD.cells 2 144 (.slice ao25 (ws.length + ([(⟨(([(-1 : Int), (64 : Int)]).getD dn22 0), (⟨#[119]⟩ : ByteArray)⟩ : WaitD)]).length) cp26) (ws ++ ([(⟨(([(-1 : Int), (64 : Int)]).getD dn22 0), (⟨#[119]⟩ : ByteArray)⟩ : WaitD)])) :: boxA b1 3 44 (.agg #[.slice none 0 0, .slice none 0 0, .bool false]) :: F) _) := ⟨(((((((HS.out).pick 6 rfl).pick 6 rfl).pick 6 rfl).pick 6 rfl).pick 5 rfl).pick 6 rfl).pick 6 rfl⟩
         exact on_mk ⟨_, _, _, _, _, HF.less _ ⟨rfl, rfl, rfl, rfl, rfl, rfl, rfl, rfl, rfl, rfl, rfl, rfl, rfl, rfl, trivial⟩, HS.out⟩
       clear HF HS a; rintro a w38 ⟨b19, dn18, b17, ao20, cp21, HF, HS⟩; replace HS := Bx.mk HS
       refine ex_block ?_
       refine ex_then ?_
       refine wp_sr ?_
       refine wl_y rfl HF rfl rfl (yl_loadR (cs := [.slice (some ⟨g5, 0, none⟩) 64 qc4, .slice ao20 (ws.length + ([(⟨(([(-1 : Int), (64 : Int)]).getD dn18 0), (⟨#[119]⟩ : ByteArray)⟩ : WaitD)]).length) cp21, .bool false]) rfl (HF.ev rfl) ((HS.out.box 3 rfl).sub 0 3) (by kernel_rfl)) ?_; clear HF a; intro a HF
       refine wl_storeBox rfl HF rfl rfl (HF.ev rfl) (HF.ev rfl) HS.out 6 rfl (cells_lit [.slice (some ⟨g5, 0, none⟩) 64 qc4, .slice ao20 (ws.length + ([(⟨(([(-1 : Int), (64 : Int)]).getD dn18 0), (⟨#[119]⟩ : ByteArray)⟩ : WaitD)]).length) cp21, .bool false] rfl rfl) (by kernel_rfl) ?_; clear HS; intro w39 HS; replace HS := Bx.mk HS
       have HS : Bx (St w0 (rowA WaitD.cells 2 144 (.slice (some ⟨b19, 0, none⟩) 1 1) ([(⟨(([(-1 : Int), (64 : Int)]).getD dn18 0), (⟨#[119]⟩ : ByteArray)⟩ : WaitD)]) :: rdA rb ab n cb (B + 1 + 1 + 21 * k + 1 + 21 * k2 + 1 + 1) :: rowA encI 1 3 (.slice (some ⟨b17, 0, none⟩) 2 2) ([(-1 : Int), (64 : Int)]) :: boxA b6 3 44 (.agg #[.slice (some ⟨g5, 0, none⟩) 64 qc4, .slice ao20 (ws.length + ([(⟨(([(-1 : Int), (64 : Int)]).getD dn18 0), (⟨#[119]⟩ : ByteArray)⟩ : WaitD)]).length) cp21, .bool false]) :: rowA encS 1 9 (.slice (some ⟨g5, 0, none⟩) 64 qc4) cs :: rowA WaitD.cells 2 144 (.slice ao20 (ws.length + ([(⟨(([(-1 : Int), (64 : Int)]).getD dn18 0), (⟨#[119]⟩ : ByteArray)⟩ : WaitD)]).length) cp21) (ws ++ ([(⟨(([(-1 : Int), (64 : Int)]).getD dn18 0), (⟨#[119]⟩ : ByteArray)⟩ : WaitD)])) :: boxA b1 3 44 (.agg #[.slice (some ⟨g5, 0, none⟩) 64 qc4, .slice ao20 (ws.length + ([(⟨(([(-1 : Int), (64 : Int)]).getD dn18 0), (⟨#[119]⟩ : ByteArray)⟩ : WaitD)]).length) cp21, .bool false]) :: F) _) := HS
       refine wl_ne ?_
       refine wp_ret ?_
       refine bp_ret1 HF Try.results116 (HF.resBox rfl (HS.out.box 6 rfl) (by kernel_rfl)) ?_
       replace HS : Bx (St w0 (rdA rb ab n cb (B + 1 + 1 + 21 * k + 1 + 21 * k2 + 1 + 1) :: rowA encS 1 9 (.slice (some ⟨g5, 0, none⟩) 64 qc4) cs :: rowA WaitD.cells 2 144 (.slice ao20 (ws.length + ([(⟨(([(-1 : Int), (64 : Int)]).getD dn18 0), (⟨#[119]⟩ : ByteArray)⟩ : WaitD)]).length) cp21) (ws ++ ([(⟨(([(-1 : Int), (64 : Int)]).getD dn18 0), (⟨#[119]⟩ : ByteArray)⟩ : WaitD)])) :: rowA WaitD.cells 2 144 (.slice (some ⟨b19, 0, none⟩) 1 1) ([(⟨(([(-1 : Int), (64 : Int)]).getD dn18 0), (⟨#[119]⟩ : ByteArray)⟩ : WaitD)]) :: rowA encI 1 3 (.slice (some ⟨b17, 0, none⟩) 2 2) ([(-1 : Int), (64 : Int)]) :: boxA b6 3 44 (.agg #[.slice (some ⟨g5, 0, none⟩) 64 qc4, .slice ao20 (ws.length + ([(⟨(([(-1 : Int), (64 : Int)]).getD dn18 0), (⟨#[119]⟩ : ByteArray)⟩ : WaitD)]).length) cp21, .bool false]) :: boxA b1 3 44 (.agg #[.slice (some ⟨g5, 0, none⟩) 64 qc4, .slice ao20 (ws.length + ([(⟨(([(-1 : Int), (64 : Int)]).getD dn18 0), (⟨#[119]⟩ : ByteArray)⟩ : WaitD)]).length) cp21, .bool false]) :: F) _) := ⟨(((HS.out).pick 5 rfl).pick 5 rfl).pick 3 rfl⟩
       have hz : ws.length + ([(⟨(([(-1 : Int), (64 : Int)]).getD dn18 0), (⟨#[119]⟩ : ByteArray)⟩ : WaitD)]).length = (ws ++ ([(⟨(([(-1 : Int), (64 : Int)]).getD dn18 0), (⟨#[119]⟩ : ByteArray)⟩ : WaitD)])).length := (List.length_append ..).symm
       rw [hz] at HS ⊢
       have hz1 : (ws ++ ([(⟨(([(-1 : Int), (64 : Int)]).getD dn18 0), (⟨#[119]⟩ : ByteArray)⟩ : WaitD)])).length = ws.length + 1 := by rw [List.length_append]; rfl
       have hwz : ∀ x, x ∈ ws ++ ([(⟨(([(-1 : Int), (64 : Int)]).getD dn18 0), (⟨#[119]⟩ : ByteArray)⟩ : WaitD)]) → x.fText.size ≤ 1000 := (fun x hx => (List.mem_append.1 hx).elim (hw x) fun e => by rw [List.mem_singleton.1 e]; show (⟨#[119]⟩ : ByteArray).size ≤ 1000; first | omega | decide)
       have HT := ((St.join (r := [_, _]) (s := _)).1 (((HS.out.rdLe (B' := B + 500) (by omega)).pick 1 rfl).pick 2 rfl).swap).hold (P := fun w => HD.reads w (⟨some ⟨g5, 0 + 0 * 1, none⟩, qc4 - 0, ao20, cp21, (⟨cs.drop 0, ws ++ ([(⟨(([(-1 : Int), (64 : Int)]).getD dn18 0), (⟨#[119]⟩ : ByteArray)⟩ : WaitD)]), false⟩ : DiskD)⟩ : HD)) (fun w f h => cut_reads (k := 0) hcl (by omega) h)
       refine ⟨(⟨some ⟨g5, 0 + 0 * 1, none⟩, qc4 - 0, ao20, cp21, (⟨cs.drop 0, ws ++ ([(⟨(([(-1 : Int), (64 : Int)]).getD dn18 0), (⟨#[119]⟩ : ByteArray)⟩ : WaitD)]), false⟩ : DiskD)⟩ : HD), fits_of (by rw [List.length_drop]; omega) (by omega) (fun x hx => hc x (List.mem_of_mem_drop hx)) hwz, ?_, ((((HT.swap.erase 5).erase 4).erase 3).erase 2)⟩
       show _ = Ending.returned (.agg #[.slice (some ⟨g5, 0 + 0 * 1, none⟩) (cs.drop 0).length (qc4 - 0), .slice ao20 (ws ++ ([(⟨(([(-1 : Int), (64 : Int)]).getD dn18 0), (⟨#[119]⟩ : ByteArray)⟩ : WaitD)])).length cp21, .bool false])
       rw [List.length_drop, hcl]; all_goals rfl
      ·clear HF; have HF := HF1; clear HF1
       have dcc6 := ne_of_beq_false cc6
       refine wc_false HF rfl ?_
       refine wp_sr ?_
       refine wl_y rfl HF rfl rfl (yl_eqlI rfl (HF.ev rfl) (HF.ev rfl)) ?_; clear HF a; intro a HF
       refine wl_as HF rfl rfl rfl rfl rfl ?_; clear HF a; intro a HF
       refine wl_ne ?_
       refine HF.cases 64 rfl (fun cc7 HF1 => ?_) (fun cc7 HF1 => ?_)
       ·clear HF; have HF := HF1; clear HF1
        have dcc7 := eq_of_beq cc7
        refine wc_true HF rfl ?_
        refine wr_marked (W := w0) (s := boxA b6 3 44 (.agg #[.slice (some ⟨g5, 0, none⟩) 64 qc4, .slice aw ws.length cw, .bool false]) :: rowA encS 1 9 (.slice (some ⟨g5, 0, none⟩) 64 qc4) cs :: rowA WaitD.cells 2 144 (.slice aw ws.length cw) ws :: boxA b1 3 44 (.agg #[.slice none 0 0, .slice none 0 0, .bool false]) :: F) 7 (by kernel_rfl) ?_
        have HS2 := Bx.mk HS.out.drew; replace HS := Bx.mk (show St w0 (boxA b6 3 44 (.agg #[.slice (some ⟨g5, 0, none⟩) 64 qc4, .slice aw ws.length cw, .bool false]) :: rowA encS 1 9 (.slice (some ⟨g5, 0, none⟩) 64 qc4) cs :: rowA WaitD.cells 2 144 (.slice aw ws.length cw) ws :: boxA b1 3 44 (.agg #[.slice none 0 0, .slice none 0 0, .bool false]) :: F) _ from (HS.out.drew.erase 0)); generalize World.drew _ = w40 at HS HS2 ⊢
        refine wm_t 0 rfl (by kernel_rfl) (by kernel_rfl) (by kernel_rfl) (fun _ _ _ h => h) (by decide) rfl HF rfl rfl (fun _ _ => (yl_fieldAddr (j := 0) rfl (HF.ev rfl) (by kernel_rfl))) (fun _ => HS.out) ?_; clear HF a; intro a HF
        refine wm_y 1 rfl (by kernel_rfl) (by kernel_rfl) (by kernel_rfl) (fun _ _ _ h => h) (by decide) (by kernel_rfl) (by kernel_rfl) rfl HF rfl rfl (fun _ HS => (yl_load (v := .slice (some ⟨g5, 0, none⟩) 64 qc4) rfl (HF.ev rfl) (((HS.box 0 rfl).cell 0).trans rfl) (by kernel_rfl))) HS.out ?_; clear HF a; intro a HF
        refine wm_t 2 rfl (by kernel_rfl) (by kernel_rfl) (by kernel_rfl) (fun _ _ _ h => h) (by decide) rfl HF rfl rfl (fun _ _ => (yl_move rfl (HF.ev rfl))) (fun _ => HS.out) ?_; clear HF a; intro a HF
        refine wm_one 3 (by kernel_rfl) ?_
        replace HS2 : Bx (St w0 (rdA rb ab n cb (B + 1 + 1 + 21 * k + 1 + 21 * k2 + 1) :: boxA b6 3 44 (.agg #[.slice (some ⟨g5, 0, none⟩) 64 qc4, .slice aw ws.length cw, .bool false]) :: rowA encS 1 9 (.slice (some ⟨g5, 0, none⟩) 64 qc4) cs :: rowA WaitD.cells 2 144 (.slice aw ws.length cw) ws :: boxA b1 3 44 (.agg #[.slice none 0 0, .slice none 0 0, .bool false]) :: F) _) := ⟨(HS2.out).pick 0 rfl⟩
        refine wo_call rfl rfl HF rfl (enter_of Try.func110 (by kernel_rfl) rfl) (args := #[.pointer (some ⟨rb, 0, none⟩), .int .i64 2]) rfl (pickN w0 _ rb ab n cb bs hn hR (B + 1 + 1 + 21 * k + 1 + 21 * k2 + 1) (by omega) 2 (by omega) _ HS2.out) rfl rfl ?_
        rintro _ w41 ⟨dn27, rfl, hu27, hs1⟩
        refine ⟨_, rfl, ?_⟩; replace HS2 := Bx.mk hs1; clear hs1 HF; clear a; intro a HF
        replace HS2 : Bx (St w0 (rdA rb ab n cb (B + 1 + 1 + 21 * k + 1 + 21 * k2 + 1 + 1) :: boxA b6 3 44 (.agg #[.slice (some ⟨g5, 0, none⟩) 64 qc4, .slice aw ws.length cw, .bool false]) :: rowA encS 1 9 (.slice (some ⟨g5, 0, none⟩) 64 qc4) cs :: rowA WaitD.cells 2 144 (.slice aw ws.length cw) ws :: boxA b1 3 44 (.agg #[.slice none 0 0, .slice none 0 0, .bool false]) :: F) _) := ⟨HS2.out⟩
        clear HS; have HS : Bx (St w0 (boxA b6 3 44 (.agg #[.slice (some ⟨g5, 0, none⟩) 64 qc4, .slice aw ws.length cw, .bool false]) :: rowA encS 1 9 (.slice (some ⟨g5, 0, none⟩) 64 qc4) cs :: rowA WaitD.cells 2 144 (.slice aw ws.length cw) ws :: boxA b1 3 44 (.agg #[.slice none 0 0, .slice none 0 0, .bool false]) :: F) _) := ⟨(HS2.out.erase 0)⟩
        refine ⟨fun _ => HS.out, ?_⟩
        refine wm_y 4 rfl (by kernel_rfl) (by kernel_rfl) (by kernel_rfl) (fun _ _ _ h => h) (by decide) (by kernel_rfl) (by kernel_rfl) rfl HF rfl rfl (fun _ HS => (yl_addI rfl (HF.ev rfl) (HF.ev rfl) (i64w (by omega)))) HS.out ?_; clear HF a; intro a HF
        refine wm_one 5 (by kernel_rfl) ?_
        refine wo_callB rfl rfl HF rfl (enter_of Try.func117 (by kernel_rfl) rfl) (args := #[.string (⟨#[121]⟩ : ByteArray), .int .i64 ((200 : Int) + (dn27 : Int))]) rfl (v := .string (manyB (⟨#[121]⟩ : ByteArray) (200 + dn27))) ((l6Many_any (⟨#[121]⟩ : ByteArray) (200 + dn27) _ (by omega) (by show _ * 1 ≤ _; omega) (by decide))) rfl rfl ?_; intro w42 hb; replace HS := Bx.mk (HS.out.later hb); replace HS2 := Bx.mk (HS2.out.later hb); clear hb HF; clear a; intro a HF
        refine ⟨fun _ => HS.out, ?_⟩
        refine wm_y 6 rfl (by kernel_rfl) (by kernel_rfl) (by kernel_rfl) (fun _ _ _ h => h) (by decide) (by kernel_rfl) (by kernel_rfl) rfl HF rfl rfl (fun _ HS => (yl_indexAddr (e := 9) (i := 3) (size := 1) rfl (HF.ev rfl) (HF.ev rfl) (by kernel_rfl) rfl (by omega))) HS.out ?_; clear HF a; intro a HF
        refine wm_one 7 (by kernel_rfl) ?_
        refine wo_storeE encS_len rfl rfl rfl rfl (HF.ev rfl) (HF.ev rfl) (by kernel_rfl) HS2.out 2 rfl (by omega) (z := (manyB (⟨#[121]⟩ : ByteArray) (200 + dn27))) rfl rfl ?_
        clear HS2; intro w43 HS2; replace HS2 : Bx (St w0 (rdA rb ab n cb (B + 1 + 1 + 21 * k + 1 + 21 * k2 + 1 + 1) :: boxA b6 3 44 (.agg #[.slice (some ⟨g5, 0, none⟩) 64 qc4, .slice aw ws.length cw, .bool false]) :: rowA encS 1 9 (.slice (some ⟨g5, 0, none⟩) 64 qc4) (cs.set 3 (manyB (⟨#[121]⟩ : ByteArray) (200 + dn27))) :: rowA WaitD.cells 2 144 (.slice aw ws.length cw) ws :: boxA b1 3 44 (.agg #[.slice none 0 0, .slice none 0 0, .bool false]) :: F) _) := ⟨HS2⟩; refine ⟨(fun h => absurd (show true = false from h) (by decide)), ?_⟩
        refine wm_done (by kernel_rfl) ?_
        clear HS; have HS := HS2; clear HS2
        refine ex_block ?_
        refine ex_then ?_
        refine wp_sr ?_
        refine wl_y rfl HF rfl rfl (yl_loadR (cs := [.slice (some ⟨g5, 0, none⟩) 64 qc4, .slice aw ws.length cw, .bool false]) rfl (HF.ev rfl) ((HS.out.box 1 rfl).sub 0 3) (by kernel_rfl)) ?_; clear HF a; intro a HF
        refine wl_storeBox rfl HF rfl rfl (HF.ev rfl) (HF.ev rfl) HS.out 4 rfl (cells_lit [.slice (some ⟨g5, 0, none⟩) 64 qc4, .slice aw ws.length cw, .bool false] rfl rfl) (by kernel_rfl) ?_; clear HS; intro w44 HS; replace HS := Bx.mk HS
        have HS : Bx (St w0 (rdA rb ab n cb (B + 1 + 1 + 21 * k + 1 + 21 * k2 + 1 + 1) :: boxA b6 3 44 (.agg #[.slice (some ⟨g5, 0, none⟩) 64 qc4, .slice aw ws.length cw, .bool false]) :: rowA encS 1 9 (.slice (some ⟨g5, 0, none⟩) 64 qc4) (cs.set 3 (manyB (⟨#[121]⟩ : ByteArray) (200 + dn27))) :: rowA WaitD.cells 2 144 (.slice aw ws.length cw) ws :: boxA b1 3 44 (.agg #[.slice (some ⟨g5, 0, none⟩) 64 qc4, .slice aw ws.length cw, .bool false]) :: F) _) := HS
        refine wl_ne ?_
        refine wp_ret ?_
        refine bp_ret1 HF Try.results116 (HF.resBox rfl (HS.out.box 4 rfl) (by kernel_rfl)) ?_
        replace HS : Bx (St w0 (rdA rb ab n cb (B + 1 + 1 + 21 * k + 1 + 21 * k2 + 1 + 1) :: rowA encS 1 9 (.slice (some ⟨g5, 0, none⟩) 64 qc4) (cs.set 3 (manyB (⟨#[121]⟩ : ByteArray) (200 + dn27))) :: rowA WaitD.cells 2 144 (.slice aw ws.length cw) ws :: boxA b6 3 44 (.agg #[.slice (some ⟨g5, 0, none⟩) 64 qc4, .slice aw ws.length cw, .bool false]) :: boxA b1 3 44 (.agg #[.slice (some ⟨g5, 0, none⟩) 64 qc4, .slice aw ws.length cw, .bool false]) :: F) _) := ⟨(((HS.out).pick 3 rfl).pick 3 rfl).pick 2 rfl⟩
        replace hc : ∀ x, x ∈ cs.set 3 (manyB (⟨#[121]⟩ : ByteArray) (200 + dn27)) → x.size ≤ 1000 := (fun x hx => (List.mem_or_eq_of_mem_set hx).elim (hc x) fun e => by rw [e, manyB_size]; show _ * 1 ≤ _; omega)
        replace hcl : (cs.set 3 (manyB (⟨#[121]⟩ : ByteArray) (200 + dn27))).length = 64 := (List.length_set ..).trans hcl
        have hwz : ∀ x, x ∈ ws → x.fText.size ≤ 1000 := hw
        have HT := ((St.join (r := [_, _]) (s := _)).1 (((HS.out.rdLe (B' := B + 500) (by omega)).pick 1 rfl).pick 2 rfl).swap).hold (P := fun w => HD.reads w (⟨some ⟨g5, 0 + 0 * 1, none⟩, qc4 - 0, aw, cw, (⟨(cs.set 3 (manyB (⟨#[121]⟩ : ByteArray) (200 + dn27))).drop 0, ws, false⟩ : DiskD)⟩ : HD)) (fun w f h => cut_reads (k := 0) hcl (by omega) h)
        refine ⟨(⟨some ⟨g5, 0 + 0 * 1, none⟩, qc4 - 0, aw, cw, (⟨(cs.set 3 (manyB (⟨#[121]⟩ : ByteArray) (200 + dn27))).drop 0, ws, false⟩ : DiskD)⟩ : HD), fits_of (by rw [List.length_drop]; omega) (by omega) (fun x hx => hc x (List.mem_of_mem_drop hx)) hwz, ?_, ((HT.swap.erase 3).erase 2)⟩
        show _ = Ending.returned (.agg #[.slice (some ⟨g5, 0 + 0 * 1, none⟩) ((cs.set 3 (manyB (⟨#[121]⟩ : ByteArray) (200 + dn27))).drop 0).length (qc4 - 0), .slice aw (ws).length cw, .bool false])
        rw [List.length_drop, hcl]; all_goals rfl
       ·clear HF; have HF := HF1; clear HF1
        have dcc7 := ne_of_beq_false cc7
        refine wc_false HF rfl ?_
        refine wp_sr ?_
        refine wl_y rfl HF rfl rfl (yl_eqlI rfl (HF.ev rfl) (HF.ev rfl)) ?_; clear HF a; intro a HF
        refine wl_as HF rfl rfl rfl rfl rfl ?_; clear HF a; intro a HF
        refine wl_ne ?_
        refine HF.cases 73 rfl (fun cc8 HF1 => ?_) (fun cc8 HF1 => ?_)
        ·clear HF; have HF := HF1; clear HF1
         have dcc8 := eq_of_beq cc8
         refine wc_true HF rfl ?_
         refine wp_block ?_
         replace HS : Bx (St w0 (rdA rb ab n cb (B + 1 + 1 + 21 * k + 1 + 21 * k2 + 1) :: boxA b6 3 44 (.agg #[.slice (some ⟨g5, 0, none⟩) 64 qc4, .slice aw ws.length cw, .bool false]) :: rowA encS 1 9 (.slice (some ⟨g5, 0, none⟩) 64 qc4) cs :: rowA WaitD.cells 2 144 (.slice aw ws.length cw) ws :: boxA b1 3 44 (.agg #[.slice none 0 0, .slice none 0 0, .bool false]) :: F) _) := ⟨(HS.out).pick 0 rfl⟩
         replace HS : Bx (St w0 (rdA rb ab n cb (B + 1 + 1 + 21 * k + 1 + 21 * k2 + 1 + 0) :: boxA b6 3 44 (.agg #[.slice (some ⟨g5, 0, none⟩) 64 qc4, .slice aw ws.length cw, .bool false]) :: rowA encS 1 9 (.slice (some ⟨g5, 0, none⟩) 64 qc4) cs :: rowA WaitD.cells 2 144 (.slice aw ws.length cw) ws :: boxA b1 3 44 (.agg #[.slice none 0 0, .slice none 0 0, .bool false]) :: F) _) := ⟨HS.out.rdLe (by omega)⟩
         refine wc_loop (ι := Nat) (fun j a w => ∃ (aw : Option Addr) (cw : Nat) (ws : List WaitD), (ws.length ≤ 122 ∧ j ≤ ws.length ∧ ∀ x, x ∈ ws → x.fText.size ≤ 1000) ∧ Fr 93 a [(0, .pointer (some ⟨rb, 0, none⟩)), (2, .pointer (some ⟨b1, 0, none⟩)), (3, .pointer (some ⟨b6, 0, none⟩))] ∧ St w0 (rdA rb ab n cb (B + 1 + 1 + 21 * k + 1 + 21 * k2 + 1 + j) :: boxA b6 3 44 (.agg #[.slice (some ⟨g5, 0, none⟩) 64 qc4, .slice aw ws.length cw, .bool false]) :: rowA encS 1 9 (.slice (some ⟨g5, 0, none⟩) 64 qc4) cs :: rowA WaitD.cells 2 144 (.slice aw ws.length cw) ws :: boxA b1 3 44 (.agg #[.slice none 0 0, .slice none 0 0, .bool false]) :: F) w) (fun j => 122 - j) 0 ⟨aw, cw, ws, ⟨by omega, Nat.zero_le _, hw⟩, HF.less _ ⟨rfl, rfl, rfl, trivial⟩, HS.out⟩ ?_
         clear HF HS; clear a
         rintro j a w45 ⟨aw, cw, ws, ⟨hwl, hj, hw⟩, HF, HS⟩
         replace HS := Bx.mk HS
         refine wp_seq ?_
         refine wp_seq ?_
         refine wr_heldS (s := boxA b6 3 44 (.agg #[.slice (some ⟨g5, 0, none⟩) 64 qc4, .slice aw ws.length cw, .bool false]) :: rowA encS 1 9 (.slice (some ⟨g5, 0, none⟩) 64 qc4) cs :: rowA WaitD.cells 2 144 (.slice aw ws.length cw) ws :: boxA b1 3 44 (.agg #[.slice none 0 0, .slice none 0 0, .bool false]) :: F) (by kernel_rfl) (St.drew ((HS.out.erase 0))) ?_
         have HS2 := Bx.mk HS.out.drew; replace HS := Bx.mk (show St w0 (boxA b6 3 44 (.agg #[.slice (some ⟨g5, 0, none⟩) 64 qc4, .slice aw ws.length cw, .bool false]) :: rowA encS 1 9 (.slice (some ⟨g5, 0, none⟩) 64 qc4) cs :: rowA WaitD.cells 2 144 (.slice aw ws.length cw) ws :: boxA b1 3 44 (.agg #[.slice none 0 0, .slice none 0 0, .bool false]) :: F) _ from (HS.out.drew.erase 0))
         generalize World.drew _ = w46 at HS HS2 ⊢
         refine wh_y 0 rfl (by kernel_rfl) (by kernel_rfl) (by kernel_rfl) (fun _ _ _ h => h) rfl HF rfl rfl (fun _ HS => (yl_fieldAddr (j := 1) rfl (HF.ev rfl) (by kernel_rfl))) HS.out ?_; clear HF a; intro a HF
         refine wh_y 1 rfl (by kernel_rfl) (by kernel_rfl) (by kernel_rfl) (fun _ _ _ h => h) rfl HF rfl rfl (fun _ HS => (yl_load (v := .slice aw ws.length cw) rfl (HF.ev rfl) (((HS.box 0 rfl).cell 1).trans rfl) (by kernel_rfl))) HS.out ?_; clear HF a; intro a HF
         refine wh_y 2 rfl (by kernel_rfl) (by kernel_rfl) (by kernel_rfl) (fun _ _ _ h => h) rfl HF rfl rfl (fun _ HS => (yl_lenL (e := 144) (size := 2) rfl (HF.ev rfl) (by kernel_rfl))) HS.out ?_; clear HF a; intro a HF
         refine wh_y 3 rfl (by kernel_rfl) (by kernel_rfl) (by kernel_rfl) (fun _ _ _ h => h) rfl HF rfl rfl (fun _ HS => (yl_move rfl (HF.ev rfl))) HS.out ?_; clear HF a; intro a HF
         refine wh_one 4 (by kernel_rfl) ?_
         replace HS2 : Bx (St w0 (rdA rb ab n cb (B + 1 + 1 + 21 * k + 1 + 21 * k2 + 1 + j) :: boxA b6 3 44 (.agg #[.slice (some ⟨g5, 0, none⟩) 64 qc4, .slice aw ws.length cw, .bool false]) :: rowA encS 1 9 (.slice (some ⟨g5, 0, none⟩) 64 qc4) cs :: rowA WaitD.cells 2 144 (.slice aw ws.length cw) ws :: boxA b1 3 44 (.agg #[.slice none 0 0, .slice none 0 0, .bool false]) :: F) _) := ⟨(HS2.out).pick 0 rfl⟩
         refine wo_call rfl rfl HF rfl (enter_of Try.func110 (by kernel_rfl) rfl) (args := #[.pointer (some ⟨rb, 0, none⟩), .int .i64 2]) rfl (pickN w0 _ rb ab n cb bs hn hR (B + 1 + 1 + 21 * k + 1 + 21 * k2 + 1 + j) (by omega) 2 (by omega) _ HS2.out) rfl rfl ?_
         rintro _ w48 ⟨dn28, rfl, hu28, hs1⟩
         refine ⟨_, rfl, ?_⟩; replace HS2 := Bx.mk hs1; clear hs1 HF; clear a; intro a HF
         replace HS2 : Bx (St w0 (rdA rb ab n cb (B + 1 + 1 + 21 * k + 1 + 21 * k2 + 1 + j + 1) :: boxA b6 3 44 (.agg #[.slice (some ⟨g5, 0, none⟩) 64 qc4, .slice aw ws.length cw, .bool false]) :: rowA encS 1 9 (.slice (some ⟨g5, 0, none⟩) 64 qc4) cs :: rowA WaitD.cells 2 144 (.slice aw ws.length cw) ws :: boxA b1 3 44 (.agg #[.slice none 0 0, .slice none 0 0, .bool false]) :: F) _) := ⟨HS2.out⟩
         clear HS; have HS : Bx (St w0 (boxA b6 3 44 (.agg #[.slice (some ⟨g5, 0, none⟩) 64 qc4, .slice aw ws.length cw, .bool false]) :: rowA encS 1 9 (.slice (some ⟨g5, 0, none⟩) 64 qc4) cs :: rowA WaitD.cells 2 144 (.slice aw ws.length cw) ws :: boxA b1 3 44 (.agg #[.slice none 0 0, .slice none 0 0, .bool false]) :: F) _) := ⟨(HS2.out.erase 0)⟩; refine ⟨HS.out, ?_⟩
         refine wh_y 5 rfl (by kernel_rfl) (by kernel_rfl) (by kernel_rfl) (fun _ _ _ h => h) rfl HF rfl rfl (fun _ HS => (yl_addI rfl (HF.ev rfl) (HF.ev rfl) (i64w (by omega)))) HS.out ?_; clear HF a; intro a HF
         refine wh_y 6 rfl (by kernel_rfl) (by kernel_rfl) (by kernel_rfl) (fun _ _ _ h => h) rfl HF rfl rfl (fun _ HS => (yl_lssI rfl (HF.ev rfl) (HF.ev rfl))) HS.out ?_; clear HF a; intro a HF
         refine wh_done (by kernel_rfl) ?_
         replace HS := HS2; clear HS2
         refine ex_then ?_
         refine HF.cases 81 rfl (fun cc9 HF1 => ?_) (fun cc9 HF1 => ?_)
         ·clear HF; have HF := HF1; clear HF1
          have dcc9 := of_decide_eq_true cc9
          refine wc_true HF rfl ?_
          refine wp_skip ?_
          refine ex_then ?_
          refine wp_block ?_
          refine wp_region_lit ?_
          refine wl_y rfl HF rfl rfl (yl_fieldAddr (j := 1) rfl (HF.ev rfl) (by kernel_rfl)) ?_; clear HF a; intro a HF
          refine wl_y rfl HF rfl rfl (yl_load (v := .slice aw ws.length cw) rfl (HF.ev rfl) (((HS.out.box 1 rfl).cell 1).trans rfl) (by kernel_rfl)) ?_; clear HF a; intro a HF
          refine wl_y rfl HF rfl rfl (yl_fieldAddr (j := 1) rfl (HF.ev rfl) (by kernel_rfl)) ?_; clear HF a; intro a HF
          refine wl_y rfl HF rfl rfl (yl_load (v := .slice aw ws.length cw) rfl (HF.ev rfl) (((HS.out.box 1 rfl).cell 1).trans rfl) (by kernel_rfl)) ?_; clear HF a; intro a HF
          refine wl_y rfl HF rfl rfl (yl_lenL (e := 144) (size := 2) rfl (HF.ev rfl) (by kernel_rfl)) ?_; clear HF a; intro a HF
          refine wl_y rfl HF rfl rfl (yl_remI rfl (HF.ev rfl) (HF.ev rfl) (by omega) (rem_pos (by omega) (by omega))) ?_; clear HF a; intro a HF
          refine wl_y rfl HF rfl rfl (yl_build HF rfl (ps := [(0, .int .i64 ((ws.length : Int) % 9)), (1, .string (⟨#[122]⟩ : ByteArray))]) rfl (cs := #[.int .i64 ((ws.length : Int) % 9), .string (⟨#[122]⟩ : ByteArray)]) (by kernel_rfl)) ?_; clear HF a; intro a HF
          refine wl_buildS (enc := WaitD.cells) (e := 144) (size := 2) rfl HF rfl rfl rfl (ps := [(0, .agg #[.int .i64 ((ws.length : Int) % 9), .string (⟨#[122]⟩ : ByteArray)])]) rfl (cells := [.int .i64 ((ws.length : Int) % 9), .string (⟨#[122]⟩ : ByteArray)]) (by kernel_rfl) [(⟨(ws.length : Int) % 9, (⟨#[122]⟩ : ByteArray)⟩ : WaitD)] rfl rfl (by unfold maxLen; omega) rfl HS.out ?_; clear HF HS a; intro b29 a w49 HF HS; replace HS := Bx.mk HS
          refine wl_appL rfl HF rfl rfl rfl (HF.ev rfl) (HF.ev rfl) elemW WaitD.cells_len HS.out 4 (xs := ws) rfl (ys := [(⟨(ws.length : Int) % 9, (⟨#[122]⟩ : ByteArray)⟩ : WaitD)]) (St.rdN HS.out WaitD.cells_len 0 rfl) (cells_one_W _) (by unfold maxLen; simp only [List.length_cons, List.length_nil]; omega) (by simp only [List.length_cons, List.length_nil]; omega) ?_; clear HF HS a; intro ao30 cp31 w50 a HF HS; replace HS := Bx.mk HS
          replace HS : Bx (St w0 (rowA WaitD.cells 2 144 (.slice (some ⟨b29, 0, none⟩) 1 1) ([(⟨(ws.length : Int) % 9, (⟨#[122]⟩ : ByteArray)⟩ : WaitD)]) :: rdA rb ab n cb (B + 1 + 1 + 21 * k + 1 + 21 * k2 + 1 + j + 1) :: boxA b6 3 44 (.agg #[.slice (some ⟨g5, 0, none⟩) 64 qc4, .slice aw ws.length cw, .bool false]) :: rowA encS 1 9 (.slice (some ⟨g5, 0, none⟩) 64 qc4) cs :: rowA WaitD.cells 2 144 (.slice ao30 (ws.length + ([(⟨(ws.length : Int) % 9, (⟨#[122]⟩ : ByteArray)⟩ : WaitD)]).length) cp31) (ws ++ ([(⟨(ws.length : Int) % 9, (⟨#[122]⟩ : ByteArray)⟩ : WaitD)])) :: boxA b1 3 44 (.agg #[.slice none 0 0, .slice none 0 0, .bool false]) :: F) _) := ⟨HS.out⟩
          refine wl_y rfl HF rfl rfl (yl_fieldAddr (j := 1) rfl (HF.ev rfl) (by kernel_rfl)) ?_; clear HF a; intro a HF
          refine wl_storeF rfl rfl rfl (HF.ev rfl) (HF.ev rfl) (by kernel_rfl) HS.out 2 rfl rfl rfl ?_; clear HS; intro w51 HS; replace HS := Bx.mk HS
          have HS : Bx (St w0 (rowA WaitD.cells 2 144 (.slice (some ⟨b29, 0, none⟩) 1 1) ([(⟨(ws.length : Int) % 9, (⟨#[122]⟩ : ByteArray)⟩ : WaitD)]) :: rdA rb ab n cb (B + 1 + 1 + 21 * k + 1 + 21 * k2 + 1 + j + 1) :: boxA b6 3 44 (.agg #[.slice (some ⟨g5, 0, none⟩) 64 qc4, .slice ao30 (ws.length + ([(⟨(ws.length : Int) % 9, (⟨#[122]⟩ : ByteArray)⟩ : WaitD)]).length) cp31, .bool false]) :: rowA encS 1 9 (.slice (some ⟨g5, 0, none⟩) 64 qc4) cs :: rowA WaitD.cells 2 144 (.slice ao30 (ws.length + ([(⟨(ws.length : Int) % 9, (⟨#[122]⟩ : ByteArray)⟩ : WaitD)]).length) cp31) (ws ++ ([(⟨(ws.length : Int) % 9, (⟨#[122]⟩ : ByteArray)⟩ : WaitD)])) :: boxA b1 3 44 (.agg #[.slice none 0 0, .slice none 0 0, .bool false]) :: F) _) := HS
          refine wpList_nil ?_
          refine ex_block ?_
          refine ex_then ?_
          replace HS : Bx (St w0 (rdA rb ab n cb (B + 1 + 1 + 21 * k + 1 + 21 * k2 + 1 + j + 1) :: rowA WaitD.cells 2 144 (.slice (some ⟨b29, 0, none⟩) 1 1) ([(⟨(ws.length : Int) % 9, (⟨#[122]⟩ : ByteArray)⟩ : WaitD)]) :: boxA b6 3 44 (.agg #[.slice (some ⟨g5, 0, none⟩) 64 qc4, .slice ao30 (ws.length + ([(⟨(ws.length : Int) % 9, (⟨#[122]⟩ : ByteArray)⟩ : WaitD)]).length) cp31, .bool false]) :: rowA encS 1 9 (.slice (some ⟨g5, 0, none⟩) 64 qc4) cs :: rowA WaitD.cells 2 144 (.slice ao30 (ws.length + ([(⟨(ws.length : Int) % 9, (⟨#[122]⟩ : ByteArray)⟩ : WaitD)]).length) cp31) (ws ++ ([(⟨(ws.length : Int) % 9, (⟨#[122]⟩ : ByteArray)⟩ : WaitD)])) :: boxA b1 3 44 (.agg #[.slice none 0 0, .slice none 0 0, .bool false]) :: F) _) := ⟨(HS.out).pick 1 rfl⟩
          replace HS : Bx (St w0 (rdA rb ab n cb (B + 1 + 1 + 21 * k + 1 + 21 * k2 + 1 + (j + 1)) :: rowA WaitD.cells 2 144 (.slice (some ⟨b29, 0, none⟩) 1 1) ([(⟨(ws.length : Int) % 9, (⟨#[122]⟩ : ByteArray)⟩ : WaitD)]) :: boxA b6 3 44 (.agg #[.slice (some ⟨g5, 0, none⟩) 64 qc4, .slice ao30 (ws.length + ([(⟨(ws.length : Int) % 9, (⟨#[122]⟩ : ByteArray)⟩ : WaitD)]).length) cp31, .bool false]) :: rowA encS 1 9 (.slice (some ⟨g5, 0, none⟩) 64 qc4) cs :: rowA WaitD.cells 2 144 (.slice ao30 (ws.length + ([(⟨(ws.length : Int) % 9, (⟨#[122]⟩ : ByteArray)⟩ : WaitD)]).length) cp31) (ws ++ ([(⟨(ws.length : Int) % 9, (⟨#[122]⟩ : ByteArray)⟩ : WaitD)])) :: boxA b1 3 44 (.agg #[.slice none 0 0, .slice none 0 0, .bool false]) :: F) _) := ⟨HS.out.rdLe (by omega)⟩
          have hz : ws.length + ([(⟨(ws.length : Int) % 9, (⟨#[122]⟩ : ByteArray)⟩ : WaitD)]).length = (ws ++ ([(⟨(ws.length : Int) % 9, (⟨#[122]⟩ : ByteArray)⟩ : WaitD)])).length := (List.length_append ..).symm
          rw [hz] at HS
          have hz1 : (ws ++ ([(⟨(ws.length : Int) % 9, (⟨#[122]⟩ : ByteArray)⟩ : WaitD)])).length = ws.length + 1 := by rw [List.length_append]; rfl
          replace HS : Bx (St w0 (rdA rb ab n cb (B + 1 + 1 + 21 * k + 1 + 21 * k2 + 1 + (j + 1)) :: boxA b6 3 44 (.agg #[.slice (some ⟨g5, 0, none⟩) 64 qc4, .slice ao30 ((ws ++ ([(⟨(ws.length : Int) % 9, (⟨#[122]⟩ : ByteArray)⟩ : WaitD)])).length) cp31, .bool false]) :: rowA encS 1 9 (.slice (some ⟨g5, 0, none⟩) 64 qc4) cs :: rowA WaitD.cells 2 144 (.slice ao30 ((ws ++ ([(⟨(ws.length : Int) % 9, (⟨#[122]⟩ : ByteArray)⟩ : WaitD)])).length) cp31) (ws ++ ([(⟨(ws.length : Int) % 9, (⟨#[122]⟩ : ByteArray)⟩ : WaitD)])) :: boxA b1 3 44 (.agg #[.slice none 0 0, .slice none 0 0, .bool false]) :: rowA WaitD.cells 2 144 (.slice (some ⟨b29, 0, none⟩) 1 1) ([(⟨(ws.length : Int) % 9, (⟨#[122]⟩ : ByteArray)⟩ : WaitD)]) :: F) _) := ⟨(((((HS.out).pick 5 rfl).pick 5 rfl).pick 5 rfl).pick 5 rfl).pick 4 rfl⟩
          exact ⟨j + 1, ⟨_, _, ws ++ ([(⟨(ws.length : Int) % 9, (⟨#[122]⟩ : ByteArray)⟩ : WaitD)]), ⟨by omega, by omega, (fun x hx => (List.mem_append.1 hx).elim (hw x) fun e => by rw [List.mem_singleton.1 e]; show (⟨#[122]⟩ : ByteArray).size ≤ 1000; first | omega | decide)⟩, HF.less _ ⟨rfl, rfl, rfl, trivial⟩, (HS.out.erase 5)⟩, (by omega)⟩
         ·clear HF; have HF := HF1; clear HF1
          have dcc9 := of_decide_eq_false cc9
          refine wc_false HF rfl ?_
          refine wp_exit ?_
          refine ex_then_exit ?_
          refine ex_then_exit ?_
          refine ex_block_hit ?_
          refine ex_block ?_
          refine ex_then ?_
          refine wp_sr ?_
          refine wl_y rfl HF rfl rfl (yl_loadR (cs := [.slice (some ⟨g5, 0, none⟩) 64 qc4, .slice aw ws.length cw, .bool false]) rfl (HF.ev rfl) ((HS.out.box 1 rfl).sub 0 3) (by kernel_rfl)) ?_; clear HF a; intro a HF
          refine wl_storeBox rfl HF rfl rfl (HF.ev rfl) (HF.ev rfl) HS.out 4 rfl (cells_lit [.slice (some ⟨g5, 0, none⟩) 64 qc4, .slice aw ws.length cw, .bool false] rfl rfl) (by kernel_rfl) ?_; clear HS; intro w52 HS; replace HS := Bx.mk HS
          have HS : Bx (St w0 (rdA rb ab n cb (B + 1 + 1 + 21 * k + 1 + 21 * k2 + 1 + j + 1) :: boxA b6 3 44 (.agg #[.slice (some ⟨g5, 0, none⟩) 64 qc4, .slice aw ws.length cw, .bool false]) :: rowA encS 1 9 (.slice (some ⟨g5, 0, none⟩) 64 qc4) cs :: rowA WaitD.cells 2 144 (.slice aw ws.length cw) ws :: boxA b1 3 44 (.agg #[.slice (some ⟨g5, 0, none⟩) 64 qc4, .slice aw ws.length cw, .bool false]) :: F) _) := HS
          refine wl_ne ?_
          refine wp_ret ?_
          refine bp_ret1 HF Try.results116 (HF.resBox rfl (HS.out.box 4 rfl) (by kernel_rfl)) ?_
          replace HS : Bx (St w0 (rdA rb ab n cb (B + 1 + 1 + 21 * k + 1 + 21 * k2 + 1 + j + 1) :: rowA encS 1 9 (.slice (some ⟨g5, 0, none⟩) 64 qc4) cs :: rowA WaitD.cells 2 144 (.slice aw ws.length cw) ws :: boxA b6 3 44 (.agg #[.slice (some ⟨g5, 0, none⟩) 64 qc4, .slice aw ws.length cw, .bool false]) :: boxA b1 3 44 (.agg #[.slice (some ⟨g5, 0, none⟩) 64 qc4, .slice aw ws.length cw, .bool false]) :: F) _) := ⟨(((HS.out).pick 3 rfl).pick 3 rfl).pick 2 rfl⟩
          have hwz : ∀ x, x ∈ ws → x.fText.size ≤ 1000 := hw
          have HT := ((St.join (r := [_, _]) (s := _)).1 (((HS.out.rdLe (B' := B + 500) (by omega)).pick 1 rfl).pick 2 rfl).swap).hold (P := fun w => HD.reads w (⟨some ⟨g5, 0 + 0 * 1, none⟩, qc4 - 0, aw, cw, (⟨cs.drop 0, ws, false⟩ : DiskD)⟩ : HD)) (fun w f h => cut_reads (k := 0) hcl (by omega) h)
          refine ⟨(⟨some ⟨g5, 0 + 0 * 1, none⟩, qc4 - 0, aw, cw, (⟨cs.drop 0, ws, false⟩ : DiskD)⟩ : HD), fits_of (by rw [List.length_drop]; omega) (by omega) (fun x hx => hc x (List.mem_of_mem_drop hx)) hwz, ?_, ((HT.swap.erase 3).erase 2)⟩
          show _ = Ending.returned (.agg #[.slice (some ⟨g5, 0 + 0 * 1, none⟩) (cs.drop 0).length (qc4 - 0), .slice aw (ws).length cw, .bool false])
          rw [List.length_drop, hcl]; all_goals rfl
        ·clear HF; have HF := HF1; clear HF1
         have dcc8 := ne_of_beq_false cc8
         refine wc_false HF rfl ?_
         refine wp_skip ?_
         refine ex_block ?_
         refine ex_then ?_
         refine wp_sr ?_
         refine wl_y rfl HF rfl rfl (yl_loadR (cs := [.slice (some ⟨g5, 0, none⟩) 64 qc4, .slice aw ws.length cw, .bool false]) rfl (HF.ev rfl) ((HS.out.box 1 rfl).sub 0 3) (by kernel_rfl)) ?_; clear HF a; intro a HF
         refine wl_storeBox rfl HF rfl rfl (HF.ev rfl) (HF.ev rfl) HS.out 4 rfl (cells_lit [.slice (some ⟨g5, 0, none⟩) 64 qc4, .slice aw ws.length cw, .bool false] rfl rfl) (by kernel_rfl) ?_; clear HS; intro w53 HS; replace HS := Bx.mk HS
         have HS : Bx (St w0 (rdA rb ab n cb (B + 1 + 1 + 21 * k + 1 + 21 * k2 + 1) :: boxA b6 3 44 (.agg #[.slice (some ⟨g5, 0, none⟩) 64 qc4, .slice aw ws.length cw, .bool false]) :: rowA encS 1 9 (.slice (some ⟨g5, 0, none⟩) 64 qc4) cs :: rowA WaitD.cells 2 144 (.slice aw ws.length cw) ws :: boxA b1 3 44 (.agg #[.slice (some ⟨g5, 0, none⟩) 64 qc4, .slice aw ws.length cw, .bool false]) :: F) _) := HS
         refine wl_ne ?_
         refine wp_ret ?_
         refine bp_ret1 HF Try.results116 (HF.resBox rfl (HS.out.box 4 rfl) (by kernel_rfl)) ?_
         replace HS : Bx (St w0 (rdA rb ab n cb (B + 1 + 1 + 21 * k + 1 + 21 * k2 + 1) :: rowA encS 1 9 (.slice (some ⟨g5, 0, none⟩) 64 qc4) cs :: rowA WaitD.cells 2 144 (.slice aw ws.length cw) ws :: boxA b6 3 44 (.agg #[.slice (some ⟨g5, 0, none⟩) 64 qc4, .slice aw ws.length cw, .bool false]) :: boxA b1 3 44 (.agg #[.slice (some ⟨g5, 0, none⟩) 64 qc4, .slice aw ws.length cw, .bool false]) :: F) _) := ⟨(((HS.out).pick 3 rfl).pick 3 rfl).pick 2 rfl⟩
         have hwz : ∀ x, x ∈ ws → x.fText.size ≤ 1000 := hw
         have HT := ((St.join (r := [_, _]) (s := _)).1 (((HS.out.rdLe (B' := B + 500) (by omega)).pick 1 rfl).pick 2 rfl).swap).hold (P := fun w => HD.reads w (⟨some ⟨g5, 0 + 0 * 1, none⟩, qc4 - 0, aw, cw, (⟨cs.drop 0, ws, false⟩ : DiskD)⟩ : HD)) (fun w f h => cut_reads (k := 0) hcl (by omega) h)
         refine ⟨(⟨some ⟨g5, 0 + 0 * 1, none⟩, qc4 - 0, aw, cw, (⟨cs.drop 0, ws, false⟩ : DiskD)⟩ : HD), fits_of (by rw [List.length_drop]; omega) (by omega) (fun x hx => hc x (List.mem_of_mem_drop hx)) hwz, ?_, ((HT.swap.erase 3).erase 2)⟩
         show _ = Ending.returned (.agg #[.slice (some ⟨g5, 0 + 0 * 1, none⟩) (cs.drop 0).length (qc4 - 0), .slice aw (ws).length cw, .bool false])
         rw [List.length_drop, hcl]; all_goals rfl

end Go.Proofs.Ytfijfjjleelphaa

/- Drawing sets of disks. -/
namespace Go.Proofs.Ytfijfjjleelphaa
set_option maxHeartbeats 1000000
set_option maxRecDepth 100000
open Go.RowKit

theorem St.imp0 {W w : World} {a b : Asr} {F : List Asr} (h : St W (a :: F) w) (hi : ∀ w f, a.P w f → b.P w f) : St W (b :: F) w := by
  obtain ⟨f, ⟨f1, f2, rfl, h1, h2⟩, hni, hb⟩ := h.sep
  exact ⟨h.bel, f1 ++ f2, ⟨f1, f2, rfl, hi w f1 h1, h2⟩, hni, hb⟩

theorem l91Raid_any (w0 w : World) (rb : Nat) (ab : Option Addr) (n cb : Nat) (bs : List UInt8) (hn : n ≤ 2000) (hR : Rd encB 1 w0 ab n bs) (B : Nat) (hB : B ≤ 700000) (F : List Asr) (hS : St w0 (rdA rb ab n cb B :: F) w) : Calls Try.prog 41 #[.pointer (some ⟨rb, 0, none⟩)] w fun e w' => ∃ (ao : Option Addr) (co : Nat) (ps : List HD) (ap : Option Addr) (cu : Nat) (us : List PtrD), e = .returned (.tuple #[.agg #[.slice ao ps.length co], .slice ap us.length cu]) ∧ ps.length ≤ 3 ∧ fitsL ps ∧ us.length ≤ 10 ∧ St w0 (rdA rb ab n cb (B + 2000) :: holdsA (rdsP ao ps) :: rowA PtrD.cells 5 33 (.slice ap us.length cu) us :: F) w' := by
 have HS := Bx.mk hS; clear hS
 refine wc_enter Try.func41 rfl Try.ntmps41 [(0, .pointer (some ⟨rb, 0, none⟩))] ⟨rfl, trivial⟩ rfl ?_; intro a HF
 refine wp_sr ?_
 refine wl_alloc rfl HF rfl rfl rfl (Z := [.slice none 0 0]) (by kernel_rfl) rfl HS.out ?_; clear HF HS a; intro a w1 b1 HF HS; replace HS := Bx.mk HS
 refine wl_as HF rfl rfl rfl rfl rfl ?_; clear HF a; intro a HF
 refine wl_ne ?_
 refine wp_sr ?_
 refine wl_call rfl HF rfl (enter_of Try.func109 (by kernel_rfl) rfl) (args := #[]) rfl (raidNew_any _) rfl rfl ?_
 rintro _ w2 ⟨gR, cR, qs0, hq0, rfl, hs⟩
 have hl0 : qs0.length = 3 := by rw [← dsOf_len, hq0]; rfl
 have hn0 : niceS 0 (dsOf qs0) := by rw [hq0]; exact nice3
 rw [hl0] at hs; refine ⟨_, rfl, ?_⟩; replace HS := Bx.mk (HS.out.add hs); clear hs HF; clear a; intro a HF; rw [hl0] at HF
 replace HS : Bx (St w0 (rowA HD.cells 3 44 (.slice (some ⟨gR, 0, none⟩) 3 cR) qs0 :: sepA (qs0.map HD.asr) :: boxA b1 1 25 (.agg #[.slice none 0 0]) :: rdA rb ab n cb B :: F) _) := ⟨HS.out⟩
 refine wl_alloc rfl HF rfl rfl rfl (Z := [.slice none 0 0]) (by kernel_rfl) rfl HS.out ?_; clear HF HS a; intro a w3 b2 HF HS; replace HS := Bx.mk HS
 refine wl_storeBox rfl HF rfl rfl (HF.ev rfl) (HF.ev rfl) HS.out 0 rfl (cells_lit [.slice (some ⟨gR, 0, none⟩) 3 cR] rfl rfl) (by kernel_rfl) ?_; clear HS; intro w4 HS; replace HS := Bx.mk HS
 have HS : Bx (St w0 (boxA b2 1 25 (.agg #[.slice (some ⟨gR, 0, none⟩) 3 cR]) :: rowA HD.cells 3 44 (.slice (some ⟨gR, 0, none⟩) 3 cR) qs0 :: sepA (qs0.map HD.asr) :: boxA b1 1 25 (.agg #[.slice none 0 0]) :: rdA rb ab n cb B :: F) _) := HS
 refine wl_ne ?_
 refine wp_sr ?_
 refine wl_empty (e := 33) (size := 5) rfl HF rfl rfl rfl (by kernel_rfl) HS.out ?_; clear HF HS a; intro a w5 b3 HF HS; replace HS := Bx.mk HS
 refine wl_as HF rfl rfl rfl rfl rfl ?_; clear HF a; intro a HF
 refine wl_ne ?_
 refine wp_seq ?_
 refine wp_sr ?_
 refine wl_mv HF rfl rfl rfl rfl rfl ?_; clear HF a; intro a HF
 replace HS : Bx (St w0 (rdA rb ab n cb B :: boxA b2 1 25 (.agg #[.slice (some ⟨gR, 0, none⟩) 3 cR]) :: rowA HD.cells 3 44 (.slice (some ⟨gR, 0, none⟩) 3 cR) qs0 :: sepA (qs0.map HD.asr) :: boxA b1 1 25 (.agg #[.slice none 0 0]) :: F) _) := ⟨(HS.out).pick 4 rfl⟩
 refine wl_call rfl HF rfl (enter_of Try.func110 (by kernel_rfl) rfl) (args := #[.pointer (some ⟨rb, 0, none⟩), .int .i64 5]) rfl (pickN w0 _ rb ab n cb bs hn hR B (by omega) 5 (by omega) _ HS.out) rfl rfl ?_
 rintro _ w6 ⟨dn4, rfl, hu4, hs1⟩
 refine ⟨_, rfl, ?_⟩; replace HS := Bx.mk hs1; clear hs1 HF; clear a; intro a HF
 replace HS : Bx (St w0 (rdA rb ab n cb (B + 1) :: boxA b2 1 25 (.agg #[.slice (some ⟨gR, 0, none⟩) 3 cR]) :: rowA HD.cells 3 44 (.slice (some ⟨gR, 0, none⟩) 3 cR) qs0 :: sepA (qs0.map HD.asr) :: boxA b1 1 25 (.agg #[.slice none 0 0]) :: F) _) := ⟨HS.out⟩
 refine wl_y rfl HF rfl rfl (yl_addI rfl (HF.ev rfl) (HF.ev rfl) (i64w (by omega))) ?_; clear HF a; intro a HF
 refine wl_as HF rfl rfl rfl rfl rfl ?_; clear HF a; intro a HF
 refine wl_ne ?_
 refine wp_block ?_
 replace HS : Bx (St w0 (rdA rb ab n cb (B + 1) :: boxA b2 1 25 (.agg #[.slice (some ⟨gR, 0, none⟩) 3 cR]) :: rowA HD.cells 3 44 (.slice (some ⟨gR, 0, none⟩) 3 cR) qs0 :: sepA (qs0.map HD.asr) :: boxA b1 1 25 (.agg #[.slice none 0 0]) :: F) _) := ⟨(HS.out).pick 0 rfl⟩
 replace HS : Bx (St w0 (rdA rb ab n cb (B + 1 + 120 * 0) :: boxA b2 1 25 (.agg #[.slice (some ⟨gR, 0, none⟩) 3 cR]) :: rowA HD.cells 3 44 (.slice (some ⟨gR, 0, none⟩) 3 cR) qs0 :: sepA (qs0.map HD.asr) :: boxA b1 1 25 (.agg #[.slice none 0 0]) :: F) _) := ⟨HS.out.rdLe (by omega)⟩
 replace HS := Bx.mk (HS.out.nilRow PtrD.cells 5 33 (some ⟨b3, 0, none⟩))
 refine wc_loop (ι := Nat) (fun k a w => ∃ (qs : List HD) (ap : Option Addr) (cu : Nat) (us : List PtrD), (k ≤ 1 + dn4 ∧ niceS k (dsOf qs) ∧ us.length = k ∧ ∀ u, u ∈ us → 0 ≤ u.fAt ∧ u.fAt ≤ 63) ∧ Fr 116 a [(0, .pointer (some ⟨rb, 0, none⟩)), (2, .pointer (some ⟨b1, 0, none⟩)), (3, .slice none 0 0), (4, .pointer (some ⟨b2, 0, none⟩)), (5, .slice ap us.length cu), (6, .int .i64 ((1 + dn4 : Int) - (k : Int)))] ∧ St w0 (rowA PtrD.cells 5 33 (.slice ap us.length cu) us :: rdA rb ab n cb (B + 1 + 120 * k) :: boxA b2 1 25 (.agg #[.slice (some ⟨gR, 0, none⟩) 3 cR]) :: rowA HD.cells 3 44 (.slice (some ⟨gR, 0, none⟩) 3 cR) qs :: sepA (qs.map HD.asr) :: boxA b1 1 25 (.agg #[.slice none 0 0]) :: F) w) (fun k => 1 + dn4 - k) 0 ⟨qs0, _, _, [], ⟨Nat.zero_le _, hn0, rfl, fun u hu => by cases hu⟩, HF.less _ ⟨rfl, rfl, rfl, rfl, rfl, (by show some (Value.int .i64 _) = some (Value.int .i64 _); exact congrArg (fun z => some (Value.int .i64 z)) (by omega)), trivial⟩, HS.out⟩ ?_
 clear HF HS; clear a
 rintro k a w7 ⟨qs, ap, cu, us, ⟨hk, hni, hul, hus⟩, HF, HS⟩
 replace HS := Bx.mk HS
 have hql := hni.len
 refine wp_seq ?_
 refine wp_sr ?_
 refine wl_mv HF rfl rfl rfl rfl rfl ?_; clear HF a; intro a HF
 refine wl_y rfl HF rfl rfl (yl_gtrI rfl (HF.ev rfl) (HF.ev rfl)) ?_; clear HF a; intro a HF
 refine wl_ne ?_
 refine HF.cases 19 rfl (fun cc1 HF1 => ?_) (fun cc1 HF1 => ?_)
 ·clear HF; have HF := HF1; clear HF1
  have dcc1 := of_decide_eq_true cc1
  refine wc_true HF rfl ?_
  refine wp_skip ?_
  refine ex_then ?_
  refine wp_seq ?_
  refine wp_block ?_
  refine wp_seq ?_
  have hs98 : (⟨#[98]⟩ : ByteArray).size = 1 := rfl
  refine wp_region_lit ?_
  refine wl_mv HF rfl rfl rfl rfl rfl ?_; clear HF a; intro a HF
  replace HS : Bx (St w0 (rdA rb ab n cb (B + 1 + 120 * k) :: rowA PtrD.cells 5 33 (.slice ap us.length cu) us :: boxA b2 1 25 (.agg #[.slice (some ⟨gR, 0, none⟩) 3 cR]) :: rowA HD.cells 3 44 (.slice (some ⟨gR, 0, none⟩) 3 cR) qs :: sepA (qs.map HD.asr) :: boxA b1 1 25 (.agg #[.slice none 0 0]) :: F) _) := ⟨(HS.out).pick 1 rfl⟩
  refine wl_call rfl HF rfl (enter_of Try.func111 (by kernel_rfl) rfl) (args := #[.pointer (some ⟨rb, 0, none⟩), .int .i64 20]) rfl (l91Text_any w0 _ rb ab n cb bs hn hR (B + 1 + 120 * k) (by omega) 20 (by omega) _ HS.out) rfl rfl ?_
  rintro _ w8 ⟨dt5, rfl, ht5, hs1⟩
  refine ⟨_, rfl, ?_⟩; replace HS := Bx.mk hs1; clear hs1 HF; clear a; intro a HF
  replace HS : Bx (St w0 (rdA rb ab n cb (B + 1 + 120 * k + (2 + 2 * 20)) :: rowA PtrD.cells 5 33 (.slice ap us.length cu) us :: boxA b2 1 25 (.agg #[.slice (some ⟨gR, 0, none⟩) 3 cR]) :: rowA HD.cells 3 44 (.slice (some ⟨gR, 0, none⟩) 3 cR) qs :: sepA (qs.map HD.asr) :: boxA b1 1 25 (.agg #[.slice none 0 0]) :: F) _) := ⟨HS.out⟩
  refine wl_y rfl HF rfl rfl (yl_addS rfl (HF.ev rfl) (HF.ev rfl) (by omega)) ?_; clear HF a; intro a HF
  refine wl_as HF rfl rfl rfl rfl rfl ?_; clear HF a; intro a HF
  refine wl_ne ?_
  refine wp_seq ?_
  obtain ⟨tx, htx⟩ : ∃ t : ByteArray, t = (⟨#[98]⟩ : ByteArray) ++ dt5 := ⟨_, rfl⟩; have htz : 1 ≤ tx.size ∧ tx.size ≤ 21 := by rw [htx, ByteArray.size_append, hs98]; omega
  rw [← htx] at HF; clear htx
  replace HF : Fr 116 a [(0, .pointer (some ⟨rb, 0, none⟩)), (2, .pointer (some ⟨b1, 0, none⟩)), (3, .slice none 0 0), (4, .pointer (some ⟨b2, 0, none⟩)), (5, .slice ap us.length cu), (6, .int .i64 ((1 + dn4 : Int) - (k : Int))), (7, .string tx)] := HF.less _ ⟨rfl, rfl, rfl, rfl, rfl, rfl, rfl, trivial⟩
  refine wp_region_lit ?_
  refine wl_mv HF rfl rfl rfl rfl rfl ?_; clear HF a; intro a HF
  replace HS : Bx (St w0 (rdA rb ab n cb (B + 1 + 120 * k + (2 + 2 * 20)) :: rowA PtrD.cells 5 33 (.slice ap us.length cu) us :: boxA b2 1 25 (.agg #[.slice (some ⟨gR, 0, none⟩) 3 cR]) :: rowA HD.cells 3 44 (.slice (some ⟨gR, 0, none⟩) 3 cR) qs :: sepA (qs.map HD.asr) :: boxA b1 1 25 (.agg #[.slice none 0 0]) :: F) _) := ⟨(HS.out).pick 0 rfl⟩
  refine wl_call rfl HF rfl (enter_of Try.func110 (by kernel_rfl) rfl) (args := #[.pointer (some ⟨rb, 0, none⟩), .int .i64 9]) rfl (pickN w0 _ rb ab n cb bs hn hR (B + 1 + 120 * k + (2 + 2 * 20)) (by omega) 9 (by omega) _ HS.out) rfl rfl ?_
  rintro _ w9 ⟨dn6, rfl, hu6, hs1⟩
  refine ⟨_, rfl, ?_⟩; replace HS := Bx.mk hs1; clear hs1 HF; clear a; intro a HF
  replace HS : Bx (St w0 (rdA rb ab n cb (B + 1 + 120 * k + (2 + 2 * 20) + 1) :: rowA PtrD.cells 5 33 (.slice ap us.length cu) us :: boxA b2 1 25 (.agg #[.slice (some ⟨gR, 0, none⟩) 3 cR]) :: rowA HD.cells 3 44 (.slice (some ⟨gR, 0, none⟩) 3 cR) qs :: sepA (qs.map HD.asr) :: boxA b1 1 25 (.agg #[.slice none 0 0]) :: F) _) := ⟨HS.out⟩
  refine wl_y rfl HF rfl rfl (yl_addI rfl (HF.ev rfl) (HF.ev rfl) (i64w (by omega))) ?_; clear HF a; intro a HF
  refine wl_as HF rfl rfl rfl rfl rfl ?_; clear HF a; intro a HF
  refine wl_ne ?_
  refine wp_sr ?_
  refine wl_mv HF rfl rfl rfl rfl rfl ?_; clear HF a; intro a HF
  refine wl_mv HF rfl rfl rfl rfl rfl ?_; clear HF a; intro a HF
  replace HS : Bx (St w0 (rdA rb ab n cb (B + 1 + 120 * k + (2 + 2 * 20) + 1) :: rowA PtrD.cells 5 33 (.slice ap us.length cu) us :: boxA b2 1 25 (.agg #[.slice (some ⟨gR, 0, none⟩) 3 cR]) :: rowA HD.cells 3 44 (.slice (some ⟨gR, 0, none⟩) 3 cR) qs :: sepA (qs.map HD.asr) :: boxA b1 1 25 (.agg #[.slice none 0 0]) :: F) _) := ⟨(HS.out).pick 0 rfl⟩
  refine wl_call rfl HF rfl (enter_of Try.func110 (by kernel_rfl) rfl) (args := #[.pointer (some ⟨rb, 0, none⟩), .int .i64 9]) rfl (pickN w0 _ rb ab n cb bs hn hR (B + 1 + 120 * k + (2 + 2 * 20) + 1) (by omega) 9 (by omega) _ HS.out) rfl rfl ?_
  rintro _ w10 ⟨dn7, rfl, hu7, hs1⟩
  refine ⟨_, rfl, ?_⟩; replace HS := Bx.mk hs1; clear hs1 HF; clear a; intro a HF
  replace HS : Bx (St w0 (rdA rb ab n cb (B + 1 + 120 * k + (2 + 2 * 20) + 1 + 1) :: rowA PtrD.cells 5 33 (.slice ap us.length cu) us :: boxA b2 1 25 (.agg #[.slice (some ⟨gR, 0, none⟩) 3 cR]) :: rowA HD.cells 3 44 (.slice (some ⟨gR, 0, none⟩) 3 cR) qs :: sepA (qs.map HD.asr) :: boxA b1 1 25 (.agg #[.slice none 0 0]) :: F) _) := ⟨HS.out⟩
  refine wl_y rfl HF rfl rfl (yl_addI rfl (HF.ev rfl) (HF.ev rfl) (i64w (by omega))) ?_; clear HF a; intro a HF
  refine wl_mv HF rfl rfl rfl rfl rfl ?_; clear HF a; intro a HF
  replace HS : Bx (St w0 (rdA rb ab n cb (B + 1 + 120 * k + (2 + 2 * 20) + 1 + 1) :: rowA PtrD.cells 5 33 (.slice ap us.length cu) us :: boxA b2 1 25 (.agg #[.slice (some ⟨gR, 0, none⟩) 3 cR]) :: rowA HD.cells 3 44 (.slice (some ⟨gR, 0, none⟩) 3 cR) qs :: sepA (qs.map HD.asr) :: boxA b1 1 25 (.agg #[.slice none 0 0]) :: F) _) := ⟨(HS.out).pick 0 rfl⟩
  refine wl_call rfl HF rfl (enter_of Try.func110 (by kernel_rfl) rfl) (args := #[.pointer (some ⟨rb, 0, none⟩), .int .i64 3]) rfl (pickN w0 _ rb ab n cb bs hn hR (B + 1 + 120 * k + (2 + 2 * 20) + 1 + 1) (by omega) 3 (by omega) _ HS.out) rfl rfl ?_
  rintro _ w11 ⟨dn8, rfl, hu8, hs1⟩
  refine ⟨_, rfl, ?_⟩; replace HS := Bx.mk hs1; clear hs1 HF; clear a; intro a HF
  replace HS : Bx (St w0 (rdA rb ab n cb (B + 1 + 120 * k + (2 + 2 * 20) + 1 + 1 + 1) :: rowA PtrD.cells 5 33 (.slice ap us.length cu) us :: boxA b2 1 25 (.agg #[.slice (some ⟨gR, 0, none⟩) 3 cR]) :: rowA HD.cells 3 44 (.slice (some ⟨gR, 0, none⟩) 3 cR) qs :: sepA (qs.map HD.asr) :: boxA b1 1 25 (.agg #[.slice none 0 0]) :: F) _) := ⟨HS.out⟩
  refine wl_mv HF rfl rfl rfl rfl rfl ?_; clear HF a; intro a HF
  refine wl_call rfl HF rfl (enter_of Try.func112 (by kernel_rfl) rfl) (args := #[.int .i64 ((8 : Int) + (dn6 : Int)), .int .i64 ((1 : Int) + (dn7 : Int)), .int .i64 (dn8 : Int), .string tx]) rfl (ptrOfS_any ((8 : Int) + (dn6 : Int)) ((1 : Int) + (dn7 : Int)) (dn8 : Int) tx _ (by omega)) rfl rfl ?_
  rintro _ w12 ⟨rfl, hb⟩
  have hpa := ptrOf_at (a := (8 : Int) + (dn6 : Int)) (b := (1 : Int) + (dn7 : Int)) (l := (dn8 : Int)) (s := tx) (by omega)
  refine ⟨_, rfl, ?_⟩; replace HS := Bx.mk (HS.out.later hb); clear hb HF; clear a; intro a HF
  obtain ⟨pp, hpp⟩ : ∃ p : PtrD, p = ptrOf ((8 : Int) + (dn6 : Int)) ((1 : Int) + (dn7 : Int)) (dn8 : Int) tx := ⟨_, rfl⟩; rw [← hpp] at HF hpa; obtain ⟨pb, hpb⟩ : ∃ b : Bool, b = ptrOk ((8 : Int) + (dn6 : Int)) ((1 : Int) + (dn7 : Int)) (dn8 : Int) tx := ⟨_, rfl⟩; rw [← hpb] at HF; clear hpp hpb
  refine wl_mv HF rfl rfl rfl rfl rfl ?_; clear HF a; intro a HF
  refine wl_y rfl HF rfl rfl (yl_extract rfl (HF.ev rfl) rfl) ?_; clear HF a; intro a HF
  refine wl_y rfl HF rfl rfl (yl_extract rfl (HF.ev rfl) rfl) ?_; clear HF a; intro a HF
  refine wl_alloc rfl HF rfl rfl rfl (Z := [.int .i64 0, .int .i64 0, .int .i64 0, .int .i64 0, .int .i64 0]) (by kernel_rfl) rfl HS.out ?_; clear HF HS a; intro a w13 b9 HF HS; replace HS := Bx.mk HS
  refine wl_storeBox rfl HF rfl rfl (HF.ev rfl) (HF.ev rfl) HS.out 0 rfl (cells_lit [.int .i64 pp.fAt, .int .i64 pp.fBirth, .int .i64 pp.fSize, .int .i64 pp.fSum, .int .i64 pp.fLevel] rfl rfl) (by kernel_rfl) ?_; clear HS; intro w14 HS; replace HS := Bx.mk HS
  have HS : Bx (St w0 (boxA b9 5 33 (.agg #[.int .i64 pp.fAt, .int .i64 pp.fBirth, .int .i64 pp.fSize, .int .i64 pp.fSum, .int .i64 pp.fLevel]) :: rdA rb ab n cb (B + 1 + 120 * k + (2 + 2 * 20) + 1 + 1 + 1) :: rowA PtrD.cells 5 33 (.slice ap us.length cu) us :: boxA b2 1 25 (.agg #[.slice (some ⟨gR, 0, none⟩) 3 cR]) :: rowA HD.cells 3 44 (.slice (some ⟨gR, 0, none⟩) 3 cR) qs :: sepA (qs.map HD.asr) :: boxA b1 1 25 (.agg #[.slice none 0 0]) :: F) _) := HS
  refine wl_as HF rfl rfl rfl rfl rfl ?_; clear HF a; intro a HF
  refine wl_ne ?_
  refine wp_seq ?_
  have hpw := hni.wl (by omega)
  refine wr_marked (W := w0) (s := boxA b9 5 33 (.agg #[.int .i64 pp.fAt, .int .i64 pp.fBirth, .int .i64 pp.fSize, .int .i64 pp.fSum, .int .i64 pp.fLevel]) :: rdA rb ab n cb (B + 1 + 120 * k + (2 + 2 * 20) + 1 + 1 + 1) :: rowA PtrD.cells 5 33 (.slice ap us.length cu) us :: boxA b2 1 25 (.agg #[.slice (some ⟨gR, 0, none⟩) 3 cR]) :: boxA b1 1 25 (.agg #[.slice none 0 0]) :: F) 9 (by kernel_rfl) ?_
  have HS2 := Bx.mk HS.out.drew; replace HS := Bx.mk (show St w0 (boxA b9 5 33 (.agg #[.int .i64 pp.fAt, .int .i64 pp.fBirth, .int .i64 pp.fSize, .int .i64 pp.fSum, .int .i64 pp.fLevel]) :: rdA rb ab n cb (B + 1 + 120 * k + (2 + 2 * 20) + 1 + 1 + 1) :: rowA PtrD.cells 5 33 (.slice ap us.length cu) us :: boxA b2 1 25 (.agg #[.slice (some ⟨gR, 0, none⟩) 3 cR]) :: boxA b1 1 25 (.agg #[.slice none 0 0]) :: F) _ from ((HS.out.drew.erase 5).erase 4)); generalize World.drew _ = w15 at HS HS2 ⊢
  refine wm_y 0 rfl (by kernel_rfl) (by kernel_rfl) (by kernel_rfl) (fun _ _ _ h => h) (by decide) (by kernel_rfl) (by kernel_rfl) rfl HF rfl rfl (fun _ HS => (yl_loadR (cs := [.slice (some ⟨gR, 0, none⟩) 3 cR]) rfl (HF.ev rfl) ((HS.box 3 rfl).sub 0 1) (by kernel_rfl))) HS.out ?_; clear HF a; intro a HF
  refine wm_t 1 rfl (by kernel_rfl) (by kernel_rfl) (by kernel_rfl) (fun _ _ _ h => h) (by decide) rfl HF rfl rfl (fun _ _ => (yl_move rfl (HF.ev rfl))) (fun _ => HS.out) ?_; clear HF a; intro a HF
  refine wm_t 2 rfl (by kernel_rfl) (by kernel_rfl) (by kernel_rfl) (fun _ _ _ h => h) (by decide) rfl HF rfl rfl (fun _ _ => (yl_move rfl (HF.ev rfl))) (fun _ => HS.out) ?_; clear HF a; intro a HF
  refine wm_two 3 4 (by kernel_rfl) ?_ ?_
  ·skip
   refine wo_call rfl rfl HF rfl (enter_of Try.func56 (by kernel_rfl) rfl) (args := #[.string tx]) rfl (l4Cut_any tx _ (by omega) (by omega)) rfl rfl ?_
   rintro _ w16 ⟨gw10, rfl, hs⟩
   refine ⟨_, rfl, ?_⟩; replace HS := Bx.mk (HS.out.later hs.bel); replace HS2 := Bx.mk (HS2.out.add hs); clear hs HF; clear a; intro a HF
   replace HS2 : Bx (St w0 (rowA encS 1 9 (.slice (some ⟨gw10, 0, none⟩) 3 3) ([col0 tx, col1 tx, col2 tx]) :: boxA b9 5 33 (.agg #[.int .i64 pp.fAt, .int .i64 pp.fBirth, .int .i64 pp.fSize, .int .i64 pp.fSum, .int .i64 pp.fLevel]) :: rdA rb ab n cb (B + 1 + 120 * k + (2 + 2 * 20) + 1 + 1 + 1) :: rowA PtrD.cells 5 33 (.slice ap us.length cu) us :: boxA b2 1 25 (.agg #[.slice (some ⟨gR, 0, none⟩) 3 cR]) :: rowA HD.cells 3 44 (.slice (some ⟨gR, 0, none⟩) 3 cR) qs :: sepA (qs.map HD.asr) :: boxA b1 1 25 (.agg #[.slice none 0 0]) :: F) _) := ⟨HS2.out⟩
   refine ⟨fun _ => HS.out, ?_⟩
   refine wm_one 4 (by kernel_rfl) ?_
   refine wo_buildS (enc := encL) (e := 4) (size := 1) rfl rfl HF rfl rfl rfl (ps := [(0, .bool true), (1, .bool true), (2, .bool true)]) rfl (cells := [.bool true, .bool true, .bool true]) (by kernel_rfl) [true, true, true] rfl rfl (by unfold maxLen; omega) rfl HS2.out HS.out ?_; clear HF HS HS2 a; intro b11 a w17 HF HS2 HS; replace HS := Bx.mk HS; replace HS2 := Bx.mk HS2; refine ⟨fun _ => HS.out, ?_⟩
   refine wm_one 5 (by kernel_rfl) ?_
   replace HS2 : Bx (St w0 (rowA HD.cells 3 44 (.slice (some ⟨gR, 0, none⟩) 3 cR) qs :: sepA (qs.map HD.asr) :: rowA encS 1 9 (.slice (some ⟨gw10, 0, none⟩) 3 3) ([col0 tx, col1 tx, col2 tx]) :: rowA encL 1 4 (.slice (some ⟨b11, 0, none⟩) 3 3) ([true, true, true]) :: boxA b9 5 33 (.agg #[.int .i64 pp.fAt, .int .i64 pp.fBirth, .int .i64 pp.fSize, .int .i64 pp.fSum, .int .i64 pp.fLevel]) :: rdA rb ab n cb (B + 1 + 120 * k + (2 + 2 * 20) + 1 + 1 + 1) :: rowA PtrD.cells 5 33 (.slice ap us.length cu) us :: boxA b2 1 25 (.agg #[.slice (some ⟨gR, 0, none⟩) 3 cR]) :: boxA b1 1 25 (.agg #[.slice none 0 0]) :: F) _) := ⟨((((HS2.out).pick 0 rfl).pick 1 rfl).pick 7 rfl).pick 7 rfl⟩
   have hm : (8 : Int) + (dn6 : Int) = ((8 + dn6 : Nat) : Int) := by omega
   obtain ⟨ys, hev, hny⟩ := niceS_write (m := 8 + dn6) (cols := fun i => [col0 tx, col1 tx, col2 tx].getD i ByteArray.empty) (wn := fun i => [true, true, true].getD i false) hni (by omega) (by omega) (fun i => Nat.le_trans (col_le tx i (by omega)) (by decide))
   refine wo_call rfl rfl HF rfl (enter_of Try.func54 (by kernel_rfl) rfl) (args := #[.agg #[.slice (some ⟨gR, 0, none⟩) 3 cR], .int .i64 ((8 : Int) + (dn6 : Int)), .slice (some ⟨gw10, 0, none⟩) 3 3, .slice (some ⟨b11, 0, none⟩) 3 3]) rfl (by have := l4Put_any w0 _ gR cR gw10 3 b11 3 qs ((8 : Int) + (dn6 : Int)) [col0 tx, col1 tx, col2 tx] [true, true, true] _ (by omega) (by rw [hql]; exact Nat.le_refl 3) (by rw [hql]; exact Nat.le_refl 3) hpw (fun i => Nat.le_trans (col_le tx i (by omega)) (by decide)) (by rw [hql]; exact HS2.out); rw [hql, hm, hev] at this; rw [hm]; exact this) rfl rfl ?_
   rintro _ w18 (⟨h0, _⟩ | ⟨ps12, hq2, rfl, hs1⟩)
   ·cases h0
   obtain rfl := Option.some.inj hq2; refine ⟨_, rfl, ?_⟩; replace HS2 := Bx.mk hs1; clear hs1 HF; clear a; intro a HF
   replace HS2 : Bx (St w0 (rowA HD.cells 3 44 (.slice (some ⟨gR, 0, none⟩) 3 cR) ps12 :: sepA (ps12.map HD.asr) :: rowA encS 1 9 (.slice (some ⟨gw10, 0, none⟩) 3 3) ([col0 tx, col1 tx, col2 tx]) :: rowA encL 1 4 (.slice (some ⟨b11, 0, none⟩) 3 3) ([true, true, true]) :: boxA b9 5 33 (.agg #[.int .i64 pp.fAt, .int .i64 pp.fBirth, .int .i64 pp.fSize, .int .i64 pp.fSum, .int .i64 pp.fLevel]) :: rdA rb ab n cb (B + 1 + 120 * k + (2 + 2 * 20) + 1 + 1 + 1) :: rowA PtrD.cells 5 33 (.slice ap us.length cu) us :: boxA b2 1 25 (.agg #[.slice (some ⟨gR, 0, none⟩) 3 cR]) :: boxA b1 1 25 (.agg #[.slice none 0 0]) :: F) _) := ⟨HS2.out⟩
   clear HS; have HS : Bx (St w0 (boxA b9 5 33 (.agg #[.int .i64 pp.fAt, .int .i64 pp.fBirth, .int .i64 pp.fSize, .int .i64 pp.fSum, .int .i64 pp.fLevel]) :: rdA rb ab n cb (B + 1 + 120 * k + (2 + 2 * 20) + 1 + 1 + 1) :: rowA PtrD.cells 5 33 (.slice ap us.length cu) us :: boxA b2 1 25 (.agg #[.slice (some ⟨gR, 0, none⟩) 3 cR]) :: boxA b1 1 25 (.agg #[.slice none 0 0]) :: F) _) := ⟨((((HS2.out.erase 3).erase 2).erase 1).erase 0)⟩
   refine ⟨fun _ => HS.out, ?_⟩
   refine wm_t 6 rfl (by kernel_rfl) (by kernel_rfl) (by kernel_rfl) (fun _ _ _ h => h) (by decide) rfl HF rfl rfl (fun _ _ => (yl_move rfl (HF.ev rfl))) (fun _ => HS.out) ?_; clear HF a; intro a HF
   refine wm_t 7 rfl (by kernel_rfl) (by kernel_rfl) (by kernel_rfl) (fun _ _ _ h => h) (by decide) rfl HF rfl rfl (fun _ _ => (yl_extract rfl (HF.ev rfl) rfl)) (fun _ => HS.out) ?_; clear HF a; intro a HF
   refine wm_t 8 rfl (by kernel_rfl) (by kernel_rfl) (by kernel_rfl) (fun _ _ _ h => h) (by decide) rfl HF rfl rfl (fun _ _ => (yl_extract rfl (HF.ev rfl) rfl)) (fun _ => HS.out) ?_; clear HF a; intro a HF
   refine wm_one 9 (by kernel_rfl) ?_
   refine wo_storeBox rfl rfl rfl rfl (HF.ev rfl) (HF.ev rfl) HS2.out 7 rfl (cells_lit [.slice (some ⟨gR, 0, none⟩) 3 cR] rfl rfl) (by kernel_rfl) ?_
   clear HS2; intro w19 HS2; replace HS2 : Bx (St w0 (rowA HD.cells 3 44 (.slice (some ⟨gR, 0, none⟩) 3 cR) ps12 :: sepA (ps12.map HD.asr) :: rowA encS 1 9 (.slice (some ⟨gw10, 0, none⟩) 3 3) ([col0 tx, col1 tx, col2 tx]) :: rowA encL 1 4 (.slice (some ⟨b11, 0, none⟩) 3 3) ([true, true, true]) :: boxA b9 5 33 (.agg #[.int .i64 pp.fAt, .int .i64 pp.fBirth, .int .i64 pp.fSize, .int .i64 pp.fSum, .int .i64 pp.fLevel]) :: rdA rb ab n cb (B + 1 + 120 * k + (2 + 2 * 20) + 1 + 1 + 1) :: rowA PtrD.cells 5 33 (.slice ap us.length cu) us :: boxA b2 1 25 (.agg #[.slice (some ⟨gR, 0, none⟩) 3 cR]) :: boxA b1 1 25 (.agg #[.slice none 0 0]) :: F) _) := ⟨HS2⟩; refine ⟨(fun h => absurd (show true = false from h) (by decide)), ?_⟩
   refine wm_done (by kernel_rfl) ?_
   clear HS; have HS := HS2; clear HS2
   refine ex_then ?_
   refine wp_sr ?_
   refine wl_mv HF rfl rfl rfl rfl rfl ?_; clear HF a; intro a HF
   refine wl_y rfl HF rfl rfl (yl_loadR (cs := [.int .i64 pp.fAt, .int .i64 pp.fBirth, .int .i64 pp.fSize, .int .i64 pp.fSum, .int .i64 pp.fLevel]) rfl (HF.ev rfl) ((HS.out.box 4 rfl).sub 0 5) (by kernel_rfl)) ?_; clear HF a; intro a HF
   refine wl_buildS (enc := PtrD.cells) (e := 33) (size := 5) rfl HF rfl rfl rfl (ps := [(0, .agg #[.int .i64 pp.fAt, .int .i64 pp.fBirth, .int .i64 pp.fSize, .int .i64 pp.fSum, .int .i64 pp.fLevel])]) rfl (cells := [.int .i64 pp.fAt, .int .i64 pp.fBirth, .int .i64 pp.fSize, .int .i64 pp.fSum, .int .i64 pp.fLevel]) (by kernel_rfl) [pp] rfl rfl (by unfold maxLen; omega) rfl HS.out ?_; clear HF HS a; intro b13 a w20 HF HS; replace HS := Bx.mk HS
   refine wl_appL rfl HF rfl rfl rfl (HF.ev rfl) (HF.ev rfl) elemP PtrD.cells_len HS.out 7 (xs := us) rfl (ys := [pp]) (St.rdN HS.out PtrD.cells_len 0 rfl) (cells_one_P _) (by unfold maxLen; simp only [List.length_cons, List.length_nil]; omega) (by simp only [List.length_cons, List.length_nil]; omega) ?_; clear HF HS a; intro ao14 cp15 w21 a HF HS; replace HS := Bx.mk HS
   replace HS : Bx (St w0 (rowA PtrD.cells 5 33 (.slice (some ⟨b13, 0, none⟩) 1 1) ([pp]) :: rowA HD.cells 3 44 (.slice (some ⟨gR, 0, none⟩) 3 cR) ps12 :: sepA (ps12.map HD.asr) :: rowA encS 1 9 (.slice (some ⟨gw10, 0, none⟩) 3 3) ([col0 tx, col1 tx, col2 tx]) :: rowA encL 1 4 (.slice (some ⟨b11, 0, none⟩) 3 3) ([true, true, true]) :: boxA b9 5 33 (.agg #[.int .i64 pp.fAt, .int .i64 pp.fBirth, .int .i64 pp.fSize, .int .i64 pp.fSum, .int .i64 pp.fLevel]) :: rdA rb ab n cb (B + 1 + 120 * k + (2 + 2 * 20) + 1 + 1 + 1) :: rowA PtrD.cells 5 33 (.slice ao14 (us.length + ([pp]).length) cp15) (us ++ ([pp])) :: boxA b2 1 25 (.agg #[.slice (some ⟨gR, 0, none⟩) 3 cR]) :: boxA b1 1 25 (.agg #[.slice none 0 0]) :: F) _) := ⟨HS.out⟩
   refine wl_as HF rfl rfl rfl rfl rfl ?_; clear HF a; intro a HF
   refine wl_ne ?_
   refine wp_sr ?_
   refine wl_mv HF rfl rfl rfl rfl rfl ?_; clear HF a; intro a HF
   replace HS : Bx (St w0 (rdA rb ab n cb (B + 1 + 120 * k + (2 + 2 * 20) + 1 + 1 + 1) :: rowA PtrD.cells 5 33 (.slice (some ⟨b13, 0, none⟩) 1 1) ([pp]) :: rowA HD.cells 3 44 (.slice (some ⟨gR, 0, none⟩) 3 cR) ps12 :: sepA (ps12.map HD.asr) :: rowA encS 1 9 (.slice (some ⟨gw10, 0, none⟩) 3 3) ([col0 tx, col1 tx, col2 tx]) :: rowA encL 1 4 (.slice (some ⟨b11, 0, none⟩) 3 3) ([true, true, true]) :: boxA b9 5 33 (.agg #[.int .i64 pp.fAt, .int .i64 pp.fBirth, .int .i64 pp.fSize, .int .i64 pp.fSum, .int .i64 pp.fLevel]) :: rowA PtrD.cells 5 33 (.slice ao14 (us.length + ([pp]).length) cp15) (us ++ ([pp])) :: boxA b2 1 25 (.agg #[.slice (some ⟨gR, 0, none⟩) 3 cR]) :: boxA b1 1 25 (.agg #[.slice none 0 0]) :: F) _) := ⟨(HS.out).pick 6 rfl⟩
   refine wl_call rfl HF rfl (enter_of Try.func110 (by kernel_rfl) rfl) (args := #[.pointer (some ⟨rb, 0, none⟩), .int .i64 3]) rfl (pickN w0 _ rb ab n cb bs hn hR (B + 1 + 120 * k + (2 + 2 * 20) + 1 + 1 + 1) (by omega) 3 (by omega) _ HS.out) rfl rfl ?_
   rintro _ w22 ⟨dn16, rfl, hu16, hs1⟩
   refine ⟨_, rfl, ?_⟩; replace HS := Bx.mk hs1; clear hs1 HF; clear a; intro a HF
   replace HS : Bx (St w0 (rdA rb ab n cb (B + 1 + 120 * k + (2 + 2 * 20) + 1 + 1 + 1 + 1) :: rowA PtrD.cells 5 33 (.slice (some ⟨b13, 0, none⟩) 1 1) ([pp]) :: rowA HD.cells 3 44 (.slice (some ⟨gR, 0, none⟩) 3 cR) ps12 :: sepA (ps12.map HD.asr) :: rowA encS 1 9 (.slice (some ⟨gw10, 0, none⟩) 3 3) ([col0 tx, col1 tx, col2 tx]) :: rowA encL 1 4 (.slice (some ⟨b11, 0, none⟩) 3 3) ([true, true, true]) :: boxA b9 5 33 (.agg #[.int .i64 pp.fAt, .int .i64 pp.fBirth, .int .i64 pp.fSize, .int .i64 pp.fSum, .int .i64 pp.fLevel]) :: rowA PtrD.cells 5 33 (.slice ao14 (us.length + ([pp]).length) cp15) (us ++ ([pp])) :: boxA b2 1 25 (.agg #[.slice (some ⟨gR, 0, none⟩) 3 cR]) :: boxA b1 1 25 (.agg #[.slice none 0 0]) :: F) _) := ⟨HS.out⟩
   refine wl_y rfl HF rfl rfl (yl_eqlI rfl (HF.ev rfl) (HF.ev rfl)) ?_; clear HF a; intro a HF
   refine wl_ne ?_
   refine HF.cases 54 rfl (fun cc2 HF1 => ?_) (fun cc2 HF1 => ?_)
   ·clear HF; have HF := HF1; clear HF1
    have dcc2 := eq_of_beq cc2
    refine wc_true HF rfl ?_
    refine wp_region_lit ?_
    refine wl_y rfl HF rfl rfl (yl_loadR (cs := [.slice (some ⟨gR, 0, none⟩) 3 cR]) rfl (HF.ev rfl) ((HS.out.box 8 rfl).sub 0 1) (by kernel_rfl)) ?_; clear HF a; intro a HF
    have hlx : ps12.length = 3 := hny.len
    replace HS : Bx (St w0 (rowA HD.cells 3 44 (.slice (some ⟨gR, 0, none⟩) 3 cR) ps12 :: sepA (ps12.map HD.asr) :: rdA rb ab n cb (B + 1 + 120 * k + (2 + 2 * 20) + 1 + 1 + 1 + 1) :: rowA PtrD.cells 5 33 (.slice (some ⟨b13, 0, none⟩) 1 1) ([pp]) :: rowA encS 1 9 (.slice (some ⟨gw10, 0, none⟩) 3 3) ([col0 tx, col1 tx, col2 tx]) :: rowA encL 1 4 (.slice (some ⟨b11, 0, none⟩) 3 3) ([true, true, true]) :: boxA b9 5 33 (.agg #[.int .i64 pp.fAt, .int .i64 pp.fBirth, .int .i64 pp.fSize, .int .i64 pp.fSum, .int .i64 pp.fLevel]) :: rowA PtrD.cells 5 33 (.slice ao14 (us.length + ([pp]).length) cp15) (us ++ ([pp])) :: boxA b2 1 25 (.agg #[.slice (some ⟨gR, 0, none⟩) 3 cR]) :: boxA b1 1 25 (.agg #[.slice none 0 0]) :: F) _) := ⟨((HS.out).pick 3 rfl).pick 3 rfl⟩
    refine wl_call rfl HF rfl (enter_of Try.func113 (by kernel_rfl) rfl) (args := #[.agg #[.slice (some ⟨gR, 0, none⟩) 3 cR]]) rfl (by have := l4Flush_any w0 _ gR cR ps12 _ (by omega) (fun k hk => by rw [(hny.get (k := k) (by omega)).c]; omega) (fun k hk => by have := (hny.get (k := k) (by omega)).w; omega) (fun i hi k hk => by rw [(hny.get (k := i) (by omega)).c]; exact (hny.get (k := i) (by omega)).a k hk) (by rw [hlx]; exact HS.out); rw [hlx] at this; exact this) rfl rfl ?_
    rintro _ w23 ⟨rs, hrl, hrq, rfl, hs1⟩
    have hnr : niceS 0 (dsOf rs) := by rw [hrq]; exact niceS_flush hny
    refine ⟨_, rfl, ?_⟩; replace HS := Bx.mk hs1; clear hs1 HF; clear a; intro a HF
    replace HS : Bx (St w0 (rowA HD.cells 3 44 (.slice (some ⟨gR, 0, none⟩) 3 cR) rs :: sepA (rs.map HD.asr) :: rdA rb ab n cb (B + 1 + 120 * k + (2 + 2 * 20) + 1 + 1 + 1 + 1) :: rowA PtrD.cells 5 33 (.slice (some ⟨b13, 0, none⟩) 1 1) ([pp]) :: rowA encS 1 9 (.slice (some ⟨gw10, 0, none⟩) 3 3) ([col0 tx, col1 tx, col2 tx]) :: rowA encL 1 4 (.slice (some ⟨b11, 0, none⟩) 3 3) ([true, true, true]) :: boxA b9 5 33 (.agg #[.int .i64 pp.fAt, .int .i64 pp.fBirth, .int .i64 pp.fSize, .int .i64 pp.fSum, .int .i64 pp.fLevel]) :: rowA PtrD.cells 5 33 (.slice ao14 (us.length + ([pp]).length) cp15) (us ++ ([pp])) :: boxA b2 1 25 (.agg #[.slice (some ⟨gR, 0, none⟩) 3 cR]) :: boxA b1 1 25 (.agg #[.slice none 0 0]) :: F) _) := ⟨HS.out⟩
    refine wl_storeBox rfl HF rfl rfl (HF.ev rfl) (HF.ev rfl) HS.out 8 rfl (cells_lit [.slice (some ⟨gR, 0, none⟩) 3 cR] rfl rfl) (by kernel_rfl) ?_; clear HS; intro w24 HS; replace HS := Bx.mk HS
    have HS : Bx (St w0 (rowA HD.cells 3 44 (.slice (some ⟨gR, 0, none⟩) 3 cR) rs :: sepA (rs.map HD.asr) :: rdA rb ab n cb (B + 1 + 120 * k + (2 + 2 * 20) + 1 + 1 + 1 + 1) :: rowA PtrD.cells 5 33 (.slice (some ⟨b13, 0, none⟩) 1 1) ([pp]) :: rowA encS 1 9 (.slice (some ⟨gw10, 0, none⟩) 3 3) ([col0 tx, col1 tx, col2 tx]) :: rowA encL 1 4 (.slice (some ⟨b11, 0, none⟩) 3 3) ([true, true, true]) :: boxA b9 5 33 (.agg #[.int .i64 pp.fAt, .int .i64 pp.fBirth, .int .i64 pp.fSize, .int .i64 pp.fSum, .int .i64 pp.fLevel]) :: rowA PtrD.cells 5 33 (.slice ao14 (us.length + ([pp]).length) cp15) (us ++ ([pp])) :: boxA b2 1 25 (.agg #[.slice (some ⟨gR, 0, none⟩) 3 cR]) :: boxA b1 1 25 (.agg #[.slice none 0 0]) :: F) _) := HS
    refine wpList_nil ?_
    refine ex_block ?_
    refine ex_then ?_
    refine wp_region_lit ?_
    refine wl_mv HF rfl rfl rfl rfl rfl ?_; clear HF a; intro a HF
    refine wl_y rfl HF rfl rfl (yl_subI rfl (HF.ev rfl) (HF.ev rfl) (i64w (by omega))) ?_; clear HF a; intro a HF
    refine wl_as HF rfl rfl rfl rfl rfl ?_; clear HF a; intro a HF
    refine wl_ne ?_
    replace HS : Bx (St w0 (rdA rb ab n cb (B + 1 + 120 * k + (2 + 2 * 20) + 1 + 1 + 1 + 1) :: rowA HD.cells 3 44 (.slice (some ⟨gR, 0, none⟩) 3 cR) rs :: sepA (rs.map HD.asr) :: rowA PtrD.cells 5 33 (.slice (some ⟨b13, 0, none⟩) 1 1) ([pp]) :: rowA encS 1 9 (.slice (some ⟨gw10, 0, none⟩) 3 3) ([col0 tx, col1 tx, col2 tx]) :: rowA encL 1 4 (.slice (some ⟨b11, 0, none⟩) 3 3) ([true, true, true]) :: boxA b9 5 33 (.agg #[.int .i64 pp.fAt, .int .i64 pp.fBirth, .int .i64 pp.fSize, .int .i64 pp.fSum, .int .i64 pp.fLevel]) :: rowA PtrD.cells 5 33 (.slice ao14 (us.length + ([pp]).length) cp15) (us ++ ([pp])) :: boxA b2 1 25 (.agg #[.slice (some ⟨gR, 0, none⟩) 3 cR]) :: boxA b1 1 25 (.agg #[.slice none 0 0]) :: F) _) := ⟨(HS.out).pick 2 rfl⟩
    replace HS : Bx (St w0 (rdA rb ab n cb (B + 1 + 120 * (k + 1)) :: rowA HD.cells 3 44 (.slice (some ⟨gR, 0, none⟩) 3 cR) rs :: sepA (rs.map HD.asr) :: rowA PtrD.cells 5 33 (.slice (some ⟨b13, 0, none⟩) 1 1) ([pp]) :: rowA encS 1 9 (.slice (some ⟨gw10, 0, none⟩) 3 3) ([col0 tx, col1 tx, col2 tx]) :: rowA encL 1 4 (.slice (some ⟨b11, 0, none⟩) 3 3) ([true, true, true]) :: boxA b9 5 33 (.agg #[.int .i64 pp.fAt, .int .i64 pp.fBirth, .int .i64 pp.fSize, .int .i64 pp.fSum, .int .i64 pp.fLevel]) :: rowA PtrD.cells 5 33 (.slice ao14 (us.length + ([pp]).length) cp15) (us ++ ([pp])) :: boxA b2 1 25 (.agg #[.slice (some ⟨gR, 0, none⟩) 3 cR]) :: boxA b1 1 25 (.agg #[.slice none 0 0]) :: F) _) := ⟨HS.out.rdLe (by omega)⟩
    have hz : us.length + [pp].length = (us ++ [pp]).length := (List.length_append ..).symm; rw [hz] at HS HF; have hz1 : (us ++ [pp]).length = us.length + 1 := by rw [List.length_append]; rfl
    replace HS : Bx (St w0 (rowA PtrD.cells 5 33 (.slice ao14 ((us ++ [pp]).length) cp15) (us ++ ([pp])) :: rdA rb ab n cb (B + 1 + 120 * (k + 1)) :: boxA b2 1 25 (.agg #[.slice (some ⟨gR, 0, none⟩) 3 cR]) :: rowA HD.cells 3 44 (.slice (some ⟨gR, 0, none⟩) 3 cR) rs :: sepA (rs.map HD.asr) :: boxA b1 1 25 (.agg #[.slice none 0 0]) :: rowA PtrD.cells 5 33 (.slice (some ⟨b13, 0, none⟩) 1 1) ([pp]) :: rowA encS 1 9 (.slice (some ⟨gw10, 0, none⟩) 3 3) ([col0 tx, col1 tx, col2 tx]) :: rowA encL 1 4 (.slice (some ⟨b11, 0, none⟩) 3 3) ([true, true, true]) :: boxA b9 5 33 (.agg #[.int .i64 pp.fAt, .int .i64 pp.fBirth, .int .i64 pp.fSize, .int .i64 pp.fSum, .int .i64 pp.fLevel]) :: F) _) := ⟨((((((HS.out).pick 9 rfl).pick 3 rfl).pick 3 rfl).pick 9 rfl).pick 4 rfl).pick 9 rfl⟩
    exact ⟨k + 1, ⟨rs, _, _, us ++ [pp], ⟨by omega, niceS_mono hnr (by omega), by omega, fun u hu => (List.mem_append.1 hu).elim (hus u) fun e => by rw [List.mem_singleton.1 e]; omega⟩, HF.less _ ⟨rfl, rfl, rfl, rfl, rfl, (by show some (Value.int .i64 _) = some (Value.int .i64 _); exact congrArg (fun z => some (Value.int .i64 z)) (by omega)), trivial⟩, ((((HS.out.erase 9).erase 8).erase 7).erase 6)⟩, (by omega)⟩
   ·clear HF; have HF := HF1; clear HF1
    have dcc2 := ne_of_beq_false cc2
    refine wc_false HF rfl ?_
    refine wp_skip ?_
    refine ex_block ?_
    refine ex_then ?_
    refine wp_region_lit ?_
    refine wl_mv HF rfl rfl rfl rfl rfl ?_; clear HF a; intro a HF
    refine wl_y rfl HF rfl rfl (yl_subI rfl (HF.ev rfl) (HF.ev rfl) (i64w (by omega))) ?_; clear HF a; intro a HF
    refine wl_as HF rfl rfl rfl rfl rfl ?_; clear HF a; intro a HF
    refine wl_ne ?_
    replace HS : Bx (St w0 (rdA rb ab n cb (B + 1 + 120 * k + (2 + 2 * 20) + 1 + 1 + 1 + 1) :: rowA PtrD.cells 5 33 (.slice (some ⟨b13, 0, none⟩) 1 1) ([pp]) :: rowA HD.cells 3 44 (.slice (some ⟨gR, 0, none⟩) 3 cR) ps12 :: sepA (ps12.map HD.asr) :: rowA encS 1 9 (.slice (some ⟨gw10, 0, none⟩) 3 3) ([col0 tx, col1 tx, col2 tx]) :: rowA encL 1 4 (.slice (some ⟨b11, 0, none⟩) 3 3) ([true, true, true]) :: boxA b9 5 33 (.agg #[.int .i64 pp.fAt, .int .i64 pp.fBirth, .int .i64 pp.fSize, .int .i64 pp.fSum, .int .i64 pp.fLevel]) :: rowA PtrD.cells 5 33 (.slice ao14 (us.length + ([pp]).length) cp15) (us ++ ([pp])) :: boxA b2 1 25 (.agg #[.slice (some ⟨gR, 0, none⟩) 3 cR]) :: boxA b1 1 25 (.agg #[.slice none 0 0]) :: F) _) := ⟨(HS.out).pick 0 rfl⟩
    replace HS : Bx (St w0 (rdA rb ab n cb (B + 1 + 120 * (k + 1)) :: rowA PtrD.cells 5 33 (.slice (some ⟨b13, 0, none⟩) 1 1) ([pp]) :: rowA HD.cells 3 44 (.slice (some ⟨gR, 0, none⟩) 3 cR) ps12 :: sepA (ps12.map HD.asr) :: rowA encS 1 9 (.slice (some ⟨gw10, 0, none⟩) 3 3) ([col0 tx, col1 tx, col2 tx]) :: rowA encL 1 4 (.slice (some ⟨b11, 0, none⟩) 3 3) ([true, true, true]) :: boxA b9 5 33 (.agg #[.int .i64 pp.fAt, .int .i64 pp.fBirth, .int .i64 pp.fSize, .int .i64 pp.fSum, .int .i64 pp.fLevel]) :: rowA PtrD.cells 5 33 (.slice ao14 (us.length + ([pp]).length) cp15) (us ++ ([pp])) :: boxA b2 1 25 (.agg #[.slice (some ⟨gR, 0, none⟩) 3 cR]) :: boxA b1 1 25 (.agg #[.slice none 0 0]) :: F) _) := ⟨HS.out.rdLe (by omega)⟩
    have hz : us.length + [pp].length = (us ++ [pp]).length := (List.length_append ..).symm; rw [hz] at HS HF; have hz1 : (us ++ [pp]).length = us.length + 1 := by rw [List.length_append]; rfl
    replace HS : Bx (St w0 (rowA PtrD.cells 5 33 (.slice ao14 ((us ++ [pp]).length) cp15) (us ++ ([pp])) :: rdA rb ab n cb (B + 1 + 120 * (k + 1)) :: boxA b2 1 25 (.agg #[.slice (some ⟨gR, 0, none⟩) 3 cR]) :: rowA HD.cells 3 44 (.slice (some ⟨gR, 0, none⟩) 3 cR) ps12 :: sepA (ps12.map HD.asr) :: boxA b1 1 25 (.agg #[.slice none 0 0]) :: rowA PtrD.cells 5 33 (.slice (some ⟨b13, 0, none⟩) 1 1) ([pp]) :: rowA encS 1 9 (.slice (some ⟨gw10, 0, none⟩) 3 3) ([col0 tx, col1 tx, col2 tx]) :: rowA encL 1 4 (.slice (some ⟨b11, 0, none⟩) 3 3) ([true, true, true]) :: boxA b9 5 33 (.agg #[.int .i64 pp.fAt, .int .i64 pp.fBirth, .int .i64 pp.fSize, .int .i64 pp.fSum, .int .i64 pp.fLevel]) :: F) _) := ⟨((((((HS.out).pick 9 rfl).pick 4 rfl).pick 4 rfl).pick 9 rfl).pick 4 rfl).pick 9 rfl⟩
    exact ⟨k + 1, ⟨ps12, _, _, us ++ [pp], ⟨by omega, hny, by omega, fun u hu => (List.mem_append.1 hu).elim (hus u) fun e => by rw [List.mem_singleton.1 e]; omega⟩, HF.less _ ⟨rfl, rfl, rfl, rfl, rfl, (by show some (Value.int .i64 _) = some (Value.int .i64 _); exact congrArg (fun z => some (Value.int .i64 z)) (by omega)), trivial⟩, ((((HS.out.erase 9).erase 8).erase 7).erase 6)⟩, (by omega)⟩
  ·skip
   refine wo_buildS (enc := encL) (e := 4) (size := 1) rfl rfl HF rfl rfl rfl (ps := [(0, .bool true), (1, .bool true), (2, .bool true)]) rfl (cells := [.bool true, .bool true, .bool true]) (by kernel_rfl) [true, true, true] rfl rfl (by unfold maxLen; omega) rfl HS2.out HS.out ?_; clear HF HS HS2 a; intro b17 a w25 HF HS2 HS; replace HS := Bx.mk HS; replace HS2 := Bx.mk HS2; refine ⟨fun _ => HS.out, ?_⟩
   refine wm_one 3 (by kernel_rfl) ?_
   refine wo_call rfl rfl HF rfl (enter_of Try.func56 (by kernel_rfl) rfl) (args := #[.string tx]) rfl (l4Cut_any tx _ (by omega) (by omega)) rfl rfl ?_
   rintro _ w26 ⟨gw18, rfl, hs⟩
   refine ⟨_, rfl, ?_⟩; replace HS := Bx.mk (HS.out.later hs.bel); replace HS2 := Bx.mk (HS2.out.add hs); clear hs HF; clear a; intro a HF
   replace HS2 : Bx (St w0 (rowA encS 1 9 (.slice (some ⟨gw18, 0, none⟩) 3 3) ([col0 tx, col1 tx, col2 tx]) :: rowA encL 1 4 (.slice (some ⟨b17, 0, none⟩) 3 3) ([true, true, true]) :: boxA b9 5 33 (.agg #[.int .i64 pp.fAt, .int .i64 pp.fBirth, .int .i64 pp.fSize, .int .i64 pp.fSum, .int .i64 pp.fLevel]) :: rdA rb ab n cb (B + 1 + 120 * k + (2 + 2 * 20) + 1 + 1 + 1) :: rowA PtrD.cells 5 33 (.slice ap us.length cu) us :: boxA b2 1 25 (.agg #[.slice (some ⟨gR, 0, none⟩) 3 cR]) :: rowA HD.cells 3 44 (.slice (some ⟨gR, 0, none⟩) 3 cR) qs :: sepA (qs.map HD.asr) :: boxA b1 1 25 (.agg #[.slice none 0 0]) :: F) _) := ⟨HS2.out⟩
   refine ⟨fun _ => HS.out, ?_⟩
   refine wm_one 5 (by kernel_rfl) ?_
   replace HS2 : Bx (St w0 (rowA HD.cells 3 44 (.slice (some ⟨gR, 0, none⟩) 3 cR) qs :: sepA (qs.map HD.asr) :: rowA encS 1 9 (.slice (some ⟨gw18, 0, none⟩) 3 3) ([col0 tx, col1 tx, col2 tx]) :: rowA encL 1 4 (.slice (some ⟨b17, 0, none⟩) 3 3) ([true, true, true]) :: boxA b9 5 33 (.agg #[.int .i64 pp.fAt, .int .i64 pp.fBirth, .int .i64 pp.fSize, .int .i64 pp.fSum, .int .i64 pp.fLevel]) :: rdA rb ab n cb (B + 1 + 120 * k + (2 + 2 * 20) + 1 + 1 + 1) :: rowA PtrD.cells 5 33 (.slice ap us.length cu) us :: boxA b2 1 25 (.agg #[.slice (some ⟨gR, 0, none⟩) 3 cR]) :: boxA b1 1 25 (.agg #[.slice none 0 0]) :: F) _) := ⟨((((HS2.out).pick 1 rfl).pick 1 rfl).pick 7 rfl).pick 7 rfl⟩
   have hm : (8 : Int) + (dn6 : Int) = ((8 + dn6 : Nat) : Int) := by omega
   obtain ⟨ys, hev, hny⟩ := niceS_write (m := 8 + dn6) (cols := fun i => [col0 tx, col1 tx, col2 tx].getD i ByteArray.empty) (wn := fun i => [true, true, true].getD i false) hni (by omega) (by omega) (fun i => Nat.le_trans (col_le tx i (by omega)) (by decide))
   refine wo_call rfl rfl HF rfl (enter_of Try.func54 (by kernel_rfl) rfl) (args := #[.agg #[.slice (some ⟨gR, 0, none⟩) 3 cR], .int .i64 ((8 : Int) + (dn6 : Int)), .slice (some ⟨gw18, 0, none⟩) 3 3, .slice (some ⟨b17, 0, none⟩) 3 3]) rfl (by have := l4Put_any w0 _ gR cR gw18 3 b17 3 qs ((8 : Int) + (dn6 : Int)) [col0 tx, col1 tx, col2 tx] [true, true, true] _ (by omega) (by rw [hql]; exact Nat.le_refl 3) (by rw [hql]; exact Nat.le_refl 3) hpw (fun i => Nat.le_trans (col_le tx i (by omega)) (by decide)) (by rw [hql]; exact HS2.out); rw [hql, hm, hev] at this; rw [hm]; exact this) rfl rfl ?_
   rintro _ w27 (⟨h0, _⟩ | ⟨ps19, hq2, rfl, hs1⟩)
   ·cases h0
   obtain rfl := Option.some.inj hq2; refine ⟨_, rfl, ?_⟩; replace HS2 := Bx.mk hs1; clear hs1 HF; clear a; intro a HF
   replace HS2 : Bx (St w0 (rowA HD.cells 3 44 (.slice (some ⟨gR, 0, none⟩) 3 cR) ps19 :: sepA (ps19.map HD.asr) :: rowA encS 1 9 (.slice (some ⟨gw18, 0, none⟩) 3 3) ([col0 tx, col1 tx, col2 tx]) :: rowA encL 1 4 (.slice (some ⟨b17, 0, none⟩) 3 3) ([true, true, true]) :: boxA b9 5 33 (.agg #[.int .i64 pp.fAt, .int .i64 pp.fBirth, .int .i64 pp.fSize, .int .i64 pp.fSum, .int .i64 pp.fLevel]) :: rdA rb ab n cb (B + 1 + 120 * k + (2 + 2 * 20) + 1 + 1 + 1) :: rowA PtrD.cells 5 33 (.slice ap us.length cu) us :: boxA b2 1 25 (.agg #[.slice (some ⟨gR, 0, none⟩) 3 cR]) :: boxA b1 1 25 (.agg #[.slice none 0 0]) :: F) _) := ⟨HS2.out⟩
   clear HS; have HS : Bx (St w0 (boxA b9 5 33 (.agg #[.int .i64 pp.fAt, .int .i64 pp.fBirth, .int .i64 pp.fSize, .int .i64 pp.fSum, .int .i64 pp.fLevel]) :: rdA rb ab n cb (B + 1 + 120 * k + (2 + 2 * 20) + 1 + 1 + 1) :: rowA PtrD.cells 5 33 (.slice ap us.length cu) us :: boxA b2 1 25 (.agg #[.slice (some ⟨gR, 0, none⟩) 3 cR]) :: boxA b1 1 25 (.agg #[.slice none 0 0]) :: F) _) := ⟨((((HS2.out.erase 3).erase 2).erase 1).erase 0)⟩
   refine ⟨fun _ => HS.out, ?_⟩
   refine wm_t 6 rfl (by kernel_rfl) (by kernel_rfl) (by kernel_rfl) (fun _ _ _ h => h) (by decide) rfl HF rfl rfl (fun _ _ => (yl_move rfl (HF.ev rfl))) (fun _ => HS.out) ?_; clear HF a; intro a HF
   refine wm_t 7 rfl (by kernel_rfl) (by kernel_rfl) (by kernel_rfl) (fun _ _ _ h => h) (by decide) rfl HF rfl rfl (fun _ _ => (yl_extract rfl (HF.ev rfl) rfl)) (fun _ => HS.out) ?_; clear HF a; intro a HF
   refine wm_t 8 rfl (by kernel_rfl) (by kernel_rfl) (by kernel_rfl) (fun _ _ _ h => h) (by decide) rfl HF rfl rfl (fun _ _ => (yl_extract rfl (HF.ev rfl) rfl)) (fun _ => HS.out) ?_; clear HF a; intro a HF
   refine wm_one 9 (by kernel_rfl) ?_
   refine wo_storeBox rfl rfl rfl rfl (HF.ev rfl) (HF.ev rfl) HS2.out 7 rfl (cells_lit [.slice (some ⟨gR, 0, none⟩) 3 cR] rfl rfl) (by kernel_rfl) ?_
   clear HS2; intro w28 HS2; replace HS2 : Bx (St w0 (rowA HD.cells 3 44 (.slice (some ⟨gR, 0, none⟩) 3 cR) ps19 :: sepA (ps19.map HD.asr) :: rowA encS 1 9 (.slice (some ⟨gw18, 0, none⟩) 3 3) ([col0 tx, col1 tx, col2 tx]) :: rowA encL 1 4 (.slice (some ⟨b17, 0, none⟩) 3 3) ([true, true, true]) :: boxA b9 5 33 (.agg #[.int .i64 pp.fAt, .int .i64 pp.fBirth, .int .i64 pp.fSize, .int .i64 pp.fSum, .int .i64 pp.fLevel]) :: rdA rb ab n cb (B + 1 + 120 * k + (2 + 2 * 20) + 1 + 1 + 1) :: rowA PtrD.cells 5 33 (.slice ap us.length cu) us :: boxA b2 1 25 (.agg #[.slice (some ⟨gR, 0, none⟩) 3 cR]) :: boxA b1 1 25 (.agg #[.slice none 0 0]) :: F) _) := ⟨HS2⟩; refine ⟨(fun h => absurd (show true = false from h) (by decide)), ?_⟩
   refine wm_done (by kernel_rfl) ?_
   clear HS; have HS := HS2; clear HS2
   refine ex_then ?_
   refine wp_sr ?_
   refine wl_mv HF rfl rfl rfl rfl rfl ?_; clear HF a; intro a HF
   refine wl_y rfl HF rfl rfl (yl_loadR (cs := [.int .i64 pp.fAt, .int .i64 pp.fBirth, .int .i64 pp.fSize, .int .i64 pp.fSum, .int .i64 pp.fLevel]) rfl (HF.ev rfl) ((HS.out.box 4 rfl).sub 0 5) (by kernel_rfl)) ?_; clear HF a; intro a HF
   refine wl_buildS (enc := PtrD.cells) (e := 33) (size := 5) rfl HF rfl rfl rfl (ps := [(0, .agg #[.int .i64 pp.fAt, .int .i64 pp.fBirth, .int .i64 pp.fSize, .int .i64 pp.fSum, .int .i64 pp.fLevel])]) rfl (cells := [.int .i64 pp.fAt, .int .i64 pp.fBirth, .int .i64 pp.fSize, .int .i64 pp.fSum, .int .i64 pp.fLevel]) (by kernel_rfl) [pp] rfl rfl (by unfold maxLen; omega) rfl HS.out ?_; clear HF HS a; intro b20 a w29 HF HS; replace HS := Bx.mk HS
   refine wl_appL rfl HF rfl rfl rfl (HF.ev rfl) (HF.ev rfl) elemP PtrD.cells_len HS.out 7 (xs := us) rfl (ys := [pp]) (St.rdN HS.out PtrD.cells_len 0 rfl) (cells_one_P _) (by unfold maxLen; simp only [List.length_cons, List.length_nil]; omega) (by simp only [List.length_cons, List.length_nil]; omega) ?_; clear HF HS a; intro ao21 cp22 w30 a HF HS; replace HS := Bx.mk HS
   replace HS : Bx (St w0 (rowA PtrD.cells 5 33 (.slice (some ⟨b20, 0, none⟩) 1 1) ([pp]) :: rowA HD.cells 3 44 (.slice (some ⟨gR, 0, none⟩) 3 cR) ps19 :: sepA (ps19.map HD.asr) :: rowA encS 1 9 (.slice (some ⟨gw18, 0, none⟩) 3 3) ([col0 tx, col1 tx, col2 tx]) :: rowA encL 1 4 (.slice (some ⟨b17, 0, none⟩) 3 3) ([true, true, true]) :: boxA b9 5 33 (.agg #[.int .i64 pp.fAt, .int .i64 pp.fBirth, .int .i64 pp.fSize, .int .i64 pp.fSum, .int .i64 pp.fLevel]) :: rdA rb ab n cb (B + 1 + 120 * k + (2 + 2 * 20) + 1 + 1 + 1) :: rowA PtrD.cells 5 33 (.slice ao21 (us.length + ([pp]).length) cp22) (us ++ ([pp])) :: boxA b2 1 25 (.agg #[.slice (some ⟨gR, 0, none⟩) 3 cR]) :: boxA b1 1 25 (.agg #[.slice none 0 0]) :: F) _) := ⟨HS.out⟩
   refine wl_as HF rfl rfl rfl rfl rfl ?_; clear HF a; intro a HF
   refine wl_ne ?_
   refine wp_sr ?_
   refine wl_mv HF rfl rfl rfl rfl rfl ?_; clear HF a; intro a HF
   replace HS : Bx (St w0 (rdA rb ab n cb (B + 1 + 120 * k + (2 + 2 * 20) + 1 + 1 + 1) :: rowA PtrD.cells 5 33 (.slice (some ⟨b20, 0, none⟩) 1 1) ([pp]) :: rowA HD.cells 3 44 (.slice (some ⟨gR, 0, none⟩) 3 cR) ps19 :: sepA (ps19.map HD.asr) :: rowA encS 1 9 (.slice (some ⟨gw18, 0, none⟩) 3 3) ([col0 tx, col1 tx, col2 tx]) :: rowA encL 1 4 (.slice (some ⟨b17, 0, none⟩) 3 3) ([true, true, true]) :: boxA b9 5 33 (.agg #[.int .i64 pp.fAt, .int .i64 pp.fBirth, .int .i64 pp.fSize, .int .i64 pp.fSum, .int .i64 pp.fLevel]) :: rowA PtrD.cells 5 33 (.slice ao21 (us.length + ([pp]).length) cp22) (us ++ ([pp])) :: boxA b2 1 25 (.agg #[.slice (some ⟨gR, 0, none⟩) 3 cR]) :: boxA b1 1 25 (.agg #[.slice none 0 0]) :: F) _) := ⟨(HS.out).pick 6 rfl⟩
   refine wl_call rfl HF rfl (enter_of Try.func110 (by kernel_rfl) rfl) (args := #[.pointer (some ⟨rb, 0, none⟩), .int .i64 3]) rfl (pickN w0 _ rb ab n cb bs hn hR (B + 1 + 120 * k + (2 + 2 * 20) + 1 + 1 + 1) (by omega) 3 (by omega) _ HS.out) rfl rfl ?_
   rintro _ w31 ⟨dn23, rfl, hu23, hs1⟩
   refine ⟨_, rfl, ?_⟩; replace HS := Bx.mk hs1; clear hs1 HF; clear a; intro a HF
   replace HS : Bx (St w0 (rdA rb ab n cb (B + 1 + 120 * k + (2 + 2 * 20) + 1 + 1 + 1 + 1) :: rowA PtrD.cells 5 33 (.slice (some ⟨b20, 0, none⟩) 1 1) ([pp]) :: rowA HD.cells 3 44 (.slice (some ⟨gR, 0, none⟩) 3 cR) ps19 :: sepA (ps19.map HD.asr) :: rowA encS 1 9 (.slice (some ⟨gw18, 0, none⟩) 3 3) ([col0 tx, col1 tx, col2 tx]) :: rowA encL 1 4 (.slice (some ⟨b17, 0, none⟩) 3 3) ([true, true, true]) :: boxA b9 5 33 (.agg #[.int .i64 pp.fAt, .int .i64 pp.fBirth, .int .i64 pp.fSize, .int .i64 pp.fSum, .int .i64 pp.fLevel]) :: rowA PtrD.cells 5 33 (.slice ao21 (us.length + ([pp]).length) cp22) (us ++ ([pp])) :: boxA b2 1 25 (.agg #[.slice (some ⟨gR, 0, none⟩) 3 cR]) :: boxA b1 1 25 (.agg #[.slice none 0 0]) :: F) _) := ⟨HS.out⟩
   refine wl_y rfl HF rfl rfl (yl_eqlI rfl (HF.ev rfl) (HF.ev rfl)) ?_; clear HF a; intro a HF
   refine wl_ne ?_
   refine HF.cases 54 rfl (fun cc3 HF1 => ?_) (fun cc3 HF1 => ?_)
   ·clear HF; have HF := HF1; clear HF1
    have dcc3 := eq_of_beq cc3
    refine wc_true HF rfl ?_
    refine wp_region_lit ?_
    refine wl_y rfl HF rfl rfl (yl_loadR (cs := [.slice (some ⟨gR, 0, none⟩) 3 cR]) rfl (HF.ev rfl) ((HS.out.box 8 rfl).sub 0 1) (by kernel_rfl)) ?_; clear HF a; intro a HF
    have hlx : ps19.length = 3 := hny.len
    replace HS : Bx (St w0 (rowA HD.cells 3 44 (.slice (some ⟨gR, 0, none⟩) 3 cR) ps19 :: sepA (ps19.map HD.asr) :: rdA rb ab n cb (B + 1 + 120 * k + (2 + 2 * 20) + 1 + 1 + 1 + 1) :: rowA PtrD.cells 5 33 (.slice (some ⟨b20, 0, none⟩) 1 1) ([pp]) :: rowA encS 1 9 (.slice (some ⟨gw18, 0, none⟩) 3 3) ([col0 tx, col1 tx, col2 tx]) :: rowA encL 1 4 (.slice (some ⟨b17, 0, none⟩) 3 3) ([true, true, true]) :: boxA b9 5 33 (.agg #[.int .i64 pp.fAt, .int .i64 pp.fBirth, .int .i64 pp.fSize, .int .i64 pp.fSum, .int .i64 pp.fLevel]) :: rowA PtrD.cells 5 33 (.slice ao21 (us.length + ([pp]).length) cp22) (us ++ ([pp])) :: boxA b2 1 25 (.agg #[.slice (some ⟨gR, 0, none⟩) 3 cR]) :: boxA b1 1 25 (.agg #[.slice none 0 0]) :: F) _) := ⟨((HS.out).pick 3 rfl).pick 3 rfl⟩
    refine wl_call rfl HF rfl (enter_of Try.func113 (by kernel_rfl) rfl) (args := #[.agg #[.slice (some ⟨gR, 0, none⟩) 3 cR]]) rfl (by have := l4Flush_any w0 _ gR cR ps19 _ (by omega) (fun k hk => by rw [(hny.get (k := k) (by omega)).c]; omega) (fun k hk => by have := (hny.get (k := k) (by omega)).w; omega) (fun i hi k hk => by rw [(hny.get (k := i) (by omega)).c]; exact (hny.get (k := i) (by omega)).a k hk) (by rw [hlx]; exact HS.out); rw [hlx] at this; exact this) rfl rfl ?_
    rintro _ w32 ⟨rs, hrl, hrq, rfl, hs1⟩
    have hnr : niceS 0 (dsOf rs) := by rw [hrq]; exact niceS_flush hny
    refine ⟨_, rfl, ?_⟩; replace HS := Bx.mk hs1; clear hs1 HF; clear a; intro a HF
    replace HS : Bx (St w0 (rowA HD.cells 3 44 (.slice (some ⟨gR, 0, none⟩) 3 cR) rs :: sepA (rs.map HD.asr) :: rdA rb ab n cb (B + 1 + 120 * k + (2 + 2 * 20) + 1 + 1 + 1 + 1) :: rowA PtrD.cells 5 33 (.slice (some ⟨b20, 0, none⟩) 1 1) ([pp]) :: rowA encS 1 9 (.slice (some ⟨gw18, 0, none⟩) 3 3) ([col0 tx, col1 tx, col2 tx]) :: rowA encL 1 4 (.slice (some ⟨b17, 0, none⟩) 3 3) ([true, true, true]) :: boxA b9 5 33 (.agg #[.int .i64 pp.fAt, .int .i64 pp.fBirth, .int .i64 pp.fSize, .int .i64 pp.fSum, .int .i64 pp.fLevel]) :: rowA PtrD.cells 5 33 (.slice ao21 (us.length + ([pp]).length) cp22) (us ++ ([pp])) :: boxA b2 1 25 (.agg #[.slice (some ⟨gR, 0, none⟩) 3 cR]) :: boxA b1 1 25 (.agg #[.slice none 0 0]) :: F) _) := ⟨HS.out⟩
    refine wl_storeBox rfl HF rfl rfl (HF.ev rfl) (HF.ev rfl) HS.out 8 rfl (cells_lit [.slice (some ⟨gR, 0, none⟩) 3 cR] rfl rfl) (by kernel_rfl) ?_; clear HS; intro w33 HS; replace HS := Bx.mk HS
    have HS : Bx (St w0 (rowA HD.cells 3 44 (.slice (some ⟨gR, 0, none⟩) 3 cR) rs :: sepA (rs.map HD.asr) :: rdA rb ab n cb (B + 1 + 120 * k + (2 + 2 * 20) + 1 + 1 + 1 + 1) :: rowA PtrD.cells 5 33 (.slice (some ⟨b20, 0, none⟩) 1 1) ([pp]) :: rowA encS 1 9 (.slice (some ⟨gw18, 0, none⟩) 3 3) ([col0 tx, col1 tx, col2 tx]) :: rowA encL 1 4 (.slice (some ⟨b17, 0, none⟩) 3 3) ([true, true, true]) :: boxA b9 5 33 (.agg #[.int .i64 pp.fAt, .int .i64 pp.fBirth, .int .i64 pp.fSize, .int .i64 pp.fSum, .int .i64 pp.fLevel]) :: rowA PtrD.cells 5 33 (.slice ao21 (us.length + ([pp]).length) cp22) (us ++ ([pp])) :: boxA b2 1 25 (.agg #[.slice (some ⟨gR, 0, none⟩) 3 cR]) :: boxA b1 1 25 (.agg #[.slice none 0 0]) :: F) _) := HS
    refine wpList_nil ?_
    refine ex_block ?_
    refine ex_then ?_
    refine wp_region_lit ?_
    refine wl_mv HF rfl rfl rfl rfl rfl ?_; clear HF a; intro a HF
    refine wl_y rfl HF rfl rfl (yl_subI rfl (HF.ev rfl) (HF.ev rfl) (i64w (by omega))) ?_; clear HF a; intro a HF
    refine wl_as HF rfl rfl rfl rfl rfl ?_; clear HF a; intro a HF
    refine wl_ne ?_
    replace HS : Bx (St w0 (rdA rb ab n cb (B + 1 + 120 * k + (2 + 2 * 20) + 1 + 1 + 1 + 1) :: rowA HD.cells 3 44 (.slice (some ⟨gR, 0, none⟩) 3 cR) rs :: sepA (rs.map HD.asr) :: rowA PtrD.cells 5 33 (.slice (some ⟨b20, 0, none⟩) 1 1) ([pp]) :: rowA encS 1 9 (.slice (some ⟨gw18, 0, none⟩) 3 3) ([col0 tx, col1 tx, col2 tx]) :: rowA encL 1 4 (.slice (some ⟨b17, 0, none⟩) 3 3) ([true, true, true]) :: boxA b9 5 33 (.agg #[.int .i64 pp.fAt, .int .i64 pp.fBirth, .int .i64 pp.fSize, .int .i64 pp.fSum, .int .i64 pp.fLevel]) :: rowA PtrD.cells 5 33 (.slice ao21 (us.length + ([pp]).length) cp22) (us ++ ([pp])) :: boxA b2 1 25 (.agg #[.slice (some ⟨gR, 0, none⟩) 3 cR]) :: boxA b1 1 25 (.agg #[.slice none 0 0]) :: F) _) := ⟨(HS.out).pick 2 rfl⟩
    replace HS : Bx (St w0 (rdA rb ab n cb (B + 1 + 120 * (k + 1)) :: rowA HD.cells 3 44 (.slice (some ⟨gR, 0, none⟩) 3 cR) rs :: sepA (rs.map HD.asr) :: rowA PtrD.cells 5 33 (.slice (some ⟨b20, 0, none⟩) 1 1) ([pp]) :: rowA encS 1 9 (.slice (some ⟨gw18, 0, none⟩) 3 3) ([col0 tx, col1 tx, col2 tx]) :: rowA encL 1 4 (.slice (some ⟨b17, 0, none⟩) 3 3) ([true, true, true]) :: boxA b9 5 33 (.agg #[.int .i64 pp.fAt, .int .i64 pp.fBirth, .int .i64 pp.fSize, .int .i64 pp.fSum, .int .i64 pp.fLevel]) :: rowA PtrD.cells 5 33 (.slice ao21 (us.length + ([pp]).length) cp22) (us ++ ([pp])) :: boxA b2 1 25 (.agg #[.slice (some ⟨gR, 0, none⟩) 3 cR]) :: boxA b1 1 25 (.agg #[.slice none 0 0]) :: F) _) := ⟨HS.out.rdLe (by omega)⟩
    have hz : us.length + [pp].length = (us ++ [pp]).length := (List.length_append ..).symm; rw [hz] at HS HF; have hz1 : (us ++ [pp]).length = us.length + 1 := by rw [List.length_append]; rfl
    replace HS : Bx (St w0 (rowA PtrD.cells 5 33 (.slice ao21 ((us ++ [pp]).length) cp22) (us ++ ([pp])) :: rdA rb ab n cb (B + 1 + 120 * (k + 1)) :: boxA b2 1 25 (.agg #[.slice (some ⟨gR, 0, none⟩) 3 cR]) :: rowA HD.cells 3 44 (.slice (some ⟨gR, 0, none⟩) 3 cR) rs :: sepA (rs.map HD.asr) :: boxA b1 1 25 (.agg #[.slice none 0 0]) :: rowA PtrD.cells 5 33 (.slice (some ⟨b20, 0, none⟩) 1 1) ([pp]) :: rowA encS 1 9 (.slice (some ⟨gw18, 0, none⟩) 3 3) ([col0 tx, col1 tx, col2 tx]) :: rowA encL 1 4 (.slice (some ⟨b17, 0, none⟩) 3 3) ([true, true, true]) :: boxA b9 5 33 (.agg #[.int .i64 pp.fAt, .int .i64 pp.fBirth, .int .i64 pp.fSize, .int .i64 pp.fSum, .int .i64 pp.fLevel]) :: F) _) := ⟨((((((HS.out).pick 9 rfl).pick 3 rfl).pick 3 rfl).pick 9 rfl).pick 4 rfl).pick 9 rfl⟩
    exact ⟨k + 1, ⟨rs, _, _, us ++ [pp], ⟨by omega, niceS_mono hnr (by omega), by omega, fun u hu => (List.mem_append.1 hu).elim (hus u) fun e => by rw [List.mem_singleton.1 e]; omega⟩, HF.less _ ⟨rfl, rfl, rfl, rfl, rfl, (by show some (Value.int .i64 _) = some (Value.int .i64 _); exact congrArg (fun z => some (Value.int .i64 z)) (by omega)), trivial⟩, ((((HS.out.erase 9).erase 8).erase 7).erase 6)⟩, (by omega)⟩
   ·clear HF; have HF := HF1; clear HF1
    have dcc3 := ne_of_beq_false cc3
    refine wc_false HF rfl ?_
    refine wp_skip ?_
    refine ex_block ?_
    refine ex_then ?_
    refine wp_region_lit ?_
    refine wl_mv HF rfl rfl rfl rfl rfl ?_; clear HF a; intro a HF
    refine wl_y rfl HF rfl rfl (yl_subI rfl (HF.ev rfl) (HF.ev rfl) (i64w (by omega))) ?_; clear HF a; intro a HF
    refine wl_as HF rfl rfl rfl rfl rfl ?_; clear HF a; intro a HF
    refine wl_ne ?_
    replace HS : Bx (St w0 (rdA rb ab n cb (B + 1 + 120 * k + (2 + 2 * 20) + 1 + 1 + 1 + 1) :: rowA PtrD.cells 5 33 (.slice (some ⟨b20, 0, none⟩) 1 1) ([pp]) :: rowA HD.cells 3 44 (.slice (some ⟨gR, 0, none⟩) 3 cR) ps19 :: sepA (ps19.map HD.asr) :: rowA encS 1 9 (.slice (some ⟨gw18, 0, none⟩) 3 3) ([col0 tx, col1 tx, col2 tx]) :: rowA encL 1 4 (.slice (some ⟨b17, 0, none⟩) 3 3) ([true, true, true]) :: boxA b9 5 33 (.agg #[.int .i64 pp.fAt, .int .i64 pp.fBirth, .int .i64 pp.fSize, .int .i64 pp.fSum, .int .i64 pp.fLevel]) :: rowA PtrD.cells 5 33 (.slice ao21 (us.length + ([pp]).length) cp22) (us ++ ([pp])) :: boxA b2 1 25 (.agg #[.slice (some ⟨gR, 0, none⟩) 3 cR]) :: boxA b1 1 25 (.agg #[.slice none 0 0]) :: F) _) := ⟨(HS.out).pick 0 rfl⟩
    replace HS : Bx (St w0 (rdA rb ab n cb (B + 1 + 120 * (k + 1)) :: rowA PtrD.cells 5 33 (.slice (some ⟨b20, 0, none⟩) 1 1) ([pp]) :: rowA HD.cells 3 44 (.slice (some ⟨gR, 0, none⟩) 3 cR) ps19 :: sepA (ps19.map HD.asr) :: rowA encS 1 9 (.slice (some ⟨gw18, 0, none⟩) 3 3) ([col0 tx, col1 tx, col2 tx]) :: rowA encL 1 4 (.slice (some ⟨b17, 0, none⟩) 3 3) ([true, true, true]) :: boxA b9 5 33 (.agg #[.int .i64 pp.fAt, .int .i64 pp.fBirth, .int .i64 pp.fSize, .int .i64 pp.fSum, .int .i64 pp.fLevel]) :: rowA PtrD.cells 5 33 (.slice ao21 (us.length + ([pp]).length) cp22) (us ++ ([pp])) :: boxA b2 1 25 (.agg #[.slice (some ⟨gR, 0, none⟩) 3 cR]) :: boxA b1 1 25 (.agg #[.slice none 0 0]) :: F) _) := ⟨HS.out.rdLe (by omega)⟩
    have hz : us.length + [pp].length = (us ++ [pp]).length := (List.length_append ..).symm; rw [hz] at HS HF; have hz1 : (us ++ [pp]).length = us.length + 1 := by rw [List.length_append]; rfl
    replace HS : Bx (St w0 (rowA PtrD.cells 5 33 (.slice ao21 ((us ++ [pp]).length) cp22) (us ++ ([pp])) :: rdA rb ab n cb (B + 1 + 120 * (k + 1)) :: boxA b2 1 25 (.agg #[.slice (some ⟨gR, 0, none⟩) 3 cR]) :: rowA HD.cells 3 44 (.slice (some ⟨gR, 0, none⟩) 3 cR) ps19 :: sepA (ps19.map HD.asr) :: boxA b1 1 25 (.agg #[.slice none 0 0]) :: rowA PtrD.cells 5 33 (.slice (some ⟨b20, 0, none⟩) 1 1) ([pp]) :: rowA encS 1 9 (.slice (some ⟨gw18, 0, none⟩) 3 3) ([col0 tx, col1 tx, col2 tx]) :: rowA encL 1 4 (.slice (some ⟨b17, 0, none⟩) 3 3) ([true, true, true]) :: boxA b9 5 33 (.agg #[.int .i64 pp.fAt, .int .i64 pp.fBirth, .int .i64 pp.fSize, .int .i64 pp.fSum, .int .i64 pp.fLevel]) :: F) _) := ⟨((((((HS.out).pick 9 rfl).pick 4 rfl).pick 4 rfl).pick 9 rfl).pick 4 rfl).pick 9 rfl⟩
    exact ⟨k + 1, ⟨ps19, _, _, us ++ [pp], ⟨by omega, hny, by omega, fun u hu => (List.mem_append.1 hu).elim (hus u) fun e => by rw [List.mem_singleton.1 e]; omega⟩, HF.less _ ⟨rfl, rfl, rfl, rfl, rfl, (by show some (Value.int .i64 _) = some (Value.int .i64 _); exact congrArg (fun z => some (Value.int .i64 z)) (by omega)), trivial⟩, ((((HS.out.erase 9).erase 8).erase 7).erase 6)⟩, (by omega)⟩
 ·clear HF; have HF := HF1; clear HF1
  have dcc1 := of_decide_eq_false cc1
  refine wc_false HF rfl ?_
  refine wp_exit ?_
  refine ex_then_exit ?_
  refine ex_then_exit ?_
  refine ex_block_hit ?_
  refine ex_then ?_
  refine wp_seq ?_
  refine wp_sr ?_
  refine wl_mv HF rfl rfl rfl rfl rfl ?_; clear HF a; intro a HF
  replace HS : Bx (St w0 (rdA rb ab n cb (B + 1 + 120 * k) :: rowA PtrD.cells 5 33 (.slice ap us.length cu) us :: boxA b2 1 25 (.agg #[.slice (some ⟨gR, 0, none⟩) 3 cR]) :: rowA HD.cells 3 44 (.slice (some ⟨gR, 0, none⟩) 3 cR) qs :: sepA (qs.map HD.asr) :: boxA b1 1 25 (.agg #[.slice none 0 0]) :: F) _) := ⟨(HS.out).pick 1 rfl⟩
  refine wl_call rfl HF rfl (enter_of Try.func110 (by kernel_rfl) rfl) (args := #[.pointer (some ⟨rb, 0, none⟩), .int .i64 4]) rfl (pickN w0 _ rb ab n cb bs hn hR (B + 1 + 120 * k) (by omega) 4 (by omega) _ HS.out) rfl rfl ?_
  rintro _ w34 ⟨dn24, rfl, hu24, hs1⟩
  refine ⟨_, rfl, ?_⟩; replace HS := Bx.mk hs1; clear hs1 HF; clear a; intro a HF
  replace HS : Bx (St w0 (rdA rb ab n cb (B + 1 + 120 * k + 1) :: rowA PtrD.cells 5 33 (.slice ap us.length cu) us :: boxA b2 1 25 (.agg #[.slice (some ⟨gR, 0, none⟩) 3 cR]) :: rowA HD.cells 3 44 (.slice (some ⟨gR, 0, none⟩) 3 cR) qs :: sepA (qs.map HD.asr) :: boxA b1 1 25 (.agg #[.slice none 0 0]) :: F) _) := ⟨HS.out⟩
  refine wl_ne ?_
  refine wp_join (R := fun a w => ∃ (zs : List HD) (ap2 : Option Addr), fitsL zs ∧ zs.length = 3 ∧ Fr 116 a [(0, .pointer (some ⟨rb, 0, none⟩)), (2, .pointer (some ⟨b1, 0, none⟩)), (3, .slice none 0 0), (4, .pointer (some ⟨b2, 0, none⟩)), (5, .slice ap2 us.length cu)] ∧ St w0 (rdA rb ab n cb (B + 900) :: rowA HD.cells 3 44 (.slice (some ⟨gR, 0, none⟩) 3 cR) zs :: holdsA (allP zs) :: rowA PtrD.cells 5 33 (.slice ap2 us.length cu) us :: boxA b2 1 25 (.agg #[.slice (some ⟨gR, 0, none⟩) 3 cR]) :: boxA b1 1 25 (.agg #[.slice none 0 0]) :: F) w) ?_ ?_
  ·skip
   refine wp_block ?_
   refine wp_sr ?_
   refine wl_y rfl HF rfl rfl (yl_eqlI rfl (HF.ev rfl) (HF.ev rfl)) ?_; clear HF a; intro a HF
   refine wl_as HF rfl rfl rfl rfl rfl ?_; clear HF a; intro a HF
   refine wl_ne ?_
   refine HF.cases 59 rfl (fun cc4 HF1 => ?_) (fun cc4 HF1 => ?_)
   ·clear HF; have HF := HF1; clear HF1
    have dcc4 := eq_of_beq cc4
    refine wc_true HF rfl ?_
    refine wp_sr ?_
    refine wl_mv HF rfl rfl rfl rfl rfl ?_; clear HF a; intro a HF
    replace HS : Bx (St w0 (rdA rb ab n cb (B + 1 + 120 * k + 1) :: rowA PtrD.cells 5 33 (.slice ap us.length cu) us :: boxA b2 1 25 (.agg #[.slice (some ⟨gR, 0, none⟩) 3 cR]) :: rowA HD.cells 3 44 (.slice (some ⟨gR, 0, none⟩) 3 cR) qs :: sepA (qs.map HD.asr) :: boxA b1 1 25 (.agg #[.slice none 0 0]) :: F) _) := ⟨(HS.out).pick 0 rfl⟩
    refine wl_call rfl HF rfl (enter_of Try.func110 (by kernel_rfl) rfl) (args := #[.pointer (some ⟨rb, 0, none⟩), .int .i64 3]) rfl (pickN w0 _ rb ab n cb bs hn hR (B + 1 + 120 * k + 1) (by omega) 3 (by omega) _ HS.out) rfl rfl ?_
    rintro _ w35 ⟨dn25, rfl, hu25, hs1⟩
    refine ⟨_, rfl, ?_⟩; replace HS := Bx.mk hs1; clear hs1 HF; clear a; intro a HF
    replace HS : Bx (St w0 (rdA rb ab n cb (B + 1 + 120 * k + 1 + 1) :: rowA PtrD.cells 5 33 (.slice ap us.length cu) us :: boxA b2 1 25 (.agg #[.slice (some ⟨gR, 0, none⟩) 3 cR]) :: rowA HD.cells 3 44 (.slice (some ⟨gR, 0, none⟩) 3 cR) qs :: sepA (qs.map HD.asr) :: boxA b1 1 25 (.agg #[.slice none 0 0]) :: F) _) := ⟨HS.out⟩
    refine wl_as HF rfl rfl rfl rfl rfl ?_; clear HF a; intro a HF
    refine wl_ne ?_
    refine wr_marked (W := w0) (s := rdA rb ab n cb (B + 1 + 120 * k + 1 + 1) :: rowA PtrD.cells 5 33 (.slice ap us.length cu) us :: boxA b2 1 25 (.agg #[.slice (some ⟨gR, 0, none⟩) 3 cR]) :: rowA HD.cells 3 44 (.slice (some ⟨gR, 0, none⟩) 3 cR) qs :: sepA (qs.map HD.asr) :: boxA b1 1 25 (.agg #[.slice none 0 0]) :: F) 5 (by kernel_rfl) ?_
    have HS2 := Bx.mk HS.out.drew; replace HS := Bx.mk (show St w0 (rdA rb ab n cb (B + 1 + 120 * k + 1 + 1) :: rowA PtrD.cells 5 33 (.slice ap us.length cu) us :: boxA b2 1 25 (.agg #[.slice (some ⟨gR, 0, none⟩) 3 cR]) :: rowA HD.cells 3 44 (.slice (some ⟨gR, 0, none⟩) 3 cR) qs :: sepA (qs.map HD.asr) :: boxA b1 1 25 (.agg #[.slice none 0 0]) :: F) _ from HS.out.drew); generalize World.drew _ = w36 at HS HS2 ⊢
    refine wm_t 0 rfl (by kernel_rfl) (by kernel_rfl) (by kernel_rfl) (fun _ _ _ h => h) (by decide) rfl HF rfl rfl (fun _ _ => (yl_fieldAddr (j := 0) rfl (HF.ev rfl) (by kernel_rfl))) (fun _ => HS.out) ?_; clear HF a; intro a HF
    refine wm_y 1 rfl (by kernel_rfl) (by kernel_rfl) (by kernel_rfl) (fun _ _ _ h => h) (by decide) (by kernel_rfl) (by kernel_rfl) rfl HF rfl rfl (fun _ HS => (yl_load (v := .slice (some ⟨gR, 0, none⟩) 3 cR) rfl (HF.ev rfl) (((HS.box 2 rfl).cell 0).trans rfl) (by kernel_rfl))) HS.out ?_; clear HF a; intro a HF
    refine wm_t 2 rfl (by kernel_rfl) (by kernel_rfl) (by kernel_rfl) (fun _ _ _ h => h) (by decide) rfl HF rfl rfl (fun _ _ => (yl_move rfl (HF.ev rfl))) (fun _ => HS.out) ?_; clear HF a; intro a HF
    refine wm_one 3 (by kernel_rfl) ?_
    refine wo_call rfl rfl HF rfl (enter_of Try.func114 (by kernel_rfl) rfl) (args := #[]) rfl (specLose_any _) rfl rfl ?_
    rintro _ w37 ⟨⟨qa26, qc26, qb26, qe26, qd⟩, hqd, rfl, hs⟩; obtain rfl : qd = lostD := hqd; refine ⟨_, rfl, ?_⟩
    replace HS := Bx.mk (HS.out.later hs.bel)
    replace HS2 := Bx.mk ((HS2.out.add hs)); clear hs HF; clear a; intro a HF
    replace HS2 : Bx (St w0 (HD.asr ⟨qa26, qc26, qb26, qe26, lostD⟩ :: rdA rb ab n cb (B + 1 + 120 * k + 1 + 1) :: rowA PtrD.cells 5 33 (.slice ap us.length cu) us :: boxA b2 1 25 (.agg #[.slice (some ⟨gR, 0, none⟩) 3 cR]) :: rowA HD.cells 3 44 (.slice (some ⟨gR, 0, none⟩) 3 cR) qs :: sepA (qs.map HD.asr) :: boxA b1 1 25 (.agg #[.slice none 0 0]) :: F) _) := ⟨HS2.out⟩
    refine ⟨fun _ => HS.out, ?_⟩
    refine wm_y 4 rfl (by kernel_rfl) (by kernel_rfl) (by kernel_rfl) (fun _ _ _ h => h) (by decide) (by kernel_rfl) (by kernel_rfl) rfl HF rfl rfl (fun _ HS => (yl_indexAddr (e := 44) (i := dn25) (size := 3) rfl (HF.ev rfl) (HF.ev rfl) (by kernel_rfl) rfl (by omega))) HS.out ?_; clear HF a; intro a HF
    refine wm_one 5 (by kernel_rfl) ?_
    refine wo_storeEn HD.cells_len rfl rfl rfl rfl (HF.ev rfl) (HF.ev rfl) (by kernel_rfl) HS2.out 4 rfl (by omega) (z := (⟨qa26, qc26, qb26, qe26, lostD⟩ : HD)) rfl (by first | rfl | simp [Value.oneCell']) ?_
    clear HS2; intro w38 HS2; replace HS2 : Bx (St w0 (HD.asr ⟨qa26, qc26, qb26, qe26, lostD⟩ :: rdA rb ab n cb (B + 1 + 120 * k + 1 + 1) :: rowA PtrD.cells 5 33 (.slice ap us.length cu) us :: boxA b2 1 25 (.agg #[.slice (some ⟨gR, 0, none⟩) 3 cR]) :: rowA HD.cells 3 44 (.slice (some ⟨gR, 0, none⟩) 3 cR) (qs.set dn25 (⟨qa26, qc26, qb26, qe26, lostD⟩ : HD)) :: sepA (qs.map HD.asr) :: boxA b1 1 25 (.agg #[.slice none 0 0]) :: F) _) := ⟨HS2⟩; refine ⟨(fun h => absurd (show true = false from h) (by decide)), ?_⟩
    refine wm_done (by kernel_rfl) ?_
    clear HS; have HS := HS2; clear HS2
    refine ex_block ?_
    replace HS : Bx (St w0 (rowA HD.cells 3 44 (.slice (some ⟨gR, 0, none⟩) 3 cR) (qs.set dn25 (⟨qa26, qc26, qb26, qe26, lostD⟩ : HD)) :: sepA (qs.map HD.asr) :: HD.asr ⟨qa26, qc26, qb26, qe26, lostD⟩ :: rdA rb ab n cb (B + 1 + 120 * k + 1 + 1) :: rowA PtrD.cells 5 33 (.slice ap us.length cu) us :: boxA b2 1 25 (.agg #[.slice (some ⟨gR, 0, none⟩) 3 cR]) :: boxA b1 1 25 (.agg #[.slice none 0 0]) :: F) _) := ⟨(((HS.out).pick 0 rfl).pick 5 rfl).pick 5 rfl⟩
    replace HS := Bx.mk (St.swap (((St.join (r := [_, _])).1 ((HS.out.pick 1 rfl).pick 2 rfl)).hold (P := allP (qs.set dn25 (⟨qa26, qc26, qb26, qe26, lostD⟩ : HD))) (sep2 (fun w f h => HD.asr_reads1 h) (fun w f h => hds_allP h) (fun w h1 h2 => allP_set h2 h1))))
    have hfl : fitsL (qs.set dn25 (⟨qa26, qc26, qb26, qe26, lostD⟩ : HD)) := (niceS.fitsL hni (by omega)).set lost_fits _
    have hxl : (qs.set dn25 (⟨qa26, qc26, qb26, qe26, lostD⟩ : HD)).length = 3 := by rw [List.length_set]; exact hni.len
    replace HS : Bx (St w0 (rowA HD.cells 3 44 (.slice (some ⟨gR, 0, none⟩) 3 cR) (qs.set dn25 (⟨qa26, qc26, qb26, qe26, lostD⟩ : HD)) :: holdsA (allP (qs.set dn25 (⟨qa26, qc26, qb26, qe26, lostD⟩ : HD))) :: rdA rb ab n cb (B + 1 + 120 * k + 1 + 1) :: rowA PtrD.cells 5 33 (.slice ap us.length cu) us :: boxA b2 1 25 (.agg #[.slice (some ⟨gR, 0, none⟩) 3 cR]) :: boxA b1 1 25 (.agg #[.slice none 0 0]) :: F) _) := ⟨HS.out⟩
    replace HS : Bx (St w0 (rdA rb ab n cb (B + 1 + 120 * k + 1 + 1) :: rowA HD.cells 3 44 (.slice (some ⟨gR, 0, none⟩) 3 cR) (qs.set dn25 (⟨qa26, qc26, qb26, qe26, lostD⟩ : HD)) :: holdsA (allP (qs.set dn25 (⟨qa26, qc26, qb26, qe26, lostD⟩ : HD))) :: rowA PtrD.cells 5 33 (.slice ap us.length cu) us :: boxA b2 1 25 (.agg #[.slice (some ⟨gR, 0, none⟩) 3 cR]) :: boxA b1 1 25 (.agg #[.slice none 0 0]) :: F) _) := ⟨(HS.out).pick 2 rfl⟩
    replace HS : Bx (St w0 (rdA rb ab n cb (B + 900) :: rowA HD.cells 3 44 (.slice (some ⟨gR, 0, none⟩) 3 cR) (qs.set dn25 (⟨qa26, qc26, qb26, qe26, lostD⟩ : HD)) :: holdsA (allP (qs.set dn25 (⟨qa26, qc26, qb26, qe26, lostD⟩ : HD))) :: rowA PtrD.cells 5 33 (.slice ap us.length cu) us :: boxA b2 1 25 (.agg #[.slice (some ⟨gR, 0, none⟩) 3 cR]) :: boxA b1 1 25 (.agg #[.slice none 0 0]) :: F) _) := ⟨HS.out.rdLe (by omega)⟩
    replace HS : Bx (St w0 (rdA rb ab n cb (B + 900) :: rowA HD.cells 3 44 (.slice (some ⟨gR, 0, none⟩) 3 cR) (qs.set dn25 (⟨qa26, qc26, qb26, qe26, lostD⟩ : HD)) :: holdsA (allP (qs.set dn25 (⟨qa26, qc26, qb26, qe26, lostD⟩ : HD))) :: rowA PtrD.cells 5 33 (.slice ap us.length cu) us :: boxA b2 1 25 (.agg #[.slice (some ⟨gR, 0, none⟩) 3 cR]) :: boxA b1 1 25 (.agg #[.slice none 0 0]) :: F) _) := ⟨((((((HS.out).pick 5 rfl).pick 5 rfl).pick 5 rfl).pick 5 rfl).pick 5 rfl).pick 5 rfl⟩
    replace HS := Bx.mk (HS.out)
    exact on_mk ⟨qs.set dn25 (⟨qa26, qc26, qb26, qe26, lostD⟩ : HD), _, hfl, hxl, HF.less _ ⟨rfl, rfl, rfl, rfl, rfl, trivial⟩, HS.out⟩
   ·clear HF; have HF := HF1; clear HF1
    have dcc4 := ne_of_beq_false cc4
    refine wc_false HF rfl ?_
    refine wp_sr ?_
    refine wl_y rfl HF rfl rfl (yl_eqlI rfl (HF.ev rfl) (HF.ev rfl)) ?_; clear HF a; intro a HF
    refine wl_as HF rfl rfl rfl rfl rfl ?_; clear HF a; intro a HF
    refine wl_ne ?_
    refine HF.cases 68 rfl (fun cc5 HF1 => ?_) (fun cc5 HF1 => ?_)
    ·clear HF; have HF := HF1; clear HF1
     have dcc5 := eq_of_beq cc5
     refine wc_true HF rfl ?_
     refine wp_sr ?_
     refine wl_mv HF rfl rfl rfl rfl rfl ?_; clear HF a; intro a HF
     replace HS : Bx (St w0 (rdA rb ab n cb (B + 1 + 120 * k + 1) :: rowA PtrD.cells 5 33 (.slice ap us.length cu) us :: boxA b2 1 25 (.agg #[.slice (some ⟨gR, 0, none⟩) 3 cR]) :: rowA HD.cells 3 44 (.slice (some ⟨gR, 0, none⟩) 3 cR) qs :: sepA (qs.map HD.asr) :: boxA b1 1 25 (.agg #[.slice none 0 0]) :: F) _) := ⟨(HS.out).pick 0 rfl⟩
     refine wl_call rfl HF rfl (enter_of Try.func110 (by kernel_rfl) rfl) (args := #[.pointer (some ⟨rb, 0, none⟩), .int .i64 3]) rfl (pickN w0 _ rb ab n cb bs hn hR (B + 1 + 120 * k + 1) (by omega) 3 (by omega) _ HS.out) rfl rfl ?_
     rintro _ w39 ⟨dn27, rfl, hu27, hs1⟩
     refine ⟨_, rfl, ?_⟩; replace HS := Bx.mk hs1; clear hs1 HF; clear a; intro a HF
     replace HS : Bx (St w0 (rdA rb ab n cb (B + 1 + 120 * k + 1 + 1) :: rowA PtrD.cells 5 33 (.slice ap us.length cu) us :: boxA b2 1 25 (.agg #[.slice (some ⟨gR, 0, none⟩) 3 cR]) :: rowA HD.cells 3 44 (.slice (some ⟨gR, 0, none⟩) 3 cR) qs :: sepA (qs.map HD.asr) :: boxA b1 1 25 (.agg #[.slice none 0 0]) :: F) _) := ⟨HS.out⟩
     refine wl_as HF rfl rfl rfl rfl rfl ?_; clear HF a; intro a HF
     refine wl_ne ?_
     refine wp_seq ?_
     refine wr_marked (W := w0) (s := rdA rb ab n cb (B + 1 + 120 * k + 1 + 1) :: rowA PtrD.cells 5 33 (.slice ap us.length cu) us :: boxA b2 1 25 (.agg #[.slice (some ⟨gR, 0, none⟩) 3 cR]) :: rowA HD.cells 3 44 (.slice (some ⟨gR, 0, none⟩) 3 cR) qs :: boxA b1 1 25 (.agg #[.slice none 0 0]) :: F) 10 (by kernel_rfl) ?_
     have HS2 := Bx.mk HS.out.drew; replace HS := Bx.mk (show St w0 (rdA rb ab n cb (B + 1 + 120 * k + 1 + 1) :: rowA PtrD.cells 5 33 (.slice ap us.length cu) us :: boxA b2 1 25 (.agg #[.slice (some ⟨gR, 0, none⟩) 3 cR]) :: rowA HD.cells 3 44 (.slice (some ⟨gR, 0, none⟩) 3 cR) qs :: boxA b1 1 25 (.agg #[.slice none 0 0]) :: F) _ from (HS.out.drew.erase 4)); generalize World.drew _ = w40 at HS HS2 ⊢
     refine wm_t 0 rfl (by kernel_rfl) (by kernel_rfl) (by kernel_rfl) (fun _ _ _ h => h) (by decide) rfl HF rfl rfl (fun _ _ => (yl_fieldAddr (j := 0) rfl (HF.ev rfl) (by kernel_rfl))) (fun _ => HS.out) ?_; clear HF a; intro a HF
     refine wm_y 1 rfl (by kernel_rfl) (by kernel_rfl) (by kernel_rfl) (fun _ _ _ h => h) (by decide) (by kernel_rfl) (by kernel_rfl) rfl HF rfl rfl (fun _ HS => (yl_load (v := .slice (some ⟨gR, 0, none⟩) 3 cR) rfl (HF.ev rfl) (((HS.box 2 rfl).cell 0).trans rfl) (by kernel_rfl))) HS.out ?_; clear HF a; intro a HF
     refine wm_t 2 rfl (by kernel_rfl) (by kernel_rfl) (by kernel_rfl) (fun _ _ _ h => h) (by decide) rfl HF rfl rfl (fun _ _ => (yl_move rfl (HF.ev rfl))) (fun _ => HS.out) ?_; clear HF a; intro a HF
     refine wm_t 3 rfl (by kernel_rfl) (by kernel_rfl) (by kernel_rfl) (fun _ _ _ h => h) (by decide) rfl HF rfl rfl (fun _ _ => (yl_fieldAddr (j := 0) rfl (HF.ev rfl) (by kernel_rfl))) (fun _ => HS.out) ?_; clear HF a; intro a HF
     refine wm_y 4 rfl (by kernel_rfl) (by kernel_rfl) (by kernel_rfl) (fun _ _ _ h => h) (by decide) (by kernel_rfl) (by kernel_rfl) rfl HF rfl rfl (fun _ HS => (yl_load (v := .slice (some ⟨gR, 0, none⟩) 3 cR) rfl (HF.ev rfl) (((HS.box 2 rfl).cell 0).trans rfl) (by kernel_rfl))) HS.out ?_; clear HF a; intro a HF
     refine wm_t 5 rfl (by kernel_rfl) (by kernel_rfl) (by kernel_rfl) (fun _ _ _ h => h) (by decide) rfl HF rfl rfl (fun _ _ => (yl_move rfl (HF.ev rfl))) (fun _ => HS.out) ?_; clear HF a; intro a HF
     refine wm_y 6 rfl (by kernel_rfl) (by kernel_rfl) (by kernel_rfl) (fun _ _ _ h => h) (by decide) (by kernel_rfl) (by kernel_rfl) rfl HF rfl rfl (fun _ HS => (yl_indexAddr (e := 44) (i := dn27) (size := 3) rfl (HF.ev rfl) (HF.ev rfl) (by kernel_rfl) rfl (by omega))) HS.out ?_; clear HF a; intro a HF
     refine wm_y 7 rfl (by kernel_rfl) (by kernel_rfl) (by kernel_rfl) (fun _ _ _ h => h) (by decide) (by kernel_rfl) (by kernel_rfl) rfl HF rfl rfl (fun _ HS => (yl_loadR (cs := [.slice ((qs.getD dn27 default).a0) ((qs.getD dn27 default).d.fCells.length) ((qs.getD dn27 default).c0), .slice ((qs.getD dn27 default).a1) ((qs.getD dn27 default).d.fWaits.length) ((qs.getD dn27 default).c1), .bool ((qs.getD dn27 default).d.fGone)]) rfl (HF.ev rfl) (HS.elem HD.cells_len 3 rfl (get_getD (xs := qs) (j := dn27) (d := default) (by omega))) (by kernel_rfl))) HS.out ?_; clear HF a; intro a HF
     refine wm_one 8 (by kernel_rfl) ?_
     replace HS2 := Bx.mk ((HS2.out.pick 4 rfl).hdOut dn27 (by omega))
     replace HS2 : Bx (St w0 (HD.asr (qs.getD dn27 default) :: sepA ((qs.eraseIdx dn27).map HD.asr) :: rdA rb ab n cb (B + 1 + 120 * k + 1 + 1) :: rowA PtrD.cells 5 33 (.slice ap us.length cu) us :: boxA b2 1 25 (.agg #[.slice (some ⟨gR, 0, none⟩) 3 cR]) :: rowA HD.cells 3 44 (.slice (some ⟨gR, 0, none⟩) 3 cR) qs :: boxA b1 1 25 (.agg #[.slice none 0 0]) :: F) _) := ⟨HS2.out⟩
     have hnk := hni.get (k := dn27) (by omega)
     refine wo_call rfl rfl HF rfl (enter_of Try.func115 (by kernel_rfl) rfl) (args := #[.agg #[.slice ((qs.getD dn27 default).a0) ((qs.getD dn27 default).d.fCells.length) ((qs.getD dn27 default).c0), .slice ((qs.getD dn27 default).a1) ((qs.getD dn27 default).d.fWaits.length) ((qs.getD dn27 default).c1), .bool ((qs.getD dn27 default).d.fGone)]]) rfl (l3FlushH_any w0 _ (qs.getD dn27 default) _ (by rw [hnk.c]; omega) (by have := hnk.w; omega) (by rw [hnk.c]; exact hnk.a) HS2.out) rfl rfl ?_
     rintro _ w41 ⟨⟨qa, qc, qb, qe, qd⟩, hqd, rfl, hs1⟩
     have hnq : qd.nice 0 := by have h := nice_flush hnk; rw [← hqd] at h; exact h
     refine ⟨_, rfl, ?_⟩; replace HS2 := Bx.mk hs1; clear hs1 HF; clear a; intro a HF
     replace HS2 : Bx (St w0 (HD.asr ⟨qa, qc, qb, qe, qd⟩ :: sepA ((qs.eraseIdx dn27).map HD.asr) :: rdA rb ab n cb (B + 1 + 120 * k + 1 + 1) :: rowA PtrD.cells 5 33 (.slice ap us.length cu) us :: boxA b2 1 25 (.agg #[.slice (some ⟨gR, 0, none⟩) 3 cR]) :: rowA HD.cells 3 44 (.slice (some ⟨gR, 0, none⟩) 3 cR) qs :: boxA b1 1 25 (.agg #[.slice none 0 0]) :: F) _) := ⟨HS2.out⟩
     clear HS; have HS : Bx (St w0 (rdA rb ab n cb (B + 1 + 120 * k + 1 + 1) :: rowA PtrD.cells 5 33 (.slice ap us.length cu) us :: boxA b2 1 25 (.agg #[.slice (some ⟨gR, 0, none⟩) 3 cR]) :: rowA HD.cells 3 44 (.slice (some ⟨gR, 0, none⟩) 3 cR) qs :: boxA b1 1 25 (.agg #[.slice none 0 0]) :: F) _) := ⟨((HS2.out.erase 1).erase 0)⟩
     refine ⟨fun _ => HS.out, ?_⟩
     refine wm_y 9 rfl (by kernel_rfl) (by kernel_rfl) (by kernel_rfl) (fun _ _ _ h => h) (by decide) (by kernel_rfl) (by kernel_rfl) rfl HF rfl rfl (fun _ HS => (yl_indexAddr (e := 44) (i := dn27) (size := 3) rfl (HF.ev rfl) (HF.ev rfl) (by kernel_rfl) rfl (by omega))) HS.out ?_; clear HF a; intro a HF
     refine wm_one 10 (by kernel_rfl) ?_
     refine wo_storeEn HD.cells_len rfl rfl rfl rfl (HF.ev rfl) (HF.ev rfl) (by kernel_rfl) HS2.out 5 rfl (by omega) (z := (⟨qa, qc, qb, qe, qd⟩ : HD)) rfl (by first | rfl | simp [Value.oneCell']) ?_
     clear HS2; intro w42 HS2; replace HS2 : Bx (St w0 (HD.asr ⟨qa, qc, qb, qe, qd⟩ :: sepA ((qs.eraseIdx dn27).map HD.asr) :: rdA rb ab n cb (B + 1 + 120 * k + 1 + 1) :: rowA PtrD.cells 5 33 (.slice ap us.length cu) us :: boxA b2 1 25 (.agg #[.slice (some ⟨gR, 0, none⟩) 3 cR]) :: rowA HD.cells 3 44 (.slice (some ⟨gR, 0, none⟩) 3 cR) (qs.set dn27 (⟨qa, qc, qb, qe, qd⟩ : HD)) :: boxA b1 1 25 (.agg #[.slice none 0 0]) :: F) _) := ⟨HS2⟩; refine ⟨(fun h => absurd (show true = false from h) (by decide)), ?_⟩
     refine wm_done (by kernel_rfl) ?_
     clear HS; have HS := HS2; clear HS2
     refine ex_then ?_
     replace HS : Bx (St w0 (HD.asr ⟨qa, qc, qb, qe, qd⟩ :: sepA ((qs.eraseIdx dn27).map HD.asr) :: rdA rb ab n cb (B + 1 + 120 * k + 1 + 1) :: rowA PtrD.cells 5 33 (.slice ap us.length cu) us :: boxA b2 1 25 (.agg #[.slice (some ⟨gR, 0, none⟩) 3 cR]) :: rowA HD.cells 3 44 (.slice (some ⟨gR, 0, none⟩) 3 cR) (qs.set dn27 (⟨qa, qc, qb, qe, qd⟩ : HD)) :: boxA b1 1 25 (.agg #[.slice none 0 0]) :: F) _) := ⟨(HS.out).pick 0 rfl⟩
     replace HS := Bx.mk ((St.join (r := [_, _])).2 HS.out)
     replace HS : Bx (St w0 (rowA encS 1 9 (.slice qa qd.fCells.length qc) qd.fCells :: rowA WaitD.cells 2 144 (.slice qb qd.fWaits.length qe) qd.fWaits :: sepA ((qs.eraseIdx dn27).map HD.asr) :: rdA rb ab n cb (B + 1 + 120 * k + 1 + 1) :: rowA PtrD.cells 5 33 (.slice ap us.length cu) us :: boxA b2 1 25 (.agg #[.slice (some ⟨gR, 0, none⟩) 3 cR]) :: rowA HD.cells 3 44 (.slice (some ⟨gR, 0, none⟩) 3 cR) (qs.set dn27 (⟨qa, qc, qb, qe, qd⟩ : HD)) :: boxA b1 1 25 (.agg #[.slice none 0 0]) :: F) _) := ⟨HS.out⟩
     have hqc := hnq.c
     obtain ⟨g28, rfl, _, _, _, _⟩ := HS.out.rowOpen 0 rfl (by omega)
     obtain ⟨g29, rfl, _, _, _, _⟩ := HS.out.rowOpen 4 rfl (by omega)
     have hu0 := hus (us.getD 0 PtrD.zero) (by rw [show us.getD 0 PtrD.zero = us[0]'(by omega) by simp [List.getD, show 0 < us.length by omega]]; exact List.getElem_mem _)
     obtain ⟨mAt, hmAt⟩ : ∃ m : Nat, (us.getD 0 PtrD.zero).fAt = (m : Int) := ⟨((us.getD 0 PtrD.zero).fAt).toNat, by omega⟩; rw [hmAt] at hu0
     refine wr_marked (W := w0) (s := rowA encS 1 9 (.slice (some ⟨g28, 0, none⟩) qd.fCells.length qc) qd.fCells :: rowA WaitD.cells 2 144 (.slice qb qd.fWaits.length qe) qd.fWaits :: sepA ((qs.eraseIdx dn27).map HD.asr) :: rowA PtrD.cells 5 33 (.slice (some ⟨g29, 0, none⟩) us.length cu) us :: boxA b2 1 25 (.agg #[.slice (some ⟨gR, 0, none⟩) 3 cR]) :: rowA HD.cells 3 44 (.slice (some ⟨gR, 0, none⟩) 3 cR) (qs.set dn27 (⟨some ⟨g28, 0, none⟩, qc, qb, qe, qd⟩ : HD)) :: boxA b1 1 25 (.agg #[.slice none 0 0]) :: F) 13 (by kernel_rfl) ?_
     have HS2 := Bx.mk HS.out.drew; replace HS := Bx.mk (show St w0 (rowA encS 1 9 (.slice (some ⟨g28, 0, none⟩) qd.fCells.length qc) qd.fCells :: rowA WaitD.cells 2 144 (.slice qb qd.fWaits.length qe) qd.fWaits :: sepA ((qs.eraseIdx dn27).map HD.asr) :: rowA PtrD.cells 5 33 (.slice (some ⟨g29, 0, none⟩) us.length cu) us :: boxA b2 1 25 (.agg #[.slice (some ⟨gR, 0, none⟩) 3 cR]) :: rowA HD.cells 3 44 (.slice (some ⟨gR, 0, none⟩) 3 cR) (qs.set dn27 (⟨some ⟨g28, 0, none⟩, qc, qb, qe, qd⟩ : HD)) :: boxA b1 1 25 (.agg #[.slice none 0 0]) :: F) _ from (HS.out.drew.erase 3)); generalize World.drew _ = w43 at HS HS2 ⊢
     refine wm_t 0 rfl (by kernel_rfl) (by kernel_rfl) (by kernel_rfl) (fun _ _ _ h => h) (by decide) rfl HF rfl rfl (fun _ _ => (yl_fieldAddr (j := 0) rfl (HF.ev rfl) (by kernel_rfl))) (fun _ => HS.out) ?_; clear HF a; intro a HF
     refine wm_y 1 rfl (by kernel_rfl) (by kernel_rfl) (by kernel_rfl) (fun _ _ _ h => h) (by decide) (by kernel_rfl) (by kernel_rfl) rfl HF rfl rfl (fun _ HS => (yl_load (v := .slice (some ⟨gR, 0, none⟩) 3 cR) rfl (HF.ev rfl) (((HS.box 4 rfl).cell 0).trans rfl) (by kernel_rfl))) HS.out ?_; clear HF a; intro a HF
     refine wm_t 2 rfl (by kernel_rfl) (by kernel_rfl) (by kernel_rfl) (fun _ _ _ h => h) (by decide) rfl HF rfl rfl (fun _ _ => (yl_move rfl (HF.ev rfl))) (fun _ => HS.out) ?_; clear HF a; intro a HF
     refine wm_y 3 rfl (by kernel_rfl) (by kernel_rfl) (by kernel_rfl) (fun _ _ _ h => h) (by decide) (by kernel_rfl) (by kernel_rfl) rfl HF rfl rfl (fun _ HS => (yl_indexAddr (e := 44) (i := dn27) (size := 3) rfl (HF.ev rfl) (HF.ev rfl) (by kernel_rfl) rfl (by omega))) HS.out ?_; clear HF a; intro a HF
     refine wm_t 4 rfl (by kernel_rfl) (by kernel_rfl) (by kernel_rfl) (fun _ _ _ h => h) (by decide) rfl HF rfl rfl (fun _ _ => (yl_fieldAddr (j := 0) rfl (HF.ev rfl) (by kernel_rfl))) (fun _ => HS.out) ?_; clear HF a; intro a HF
     refine wm_y 5 rfl (by kernel_rfl) (by kernel_rfl) (by kernel_rfl) (fun _ _ _ h => h) (by decide) (by kernel_rfl) (by kernel_rfl) rfl HF rfl rfl (fun _ HS => (yl_load (v := .slice (some ⟨g28, 0, none⟩) qd.fCells.length qc) rfl (HF.ev rfl) (HS.elem HD.cells_len 5 rfl (by rw [List.getElem?_set_self (by omega)]) 0 _ rfl) (by kernel_rfl))) HS.out ?_; clear HF a; intro a HF
     refine wm_t 6 rfl (by kernel_rfl) (by kernel_rfl) (by kernel_rfl) (fun _ _ _ h => h) (by decide) rfl HF rfl rfl (fun _ _ => (yl_move rfl (HF.ev rfl))) (fun _ => HS.out) ?_; clear HF a; intro a HF
     refine wm_y 7 rfl (by kernel_rfl) (by kernel_rfl) (by kernel_rfl) (fun _ _ _ h => h) (by decide) (by kernel_rfl) (by kernel_rfl) rfl HF rfl rfl (fun _ HS => (yl_indexAddr (e := 33) (i := 0) (size := 5) rfl (HF.ev rfl) (HF.ev rfl) (by kernel_rfl) rfl (by omega))) HS.out ?_; clear HF a; intro a HF
     refine wm_t 8 rfl (by kernel_rfl) (by kernel_rfl) (by kernel_rfl) (fun _ _ _ h => h) (by decide) rfl HF rfl rfl (fun _ _ => (yl_fieldAddr (j := 0) rfl (HF.ev rfl) (by kernel_rfl))) (fun _ => HS.out) ?_; clear HF a; intro a HF
     refine wm_y 9 rfl (by kernel_rfl) (by kernel_rfl) (by kernel_rfl) (fun _ _ _ h => h) (by decide) (by kernel_rfl) (by kernel_rfl) rfl HF rfl rfl (fun _ HS => (yl_load (v := .int .i64 ((us.getD 0 PtrD.zero).fAt)) rfl (HF.ev rfl) (HS.elem PtrD.cells_len 3 rfl (get_getD (xs := us) (j := 0) (d := PtrD.zero) (by omega)) 0 _ rfl) (by kernel_rfl))) HS.out ?_; clear HF a; intro a HF
     refine wm_t 10 rfl (by kernel_rfl) (by kernel_rfl) (by kernel_rfl) (fun _ _ _ h => h) (by decide) rfl HF rfl rfl (fun _ _ => (yl_move rfl (HF.ev rfl))) (fun _ => HS.out) ?_; clear HF a; intro a HF
     refine wm_one 11 (by kernel_rfl) ?_
     replace HS2 : Bx (St w0 (rdA rb ab n cb (B + 1 + 120 * k + 1 + 1) :: rowA encS 1 9 (.slice (some ⟨g28, 0, none⟩) qd.fCells.length qc) qd.fCells :: rowA WaitD.cells 2 144 (.slice qb qd.fWaits.length qe) qd.fWaits :: sepA ((qs.eraseIdx dn27).map HD.asr) :: rowA PtrD.cells 5 33 (.slice (some ⟨g29, 0, none⟩) us.length cu) us :: boxA b2 1 25 (.agg #[.slice (some ⟨gR, 0, none⟩) 3 cR]) :: rowA HD.cells 3 44 (.slice (some ⟨gR, 0, none⟩) 3 cR) (qs.set dn27 (⟨some ⟨g28, 0, none⟩, qc, qb, qe, qd⟩ : HD)) :: boxA b1 1 25 (.agg #[.slice none 0 0]) :: F) _) := ⟨(HS2.out).pick 3 rfl⟩
     refine wo_call rfl rfl HF rfl (enter_of Try.func111 (by kernel_rfl) rfl) (args := #[.pointer (some ⟨rb, 0, none⟩), .int .i64 12]) rfl (l91Text_any w0 _ rb ab n cb bs hn hR (B + 1 + 120 * k + 1 + 1) (by omega) 12 (by omega) _ HS2.out) rfl rfl ?_
     rintro _ w44 ⟨dt30, rfl, ht30, hs1⟩
     refine ⟨_, rfl, ?_⟩; replace HS2 := Bx.mk hs1; clear hs1 HF; clear a; intro a HF
     replace HS2 : Bx (St w0 (rdA rb ab n cb (B + 1 + 120 * k + 1 + 1 + (2 + 2 * 12)) :: rowA encS 1 9 (.slice (some ⟨g28, 0, none⟩) qd.fCells.length qc) qd.fCells :: rowA WaitD.cells 2 144 (.slice qb qd.fWaits.length qe) qd.fWaits :: sepA ((qs.eraseIdx dn27).map HD.asr) :: rowA PtrD.cells 5 33 (.slice (some ⟨g29, 0, none⟩) us.length cu) us :: boxA b2 1 25 (.agg #[.slice (some ⟨gR, 0, none⟩) 3 cR]) :: rowA HD.cells 3 44 (.slice (some ⟨gR, 0, none⟩) 3 cR) (qs.set dn27 (⟨some ⟨g28, 0, none⟩, qc, qb, qe, qd⟩ : HD)) :: boxA b1 1 25 (.agg #[.slice none 0 0]) :: F) _) := ⟨HS2.out⟩
     clear HS; have HS : Bx (St w0 (rowA encS 1 9 (.slice (some ⟨g28, 0, none⟩) qd.fCells.length qc) qd.fCells :: rowA WaitD.cells 2 144 (.slice qb qd.fWaits.length qe) qd.fWaits :: sepA ((qs.eraseIdx dn27).map HD.asr) :: rowA PtrD.cells 5 33 (.slice (some ⟨g29, 0, none⟩) us.length cu) us :: boxA b2 1 25 (.agg #[.slice (some ⟨gR, 0, none⟩) 3 cR]) :: rowA HD.cells 3 44 (.slice (some ⟨gR, 0, none⟩) 3 cR) (qs.set dn27 (⟨some ⟨g28, 0, none⟩, qc, qb, qe, qd⟩ : HD)) :: boxA b1 1 25 (.agg #[.slice none 0 0]) :: F) _) := ⟨(HS2.out.erase 0)⟩
     refine ⟨fun _ => HS.out, ?_⟩
     refine wm_y 12 rfl (by kernel_rfl) (by kernel_rfl) (by kernel_rfl) (fun _ _ _ h => h) (by decide) (by kernel_rfl) (by kernel_rfl) rfl HF rfl rfl (fun _ HS => (yl_indexAddr (e := 9) (i := mAt) (size := 1) rfl (HF.ev rfl) (HF.ev rfl) (by kernel_rfl) hmAt (by omega))) HS.out ?_; clear HF a; intro a HF
     refine wm_one 13 (by kernel_rfl) ?_
     refine wo_storeE encS_len rfl rfl rfl rfl (HF.ev rfl) (HF.ev rfl) (by kernel_rfl) HS2.out 1 rfl (by omega) (z := dt30) rfl rfl ?_
     clear HS2; intro w45 HS2; replace HS2 : Bx (St w0 (rdA rb ab n cb (B + 1 + 120 * k + 1 + 1 + (2 + 2 * 12)) :: rowA encS 1 9 (.slice (some ⟨g28, 0, none⟩) qd.fCells.length qc) (qd.fCells.set mAt dt30) :: rowA WaitD.cells 2 144 (.slice qb qd.fWaits.length qe) qd.fWaits :: sepA ((qs.eraseIdx dn27).map HD.asr) :: rowA PtrD.cells 5 33 (.slice (some ⟨g29, 0, none⟩) us.length cu) us :: boxA b2 1 25 (.agg #[.slice (some ⟨gR, 0, none⟩) 3 cR]) :: rowA HD.cells 3 44 (.slice (some ⟨gR, 0, none⟩) 3 cR) (qs.set dn27 (⟨some ⟨g28, 0, none⟩, qc, qb, qe, qd⟩ : HD)) :: boxA b1 1 25 (.agg #[.slice none 0 0]) :: F) _) := ⟨HS2⟩; refine ⟨(fun h => absurd (show true = false from h) (by decide)), ?_⟩
     refine wm_done (by kernel_rfl) ?_
     clear HS; have HS := HS2; clear HS2
     refine ex_block ?_
     replace HS : Bx (St w0 (rowA HD.cells 3 44 (.slice (some ⟨gR, 0, none⟩) 3 cR) (qs.set dn27 (⟨some ⟨g28, 0, none⟩, qc, qb, qe, qd⟩ : HD)) :: rowA encS 1 9 (.slice (some ⟨g28, 0, none⟩) qd.fCells.length qc) (qd.fCells.set mAt dt30) :: rowA WaitD.cells 2 144 (.slice qb qd.fWaits.length qe) qd.fWaits :: sepA ((qs.eraseIdx dn27).map HD.asr) :: rdA rb ab n cb (B + 1 + 120 * k + 1 + 1 + (2 + 2 * 12)) :: rowA PtrD.cells 5 33 (.slice (some ⟨g29, 0, none⟩) us.length cu) us :: boxA b2 1 25 (.agg #[.slice (some ⟨gR, 0, none⟩) 3 cR]) :: boxA b1 1 25 (.agg #[.slice none 0 0]) :: F) _) := ⟨((((HS.out).pick 3 rfl).pick 3 rfl).pick 3 rfl).pick 6 rfl⟩
     have hcc : HD.cells (⟨some ⟨g28, 0, none⟩, qc, qb, qe, { qd with fCells := qd.fCells.set mAt dt30 }⟩ : HD) = HD.cells (⟨some ⟨g28, 0, none⟩, qc, qb, qe, qd⟩ : HD) := by simp only [HD.cells, List.length_set]
     have hql2 := hni.len
     replace HS := Bx.mk ((HS.out.imp0 (fun w f h => rowA_congr (ys := qs.set dn27 (⟨some ⟨g28, 0, none⟩, qc, qb, qe, { qd with fCells := qd.fCells.set mAt dt30 }⟩ : HD)) (by simp) (flatMap_set_same hcc) h)))
     replace HS := Bx.mk (St.swap (((St.join (r := [_, _, _])).1 (St.pick (St.pick (St.pick HS.out 1 rfl) 2 rfl) 3 rfl)).hold (P := allP (qs.set dn27 (⟨some ⟨g28, 0, none⟩, qc, qb, qe, { qd with fCells := qd.fCells.set mAt dt30 }⟩ : HD))) (sep3 (P := allP (qs.eraseIdx dn27)) (fun w f h => hds_allP h) (fun w f h => row_reads WaitD.cells_len h) (fun w f h => row_reads encS_len h) (fun w h1 h2 h3 => allP_cons h1 ⟨by show Rd encS 1 w _ (qd.fCells.set mAt dt30).length _; rw [List.length_set]; exact h3, h2⟩ (by omega)))))
     have hfl : fitsL (qs.set dn27 (⟨some ⟨g28, 0, none⟩, qc, qb, qe, { qd with fCells := qd.fCells.set mAt dt30 }⟩ : HD)) := (niceS.fitsL hni (by omega)).set (fits_of (by rw [List.length_set]; omega) (by have := hnq.w; show qd.fWaits.length ≤ _; omega) (fun x hx => (List.mem_or_eq_of_mem_set hx).elim (hnq.z x) fun e => by rw [e]; omega) hnq.u) _
     have hxl : (qs.set dn27 (⟨some ⟨g28, 0, none⟩, qc, qb, qe, { qd with fCells := qd.fCells.set mAt dt30 }⟩ : HD)).length = 3 := by rw [List.length_set]; exact hni.len
     replace HS : Bx (St w0 (rowA HD.cells 3 44 (.slice (some ⟨gR, 0, none⟩) 3 cR) (qs.set dn27 (⟨some ⟨g28, 0, none⟩, qc, qb, qe, { qd with fCells := qd.fCells.set mAt dt30 }⟩ : HD)) :: holdsA (allP (qs.set dn27 (⟨some ⟨g28, 0, none⟩, qc, qb, qe, { qd with fCells := qd.fCells.set mAt dt30 }⟩ : HD))) :: rdA rb ab n cb (B + 1 + 120 * k + 1 + 1 + (2 + 2 * 12)) :: rowA PtrD.cells 5 33 (.slice (some ⟨g29, 0, none⟩) us.length cu) us :: boxA b2 1 25 (.agg #[.slice (some ⟨gR, 0, none⟩) 3 cR]) :: boxA b1 1 25 (.agg #[.slice none 0 0]) :: F) _) := ⟨HS.out⟩
     replace HS : Bx (St w0 (rdA rb ab n cb (B + 1 + 120 * k + 1 + 1 + (2 + 2 * 12)) :: rowA HD.cells 3 44 (.slice (some ⟨gR, 0, none⟩) 3 cR) (qs.set dn27 (⟨some ⟨g28, 0, none⟩, qc, qb, qe, { qd with fCells := qd.fCells.set mAt dt30 }⟩ : HD)) :: holdsA (allP (qs.set dn27 (⟨some ⟨g28, 0, none⟩, qc, qb, qe, { qd with fCells := qd.fCells.set mAt dt30 }⟩ : HD))) :: rowA PtrD.cells 5 33 (.slice (some ⟨g29, 0, none⟩) us.length cu) us :: boxA b2 1 25 (.agg #[.slice (some ⟨gR, 0, none⟩) 3 cR]) :: boxA b1 1 25 (.agg #[.slice none 0 0]) :: F) _) := ⟨(HS.out).pick 2 rfl⟩
     replace HS : Bx (St w0 (rdA rb ab n cb (B + 900) :: rowA HD.cells 3 44 (.slice (some ⟨gR, 0, none⟩) 3 cR) (qs.set dn27 (⟨some ⟨g28, 0, none⟩, qc, qb, qe, { qd with fCells := qd.fCells.set mAt dt30 }⟩ : HD)) :: holdsA (allP (qs.set dn27 (⟨some ⟨g28, 0, none⟩, qc, qb, qe, { qd with fCells := qd.fCells.set mAt dt30 }⟩ : HD))) :: rowA PtrD.cells 5 33 (.slice (some ⟨g29, 0, none⟩) us.length cu) us :: boxA b2 1 25 (.agg #[.slice (some ⟨gR, 0, none⟩) 3 cR]) :: boxA b1 1 25 (.agg #[.slice none 0 0]) :: F) _) := ⟨HS.out.rdLe (by omega)⟩
     replace HS : Bx (St w0 (rdA rb ab n cb (B + 900) :: rowA HD.cells 3 44 (.slice (some ⟨gR, 0, none⟩) 3 cR) (qs.set dn27 (⟨some ⟨g28, 0, none⟩, qc, qb, qe, { qd with fCells := qd.fCells.set mAt dt30 }⟩ : HD)) :: holdsA (allP (qs.set dn27 (⟨some ⟨g28, 0, none⟩, qc, qb, qe, { qd with fCells := qd.fCells.set mAt dt30 }⟩ : HD))) :: rowA PtrD.cells 5 33 (.slice (some ⟨g29, 0, none⟩) us.length cu) us :: boxA b2 1 25 (.agg #[.slice (some ⟨gR, 0, none⟩) 3 cR]) :: boxA b1 1 25 (.agg #[.slice none 0 0]) :: F) _) := ⟨((((((HS.out).pick 5 rfl).pick 5 rfl).pick 5 rfl).pick 5 rfl).pick 5 rfl).pick 5 rfl⟩
     replace HS := Bx.mk (HS.out)
     exact on_mk ⟨qs.set dn27 (⟨some ⟨g28, 0, none⟩, qc, qb, qe, { qd with fCells := qd.fCells.set mAt dt30 }⟩ : HD), _, hfl, hxl, HF.less _ ⟨rfl, rfl, rfl, rfl, rfl, trivial⟩, HS.out⟩
    ·clear HF; have HF := HF1; clear HF1
     have dcc5 := ne_of_beq_false cc5
     refine wc_false HF rfl ?_
     refine wp_sr ?_
     refine wl_y rfl HF rfl rfl (yl_eqlI rfl (HF.ev rfl) (HF.ev rfl)) ?_; clear HF a; intro a HF
     refine wl_as HF rfl rfl rfl rfl rfl ?_; clear HF a; intro a HF
     refine wl_ne ?_
     refine HF.cases 95 rfl (fun cc6 HF1 => ?_) (fun cc6 HF1 => ?_)
     ·clear HF; have HF := HF1; clear HF1
      have dcc6 := eq_of_beq cc6
      refine wc_true HF rfl ?_
      refine wp_region_lit ?_
      refine wl_y rfl HF rfl rfl (yl_loadR (cs := [.slice (some ⟨gR, 0, none⟩) 3 cR]) rfl (HF.ev rfl) ((HS.out.box 2 rfl).sub 0 1) (by kernel_rfl)) ?_; clear HF a; intro a HF
      have hlx : qs.length = 3 := hni.len
      replace HS : Bx (St w0 (rowA HD.cells 3 44 (.slice (some ⟨gR, 0, none⟩) 3 cR) qs :: sepA (qs.map HD.asr) :: rdA rb ab n cb (B + 1 + 120 * k + 1) :: rowA PtrD.cells 5 33 (.slice ap us.length cu) us :: boxA b2 1 25 (.agg #[.slice (some ⟨gR, 0, none⟩) 3 cR]) :: boxA b1 1 25 (.agg #[.slice none 0 0]) :: F) _) := ⟨((HS.out).pick 4 rfl).pick 4 rfl⟩
      refine wl_call rfl HF rfl (enter_of Try.func113 (by kernel_rfl) rfl) (args := #[.agg #[.slice (some ⟨gR, 0, none⟩) 3 cR]]) rfl (by have := l4Flush_any w0 _ gR cR qs _ (by omega) (fun k hk => by rw [(hni.get (k := k) (by omega)).c]; omega) (fun k hk => by have := (hni.get (k := k) (by omega)).w; omega) (fun i hi k hk => by rw [(hni.get (k := i) (by omega)).c]; exact (hni.get (k := i) (by omega)).a k hk) (by rw [hlx]; exact HS.out); rw [hlx] at this; exact this) rfl rfl ?_
      rintro _ w46 ⟨rs, hrl, hrq, rfl, hs1⟩
      have hnr : niceS 0 (dsOf rs) := by rw [hrq]; exact niceS_flush hni
      refine ⟨_, rfl, ?_⟩; replace HS := Bx.mk hs1; clear hs1 HF; clear a; intro a HF
      replace HS : Bx (St w0 (rowA HD.cells 3 44 (.slice (some ⟨gR, 0, none⟩) 3 cR) rs :: sepA (rs.map HD.asr) :: rdA rb ab n cb (B + 1 + 120 * k + 1) :: rowA PtrD.cells 5 33 (.slice ap us.length cu) us :: boxA b2 1 25 (.agg #[.slice (some ⟨gR, 0, none⟩) 3 cR]) :: boxA b1 1 25 (.agg #[.slice none 0 0]) :: F) _) := ⟨HS.out⟩
      refine wl_storeBox rfl HF rfl rfl (HF.ev rfl) (HF.ev rfl) HS.out 4 rfl (cells_lit [.slice (some ⟨gR, 0, none⟩) 3 cR] rfl rfl) (by kernel_rfl) ?_; clear HS; intro w47 HS; replace HS := Bx.mk HS
      have HS : Bx (St w0 (rowA HD.cells 3 44 (.slice (some ⟨gR, 0, none⟩) 3 cR) rs :: sepA (rs.map HD.asr) :: rdA rb ab n cb (B + 1 + 120 * k + 1) :: rowA PtrD.cells 5 33 (.slice ap us.length cu) us :: boxA b2 1 25 (.agg #[.slice (some ⟨gR, 0, none⟩) 3 cR]) :: boxA b1 1 25 (.agg #[.slice none 0 0]) :: F) _) := HS
      refine wpList_nil ?_
      refine ex_block ?_
      replace HS : Bx (St w0 (sepA (rs.map HD.asr) :: rowA HD.cells 3 44 (.slice (some ⟨gR, 0, none⟩) 3 cR) rs :: rdA rb ab n cb (B + 1 + 120 * k + 1) :: rowA PtrD.cells 5 33 (.slice ap us.length cu) us :: boxA b2 1 25 (.agg #[.slice (some ⟨gR, 0, none⟩) 3 cR]) :: boxA b1 1 25 (.agg #[.slice none 0 0]) :: F) _) := ⟨((HS.out).pick 0 rfl).pick 1 rfl⟩
      replace HS := Bx.mk (St.swap (HS.out.hold (P := allP rs) (fun w f h => hds_allP h)))
      have hfl : fitsL rs := niceS.fitsL hnr (by omega); have hxl : (rs).length = 3 := hnr.len
      replace HS : Bx (St w0 (rowA HD.cells 3 44 (.slice (some ⟨gR, 0, none⟩) 3 cR) rs :: holdsA (allP rs) :: rdA rb ab n cb (B + 1 + 120 * k + 1) :: rowA PtrD.cells 5 33 (.slice ap us.length cu) us :: boxA b2 1 25 (.agg #[.slice (some ⟨gR, 0, none⟩) 3 cR]) :: boxA b1 1 25 (.agg #[.slice none 0 0]) :: F) _) := ⟨HS.out⟩
      replace HS : Bx (St w0 (rdA rb ab n cb (B + 1 + 120 * k + 1) :: rowA HD.cells 3 44 (.slice (some ⟨gR, 0, none⟩) 3 cR) rs :: holdsA (allP rs) :: rowA PtrD.cells 5 33 (.slice ap us.length cu) us :: boxA b2 1 25 (.agg #[.slice (some ⟨gR, 0, none⟩) 3 cR]) :: boxA b1 1 25 (.agg #[.slice none 0 0]) :: F) _) := ⟨(HS.out).pick 2 rfl⟩
      replace HS : Bx (St w0 (rdA rb ab n cb (B + 900) :: rowA HD.cells 3 44 (.slice (some ⟨gR, 0, none⟩) 3 cR) rs :: holdsA (allP rs) :: rowA PtrD.cells 5 33 (.slice ap us.length cu) us :: boxA b2 1 25 (.agg #[.slice (some ⟨gR, 0, none⟩) 3 cR]) :: boxA b1 1 25 (.agg #[.slice none 0 0]) :: F) _) := ⟨HS.out.rdLe (by omega)⟩
      replace HS : Bx (St w0 (rdA rb ab n cb (B + 900) :: rowA HD.cells 3 44 (.slice (some ⟨gR, 0, none⟩) 3 cR) rs :: holdsA (allP rs) :: rowA PtrD.cells 5 33 (.slice ap us.length cu) us :: boxA b2 1 25 (.agg #[.slice (some ⟨gR, 0, none⟩) 3 cR]) :: boxA b1 1 25 (.agg #[.slice none 0 0]) :: F) _) := ⟨((((((HS.out).pick 5 rfl).pick 5 rfl).pick 5 rfl).pick 5 rfl).pick 5 rfl).pick 5 rfl⟩
      replace HS := Bx.mk (HS.out)
      exact on_mk ⟨rs, _, hfl, hxl, HF.less _ ⟨rfl, rfl, rfl, rfl, rfl, trivial⟩, HS.out⟩
     ·clear HF; have HF := HF1; clear HF1
      have dcc6 := ne_of_beq_false cc6
      refine wc_false HF rfl ?_
      refine wp_skip ?_
      refine ex_block ?_
      replace HS : Bx (St w0 (sepA (qs.map HD.asr) :: rowA HD.cells 3 44 (.slice (some ⟨gR, 0, none⟩) 3 cR) qs :: rdA rb ab n cb (B + 1 + 120 * k + 1) :: rowA PtrD.cells 5 33 (.slice ap us.length cu) us :: boxA b2 1 25 (.agg #[.slice (some ⟨gR, 0, none⟩) 3 cR]) :: boxA b1 1 25 (.agg #[.slice none 0 0]) :: F) _) := ⟨((HS.out).pick 3 rfl).pick 4 rfl⟩
      replace HS := Bx.mk (St.swap (HS.out.hold (P := allP qs) (fun w f h => hds_allP h)))
      have hfl : fitsL qs := niceS.fitsL hni (by omega); have hxl : (qs).length = 3 := hni.len
      replace HS : Bx (St w0 (rowA HD.cells 3 44 (.slice (some ⟨gR, 0, none⟩) 3 cR) qs :: holdsA (allP qs) :: rdA rb ab n cb (B + 1 + 120 * k + 1) :: rowA PtrD.cells 5 33 (.slice ap us.length cu) us :: boxA b2 1 25 (.agg #[.slice (some ⟨gR, 0, none⟩) 3 cR]) :: boxA b1 1 25 (.agg #[.slice none 0 0]) :: F) _) := ⟨HS.out⟩
      replace HS : Bx (St w0 (rdA rb ab n cb (B + 1 + 120 * k + 1) :: rowA HD.cells 3 44 (.slice (some ⟨gR, 0, none⟩) 3 cR) qs :: holdsA (allP qs) :: rowA PtrD.cells 5 33 (.slice ap us.length cu) us :: boxA b2 1 25 (.agg #[.slice (some ⟨gR, 0, none⟩) 3 cR]) :: boxA b1 1 25 (.agg #[.slice none 0 0]) :: F) _) := ⟨(HS.out).pick 2 rfl⟩
      replace HS : Bx (St w0 (rdA rb ab n cb (B + 900) :: rowA HD.cells 3 44 (.slice (some ⟨gR, 0, none⟩) 3 cR) qs :: holdsA (allP qs) :: rowA PtrD.cells 5 33 (.slice ap us.length cu) us :: boxA b2 1 25 (.agg #[.slice (some ⟨gR, 0, none⟩) 3 cR]) :: boxA b1 1 25 (.agg #[.slice none 0 0]) :: F) _) := ⟨HS.out.rdLe (by omega)⟩
      replace HS : Bx (St w0 (rdA rb ab n cb (B + 900) :: rowA HD.cells 3 44 (.slice (some ⟨gR, 0, none⟩) 3 cR) qs :: holdsA (allP qs) :: rowA PtrD.cells 5 33 (.slice ap us.length cu) us :: boxA b2 1 25 (.agg #[.slice (some ⟨gR, 0, none⟩) 3 cR]) :: boxA b1 1 25 (.agg #[.slice none 0 0]) :: F) _) := ⟨((((((HS.out).pick 5 rfl).pick 5 rfl).pick 5 rfl).pick 5 rfl).pick 5 rfl).pick 5 rfl⟩
      replace HS := Bx.mk (HS.out)
      exact on_mk ⟨qs, _, hfl, hxl, HF.less _ ⟨rfl, rfl, rfl, rfl, rfl, trivial⟩, HS.out⟩
  clear HF HS a; rintro a w48 ⟨zs, ap2, hfl, hxl, HF, HS⟩; replace HS := Bx.mk HS
  refine ex_then ?_
  refine wp_seq ?_
  refine wp_sr ?_
  refine wl_mv HF rfl rfl rfl rfl rfl ?_; clear HF a; intro a HF
  replace HS : Bx (St w0 (rdA rb ab n cb (B + 900) :: rowA HD.cells 3 44 (.slice (some ⟨gR, 0, none⟩) 3 cR) zs :: holdsA (allP zs) :: rowA PtrD.cells 5 33 (.slice ap2 us.length cu) us :: boxA b2 1 25 (.agg #[.slice (some ⟨gR, 0, none⟩) 3 cR]) :: boxA b1 1 25 (.agg #[.slice none 0 0]) :: F) _) := ⟨(HS.out).pick 0 rfl⟩
  refine wl_call rfl HF rfl (enter_of Try.func110 (by kernel_rfl) rfl) (args := #[.pointer (some ⟨rb, 0, none⟩), .int .i64 40]) rfl (pickN w0 _ rb ab n cb bs hn hR (B + 900) (by omega) 40 (by omega) _ HS.out) rfl rfl ?_
  rintro _ w49 ⟨dn31, rfl, hu31, hs1⟩
  refine ⟨_, rfl, ?_⟩; replace HS := Bx.mk hs1; clear hs1 HF; clear a; intro a HF
  replace HS : Bx (St w0 (rdA rb ab n cb (B + 900 + 1) :: rowA HD.cells 3 44 (.slice (some ⟨gR, 0, none⟩) 3 cR) zs :: holdsA (allP zs) :: rowA PtrD.cells 5 33 (.slice ap2 us.length cu) us :: boxA b2 1 25 (.agg #[.slice (some ⟨gR, 0, none⟩) 3 cR]) :: boxA b1 1 25 (.agg #[.slice none 0 0]) :: F) _) := ⟨HS.out⟩
  refine wl_ne ?_
  refine wp_block ?_
  refine wp_sr ?_
  refine wl_y rfl HF rfl rfl (yl_eqlI rfl (HF.ev rfl) (HF.ev rfl)) ?_; clear HF a; intro a HF
  refine wl_as HF rfl rfl rfl rfl rfl ?_; clear HF a; intro a HF
  refine wl_ne ?_
  refine HF.cases 101 rfl (fun cc7 HF1 => ?_) (fun cc7 HF1 => ?_)
  ·clear HF; have HF := HF1; clear HF1
   have dcc7 := eq_of_beq cc7
   refine wc_true HF rfl ?_
   refine wp_region_lit ?_
   refine wl_y rfl HF rfl rfl (yl_fieldAddr (j := 0) rfl (HF.ev rfl) (by kernel_rfl)) ?_; clear HF a; intro a HF
   refine wl_y rfl HF rfl rfl (yl_load (v := .slice (some ⟨gR, 0, none⟩) 3 cR) rfl (HF.ev rfl) (((HS.out.box 4 rfl).cell 0).trans rfl) (by kernel_rfl)) ?_; clear HF a; intro a HF
   refine wl_y rfl HF rfl rfl (yl_sliceLo (e := 44) (size := 3) (k := 1) rfl (HF.ev rfl) (HF.ev rfl) (by kernel_rfl) (by omega) (by omega) (Nat.lt_of_lt_of_le (by omega) (St.capLe HS.out 1 rfl))) ?_; clear HF a; intro a HF
   refine wl_y rfl HF rfl rfl (yl_fieldAddr (j := 0) rfl (HF.ev rfl) (by kernel_rfl)) ?_; clear HF a; intro a HF
   refine wl_storeF rfl rfl rfl (HF.ev rfl) (HF.ev rfl) (by kernel_rfl) HS.out 4 rfl rfl rfl ?_; clear HS; intro w50 HS; replace HS := Bx.mk HS
   have HS : Bx (St w0 (rdA rb ab n cb (B + 900 + 1) :: rowA HD.cells 3 44 (.slice (some ⟨gR, 0, none⟩) 3 cR) zs :: holdsA (allP zs) :: rowA PtrD.cells 5 33 (.slice ap2 us.length cu) us :: boxA b2 1 25 (.agg #[.slice (some ⟨gR, 0 + 1 * 3, none⟩) (3 - 1) (cR - 1)]) :: boxA b1 1 25 (.agg #[.slice none 0 0]) :: F) _) := HS
   refine wpList_nil ?_
   refine ex_block ?_
   refine ex_then ?_
   refine wp_sr ?_
   refine wl_y rfl HF rfl rfl (yl_loadR (cs := [.slice (some ⟨gR, 0 + 1 * 3, none⟩) (3 - 1) (cR - 1)]) rfl (HF.ev rfl) ((HS.out.box 4 rfl).sub 0 1) (by kernel_rfl)) ?_; clear HF a; intro a HF
   refine wl_mv HF rfl rfl rfl rfl rfl ?_; clear HF a; intro a HF
   refine wl_storeBox rfl HF rfl rfl (HF.ev rfl) (HF.ev rfl) HS.out 5 rfl (cells_lit [.slice (some ⟨gR, 0 + 1 * 3, none⟩) (3 - 1) (cR - 1)] rfl rfl) (by kernel_rfl) ?_; clear HS; intro w51 HS; replace HS := Bx.mk HS
   have HS : Bx (St w0 (rdA rb ab n cb (B + 900 + 1) :: rowA HD.cells 3 44 (.slice (some ⟨gR, 0, none⟩) 3 cR) zs :: holdsA (allP zs) :: rowA PtrD.cells 5 33 (.slice ap2 us.length cu) us :: boxA b2 1 25 (.agg #[.slice (some ⟨gR, 0 + 1 * 3, none⟩) (3 - 1) (cR - 1)]) :: boxA b1 1 25 (.agg #[.slice (some ⟨gR, 0 + 1 * 3, none⟩) (3 - 1) (cR - 1)]) :: F) _) := HS
   refine wl_as HF rfl rfl rfl rfl rfl ?_; clear HF a; intro a HF
   refine wl_ne ?_
   refine wp_ret ?_
   refine bp_ret2 HF Try.results41 (HF.resBox rfl (HS.out.box 5 rfl) (by kernel_rfl)) (HF.res rfl) ?_
   replace HS : Bx (St w0 (rowA HD.cells 3 44 (.slice (some ⟨gR, 0, none⟩) 3 cR) zs :: holdsA (allP zs) :: rdA rb ab n cb (B + 900 + 1) :: rowA PtrD.cells 5 33 (.slice ap2 us.length cu) us :: boxA b2 1 25 (.agg #[.slice (some ⟨gR, 0 + 1 * 3, none⟩) (3 - 1) (cR - 1)]) :: boxA b1 1 25 (.agg #[.slice (some ⟨gR, 0 + 1 * 3, none⟩) (3 - 1) (cR - 1)]) :: F) _) := ⟨((((HS.out).pick 3 rfl).pick 1 rfl).pick 3 rfl).pick 3 rfl⟩
   have HT := (raid_holdD hxl.symm (by omega) HS.out).swap.rdLe (B' := B + 2000) (by omega)
   exact ⟨_, _, zs.drop 1, _, _, us, by rw [List.length_drop, hxl], (by rw [List.length_drop]; omega), hfl.drop 1, by omega, ((HT.erase 4).erase 3)⟩
  ·clear HF; have HF := HF1; clear HF1
   have dcc7 := ne_of_beq_false cc7
   refine wc_false HF rfl ?_
   refine wp_sr ?_
   refine wl_y rfl HF rfl rfl (yl_eqlI rfl (HF.ev rfl) (HF.ev rfl)) ?_; clear HF a; intro a HF
   refine wl_as HF rfl rfl rfl rfl rfl ?_; clear HF a; intro a HF
   refine wl_ne ?_
   refine HF.cases 107 rfl (fun cc8 HF1 => ?_) (fun cc8 HF1 => ?_)
   ·clear HF; have HF := HF1; clear HF1
    have dcc8 := eq_of_beq cc8
    refine wc_true HF rfl ?_
    refine wr_marked (W := w0) (s := rowA HD.cells 3 44 (.slice (some ⟨gR, 0, none⟩) 3 cR) zs :: holdsA (allP zs) :: rowA PtrD.cells 5 33 (.slice ap2 us.length cu) us :: boxA b2 1 25 (.agg #[.slice (some ⟨gR, 0, none⟩) 3 cR]) :: boxA b1 1 25 (.agg #[.slice none 0 0]) :: F) 5 (by kernel_rfl) ?_
    have HS2 := Bx.mk HS.out.drew; replace HS := Bx.mk (show St w0 (rowA HD.cells 3 44 (.slice (some ⟨gR, 0, none⟩) 3 cR) zs :: holdsA (allP zs) :: rowA PtrD.cells 5 33 (.slice ap2 us.length cu) us :: boxA b2 1 25 (.agg #[.slice (some ⟨gR, 0, none⟩) 3 cR]) :: boxA b1 1 25 (.agg #[.slice none 0 0]) :: F) _ from (HS.out.drew.erase 0)); generalize World.drew _ = w52 at HS HS2 ⊢
    refine wm_t 0 rfl (by kernel_rfl) (by kernel_rfl) (by kernel_rfl) (fun _ _ _ h => h) (by decide) rfl HF rfl rfl (fun _ _ => (yl_fieldAddr (j := 0) rfl (HF.ev rfl) (by kernel_rfl))) (fun _ => HS.out) ?_; clear HF a; intro a HF
    refine wm_y 1 rfl (by kernel_rfl) (by kernel_rfl) (by kernel_rfl) (fun _ _ _ h => h) (by decide) (by kernel_rfl) (by kernel_rfl) rfl HF rfl rfl (fun _ HS => (yl_load (v := .slice (some ⟨gR, 0, none⟩) 3 cR) rfl (HF.ev rfl) (((HS.box 3 rfl).cell 0).trans rfl) (by kernel_rfl))) HS.out ?_; clear HF a; intro a HF
    refine wm_t 2 rfl (by kernel_rfl) (by kernel_rfl) (by kernel_rfl) (fun _ _ _ h => h) (by decide) rfl HF rfl rfl (fun _ _ => (yl_move rfl (HF.ev rfl))) (fun _ => HS.out) ?_; clear HF a; intro a HF
    refine wm_one 3 (by kernel_rfl) ?_
    replace HS2 : Bx (St w0 (rdA rb ab n cb (B + 900 + 1) :: rowA HD.cells 3 44 (.slice (some ⟨gR, 0, none⟩) 3 cR) zs :: holdsA (allP zs) :: rowA PtrD.cells 5 33 (.slice ap2 us.length cu) us :: boxA b2 1 25 (.agg #[.slice (some ⟨gR, 0, none⟩) 3 cR]) :: boxA b1 1 25 (.agg #[.slice none 0 0]) :: F) _) := ⟨(HS2.out).pick 0 rfl⟩
    refine wo_call rfl rfl HF rfl (enter_of Try.func116 (by kernel_rfl) rfl) (args := #[.pointer (some ⟨rb, 0, none⟩)]) rfl (l91Disk_any w0 _ rb ab n cb bs hn hR (B + 900 + 1) (by omega) _ HS2.out) rfl rfl ?_
    rintro _ w53 ⟨q2, hq2f, rfl, hs1⟩
    refine ⟨_, rfl, ?_⟩; replace HS2 := Bx.mk hs1; clear hs1 HF; clear a; intro a HF
    replace HS2 : Bx (St w0 (rdA rb ab n cb (B + 900 + 1 + 500) :: holdsA (fun w => HD.reads w q2) :: rowA HD.cells 3 44 (.slice (some ⟨gR, 0, none⟩) 3 cR) zs :: holdsA (allP zs) :: rowA PtrD.cells 5 33 (.slice ap2 us.length cu) us :: boxA b2 1 25 (.agg #[.slice (some ⟨gR, 0, none⟩) 3 cR]) :: boxA b1 1 25 (.agg #[.slice none 0 0]) :: F) _) := ⟨HS2.out⟩
    clear HS; have HS : Bx (St w0 (rowA HD.cells 3 44 (.slice (some ⟨gR, 0, none⟩) 3 cR) zs :: holdsA (allP zs) :: rowA PtrD.cells 5 33 (.slice ap2 us.length cu) us :: boxA b2 1 25 (.agg #[.slice (some ⟨gR, 0, none⟩) 3 cR]) :: boxA b1 1 25 (.agg #[.slice none 0 0]) :: F) _) := ⟨((HS2.out.erase 1).erase 0)⟩
    refine ⟨fun _ => HS.out, ?_⟩
    refine wm_y 4 rfl (by kernel_rfl) (by kernel_rfl) (by kernel_rfl) (fun _ _ _ h => h) (by decide) (by kernel_rfl) (by kernel_rfl) rfl HF rfl rfl (fun _ HS => (yl_indexAddr (e := 44) (i := 1) (size := 3) rfl (HF.ev rfl) (HF.ev rfl) (by kernel_rfl) rfl (by omega))) HS.out ?_; clear HF a; intro a HF
    refine wm_one 5 (by kernel_rfl) ?_
    refine wo_storeEn HD.cells_len rfl rfl rfl rfl (HF.ev rfl) (HF.ev rfl) (by kernel_rfl) HS2.out 2 rfl (by omega) (z := q2) rfl (by first | rfl | simp [Value.oneCell']) ?_
    clear HS2; intro w54 HS2; replace HS2 : Bx (St w0 (rdA rb ab n cb (B + 900 + 1 + 500) :: holdsA (fun w => HD.reads w q2) :: rowA HD.cells 3 44 (.slice (some ⟨gR, 0, none⟩) 3 cR) (zs.set 1 q2) :: holdsA (allP zs) :: rowA PtrD.cells 5 33 (.slice ap2 us.length cu) us :: boxA b2 1 25 (.agg #[.slice (some ⟨gR, 0, none⟩) 3 cR]) :: boxA b1 1 25 (.agg #[.slice none 0 0]) :: F) _) := ⟨HS2⟩; refine ⟨(fun h => absurd (show true = false from h) (by decide)), ?_⟩
    refine wm_done (by kernel_rfl) ?_
    clear HS; have HS := HS2; clear HS2
    refine ex_block ?_
    refine ex_then ?_
    refine wp_sr ?_
    refine wl_y rfl HF rfl rfl (yl_loadR (cs := [.slice (some ⟨gR, 0, none⟩) 3 cR]) rfl (HF.ev rfl) ((HS.out.box 5 rfl).sub 0 1) (by kernel_rfl)) ?_; clear HF a; intro a HF
    refine wl_mv HF rfl rfl rfl rfl rfl ?_; clear HF a; intro a HF
    refine wl_storeBox rfl HF rfl rfl (HF.ev rfl) (HF.ev rfl) HS.out 6 rfl (cells_lit [.slice (some ⟨gR, 0, none⟩) 3 cR] rfl rfl) (by kernel_rfl) ?_; clear HS; intro w55 HS; replace HS := Bx.mk HS
    have HS : Bx (St w0 (rdA rb ab n cb (B + 900 + 1 + 500) :: holdsA (fun w => HD.reads w q2) :: rowA HD.cells 3 44 (.slice (some ⟨gR, 0, none⟩) 3 cR) (zs.set 1 q2) :: holdsA (allP zs) :: rowA PtrD.cells 5 33 (.slice ap2 us.length cu) us :: boxA b2 1 25 (.agg #[.slice (some ⟨gR, 0, none⟩) 3 cR]) :: boxA b1 1 25 (.agg #[.slice (some ⟨gR, 0, none⟩) 3 cR]) :: F) _) := HS
    refine wl_as HF rfl rfl rfl rfl rfl ?_; clear HF a; intro a HF
    refine wl_ne ?_
    refine wp_ret ?_
    refine bp_ret2 HF Try.results41 (HF.resBox rfl (HS.out.box 6 rfl) (by kernel_rfl)) (HF.res rfl) ?_
    replace HS : Bx (St w0 (rowA HD.cells 3 44 (.slice (some ⟨gR, 0, none⟩) 3 cR) (zs.set 1 q2) :: holdsA (allP zs) :: holdsA (fun w => HD.reads w q2) :: rdA rb ab n cb (B + 900 + 1 + 500) :: rowA PtrD.cells 5 33 (.slice ap2 us.length cu) us :: boxA b2 1 25 (.agg #[.slice (some ⟨gR, 0, none⟩) 3 cR]) :: boxA b1 1 25 (.agg #[.slice (some ⟨gR, 0, none⟩) 3 cR]) :: F) _) := ⟨(((((HS.out).pick 4 rfl).pick 1 rfl).pick 2 rfl).pick 4 rfl).pick 4 rfl⟩
    have HT := (raid_holdS (ps := zs) hxl.symm HS.out).swap.rdLe (B' := B + 2000) (by omega)
    exact ⟨_, _, zs.set 1 q2, _, _, us, by rw [List.length_set, hxl], (by rw [List.length_set]; omega), hfl.set hq2f 1, by omega, ((HT.erase 4).erase 3)⟩
   ·clear HF; have HF := HF1; clear HF1
    have dcc8 := ne_of_beq_false cc8
    refine wc_false HF rfl ?_
    refine wp_skip ?_
    refine ex_block ?_
    refine ex_then ?_
    refine wp_sr ?_
    refine wl_y rfl HF rfl rfl (yl_loadR (cs := [.slice (some ⟨gR, 0, none⟩) 3 cR]) rfl (HF.ev rfl) ((HS.out.box 4 rfl).sub 0 1) (by kernel_rfl)) ?_; clear HF a; intro a HF
    refine wl_mv HF rfl rfl rfl rfl rfl ?_; clear HF a; intro a HF
    refine wl_storeBox rfl HF rfl rfl (HF.ev rfl) (HF.ev rfl) HS.out 5 rfl (cells_lit [.slice (some ⟨gR, 0, none⟩) 3 cR] rfl rfl) (by kernel_rfl) ?_; clear HS; intro w56 HS; replace HS := Bx.mk HS
    have HS : Bx (St w0 (rdA rb ab n cb (B + 900 + 1) :: rowA HD.cells 3 44 (.slice (some ⟨gR, 0, none⟩) 3 cR) zs :: holdsA (allP zs) :: rowA PtrD.cells 5 33 (.slice ap2 us.length cu) us :: boxA b2 1 25 (.agg #[.slice (some ⟨gR, 0, none⟩) 3 cR]) :: boxA b1 1 25 (.agg #[.slice (some ⟨gR, 0, none⟩) 3 cR]) :: F) _) := HS
    refine wl_as HF rfl rfl rfl rfl rfl ?_; clear HF a; intro a HF
    refine wl_ne ?_
    refine wp_ret ?_
    refine bp_ret2 HF Try.results41 (HF.resBox rfl (HS.out.box 5 rfl) (by kernel_rfl)) (HF.res rfl) ?_
    replace HS : Bx (St w0 (rowA HD.cells 3 44 (.slice (some ⟨gR, 0, none⟩) 3 cR) zs :: holdsA (allP zs) :: rdA rb ab n cb (B + 900 + 1) :: rowA PtrD.cells 5 33 (.slice ap2 us.length cu) us :: boxA b2 1 25 (.agg #[.slice (some ⟨gR, 0, none⟩) 3 cR]) :: boxA b1 1 25 (.agg #[.slice (some ⟨gR, 0, none⟩) 3 cR]) :: F) _) := ⟨((((HS.out).pick 3 rfl).pick 1 rfl).pick 3 rfl).pick 3 rfl⟩
    have HT := (raid_hold hxl.symm HS.out).swap.rdLe (B' := B + 2000) (by omega)
    exact ⟨_, _, zs, _, _, us, by rw [hxl], (by omega), hfl, by omega, ((HT.erase 4).erase 3)⟩

end Go.Proofs.Ytfijfjjleelphaa

/- Drawing pointers; the draws of the laws over sets of disks. -/
namespace Go.Proofs.Ytfijfjjleelphaa
set_option maxHeartbeats 1000000
set_option maxRecDepth 100000
open Go.RowKit

theorem drawRaidWrite_any (w0 : World) (ab : Option Addr) (n0 cb : Nat) (bs0 : List UInt8) (hcap : n0 ≤ cb) (hn0 : n0 ≤ 1048576) (hR0 : Rd encB 1 w0 ab n0 bs0) : Calls Try.prog 9 #[.slice ab n0 cb] w0 fun e w' => ∃ (ao : Option Addr) (co : Nat) (ps : List HD) (row : Int) (t : ByteArray), e = .returned (.tuple #[.agg #[.slice ao ps.length co], .int .i64 row, .string t]) ∧ ps.length ≤ 3 ∧ fitsL ps ∧ -1 ≤ row ∧ row ≤ 64 ∧ t.size ≤ 200 ∧ St w0 [holdsA (rdsP ao ps)] w' := by
 have HS := Bx.mk (St.start w0)
 refine wc_enter Try.func9 rfl Try.ntmps9 [(0, .slice ab n0 cb)] ⟨rfl, trivial⟩ rfl ?_; intro a HF
 refine wp_sr ?_
 refine wl_alloc rfl HF rfl rfl rfl (Z := [.slice none 0 0]) (by kernel_rfl) rfl HS.out ?_; clear HF HS a; intro a w1 b1 HF HS; replace HS := Bx.mk HS
 refine wl_as HF rfl rfl rfl rfl rfl ?_; clear HF a; intro a HF
 refine wl_as HF rfl rfl rfl rfl rfl ?_; clear HF a; intro a HF
 refine wl_ne ?_
 refine wp_sr ?_
 refine wl_mv HF rfl rfl rfl rfl rfl ?_; clear HF a; intro a HF
 refine wl_call rfl HF rfl (enter_of Try.func40 (by kernel_rfl) rfl) (args := #[.slice ab n0 cb]) rfl (l6Open_any _ ab n0 cb hcap hn0) rfl rfl ?_
 rintro _ w2 ⟨rb, n, rfl, hn, hnn, hs⟩
 obtain ⟨bs, hR⟩ : ∃ bs, Rd encB 1 w0 ab n bs := ⟨_, hR0.take (k := n) (by rw [hR0.len]; exact hnn)⟩
 refine ⟨_, rfl, ?_⟩; replace HS := Bx.mk (HS.out.add hs); clear hs HF; clear a; intro a HF
 replace HS : Bx (St w0 ([rdA rb ab n cb 0, boxA b1 1 25 (.agg #[.slice none 0 0])]) _) := ⟨HS.out⟩
 refine wl_as HF rfl rfl rfl rfl rfl ?_; clear HF a; intro a HF
 refine wl_ne ?_
 refine wp_sr ?_
 refine wl_mv HF rfl rfl rfl rfl rfl ?_; clear HF a; intro a HF
 replace HS : Bx (St w0 ([rdA rb ab n cb 0, boxA b1 1 25 (.agg #[.slice none 0 0])]) _) := ⟨(HS.out).pick 0 rfl⟩
 refine wl_call rfl HF rfl (enter_of Try.func41 (by kernel_rfl) rfl) (args := #[.pointer (some ⟨rb, 0, none⟩)]) rfl (l91Raid_any w0 _ rb ab n cb bs hn hR 0 (by omega) _ HS.out) rfl rfl ?_
 rintro _ w3 ⟨ao, co, ps, ap, cu, us, rfl, hpl, hpf, hul, hs1⟩
 refine ⟨_, rfl, ?_⟩; replace HS := Bx.mk hs1; clear hs1 HF; clear a; intro a HF
 replace HS : Bx (St w0 ([rdA rb ab n cb (0 + 2000), holdsA (rdsP ao ps), rowA PtrD.cells 5 33 (.slice ap us.length cu) us, boxA b1 1 25 (.agg #[.slice none 0 0])]) _) := ⟨HS.out⟩
 refine wl_mv HF rfl rfl rfl rfl rfl ?_; clear HF a; intro a HF
 refine wl_y rfl HF rfl rfl (yl_extract rfl (HF.ev rfl) rfl) ?_; clear HF a; intro a HF
 refine wl_y rfl HF rfl rfl (yl_extract rfl (HF.ev rfl) rfl) ?_; clear HF a; intro a HF
 refine wl_alloc rfl HF rfl rfl rfl (Z := [.slice none 0 0]) (by kernel_rfl) rfl HS.out ?_; clear HF HS a; intro a w4 b2 HF HS; replace HS := Bx.mk HS
 refine wl_storeBox rfl HF rfl rfl (HF.ev rfl) (HF.ev rfl) HS.out 0 rfl (cells_lit [.slice ao ps.length co] rfl rfl) (by kernel_rfl) ?_; clear HS; intro w5 HS; replace HS := Bx.mk HS
 have HS : Bx (St w0 ([boxA b2 1 25 (.agg #[.slice ao ps.length co]), rdA rb ab n cb (0 + 2000), holdsA (rdsP ao ps), rowA PtrD.cells 5 33 (.slice ap us.length cu) us, boxA b1 1 25 (.agg #[.slice none 0 0])]) _) := HS
 refine wl_as HF rfl rfl rfl rfl rfl ?_; clear HF a; intro a HF
 refine wl_ne ?_
 refine wp_seq ?_
 refine wr_marked (W := w0) (s := [boxA b2 1 25 (.agg #[.slice ao ps.length co]), holdsA (rdsP ao ps), rowA PtrD.cells 5 33 (.slice ap us.length cu) us, boxA b1 1 25 (.agg #[.slice none 0 0])]) 5 (by kernel_rfl) ?_
 have HS2 := Bx.mk HS.out.drew; replace HS := Bx.mk (show St w0 ([boxA b2 1 25 (.agg #[.slice ao ps.length co]), holdsA (rdsP ao ps), rowA PtrD.cells 5 33 (.slice ap us.length cu) us, boxA b1 1 25 (.agg #[.slice none 0 0])]) _ from (HS.out.drew.erase 1)); generalize World.drew _ = w6 at HS HS2 ⊢
 refine wm_y 0 rfl (by kernel_rfl) (by kernel_rfl) (by kernel_rfl) (fun _ _ _ h => h) (by decide) (by kernel_rfl) (by kernel_rfl) rfl HF rfl rfl (fun _ HS => (yl_loadR (cs := [.slice ao ps.length co]) rfl (HF.ev rfl) ((HS.box 0 rfl).sub 0 1) (by kernel_rfl))) HS.out ?_; clear HF a; intro a HF
 refine wm_t 1 rfl (by kernel_rfl) (by kernel_rfl) (by kernel_rfl) (fun _ _ _ h => h) (by decide) rfl HF rfl rfl (fun _ _ => (yl_move rfl (HF.ev rfl))) (fun _ => HS.out) ?_; clear HF a; intro a HF
 refine wm_t 3 rfl (by kernel_rfl) (by kernel_rfl) (by kernel_rfl) (fun _ _ _ h => h) (by decide) rfl HF rfl rfl (fun _ _ => (yl_move rfl (HF.ev rfl))) (fun _ => HS.out) ?_; clear HF a; intro a HF
 refine wm_one 2 (by kernel_rfl) ?_
 replace HS2 : Bx (St w0 ([rdA rb ab n cb (0 + 2000), boxA b2 1 25 (.agg #[.slice ao ps.length co]), holdsA (rdsP ao ps), rowA PtrD.cells 5 33 (.slice ap us.length cu) us, boxA b1 1 25 (.agg #[.slice none 0 0])]) _) := ⟨(HS2.out).pick 1 rfl⟩
 refine wo_call rfl rfl HF rfl (enter_of Try.func42 (by kernel_rfl) rfl) (args := #[.pointer (some ⟨rb, 0, none⟩)]) rfl (l91Row_any w0 _ rb ab n cb bs hn hR (0 + 2000) (by omega) _ HS2.out) rfl rfl ?_
 rintro _ w7 ⟨di3, rfl, hu3a, hu3b, hs1⟩
 refine ⟨_, rfl, ?_⟩; replace HS2 := Bx.mk hs1; clear hs1 HF; clear a; intro a HF
 replace HS2 : Bx (St w0 ([rdA rb ab n cb (0 + 2000 + 2), boxA b2 1 25 (.agg #[.slice ao ps.length co]), holdsA (rdsP ao ps), rowA PtrD.cells 5 33 (.slice ap us.length cu) us, boxA b1 1 25 (.agg #[.slice none 0 0])]) _) := ⟨HS2.out⟩
 clear HS; have HS : Bx (St w0 ([boxA b2 1 25 (.agg #[.slice ao ps.length co]), holdsA (rdsP ao ps), rowA PtrD.cells 5 33 (.slice ap us.length cu) us, boxA b1 1 25 (.agg #[.slice none 0 0])]) _) := ⟨(HS2.out.erase 0)⟩
 refine ⟨fun _ => HS.out, ?_⟩
 refine wm_one 4 (by kernel_rfl) ?_
 replace HS2 : Bx (St w0 ([rdA rb ab n cb (0 + 2000 + 2), boxA b2 1 25 (.agg #[.slice ao ps.length co]), holdsA (rdsP ao ps), rowA PtrD.cells 5 33 (.slice ap us.length cu) us, boxA b1 1 25 (.agg #[.slice none 0 0])]) _) := ⟨(HS2.out).pick 0 rfl⟩
 refine wo_call rfl rfl HF rfl (enter_of Try.func43 (by kernel_rfl) rfl) (args := #[.pointer (some ⟨rb, 0, none⟩)]) rfl (l91Block_any w0 _ rb ab n cb bs hn hR (0 + 2000 + 2) (by omega) _ HS2.out) rfl rfl ?_
 rintro _ w8 ⟨dt4, rfl, ht4, hs1⟩
 refine ⟨_, rfl, ?_⟩; replace HS2 := Bx.mk hs1; clear hs1 HF; clear a; intro a HF
 replace HS2 : Bx (St w0 ([rdA rb ab n cb (0 + 2000 + 2 + 60), boxA b2 1 25 (.agg #[.slice ao ps.length co]), holdsA (rdsP ao ps), rowA PtrD.cells 5 33 (.slice ap us.length cu) us, boxA b1 1 25 (.agg #[.slice none 0 0])]) _) := ⟨HS2.out⟩
 clear HS; have HS : Bx (St w0 ([boxA b2 1 25 (.agg #[.slice ao ps.length co]), holdsA (rdsP ao ps), rowA PtrD.cells 5 33 (.slice ap us.length cu) us, boxA b1 1 25 (.agg #[.slice none 0 0])]) _) := ⟨(HS2.out.erase 0)⟩
 refine ⟨fun _ => HS.out, ?_⟩
 refine wm_one 5 (by kernel_rfl) ?_
 refine wo_storeBox rfl rfl rfl rfl (HF.ev rfl) (HF.ev rfl) HS2.out 4 rfl (cells_lit [.slice ao ps.length co] rfl rfl) (by kernel_rfl) ?_
 clear HS2; intro w9 HS2; replace HS2 : Bx (St w0 ([rdA rb ab n cb (0 + 2000 + 2 + 60), boxA b2 1 25 (.agg #[.slice ao ps.length co]), holdsA (rdsP ao ps), rowA PtrD.cells 5 33 (.slice ap us.length cu) us, boxA b1 1 25 (.agg #[.slice ao ps.length co])]) _) := ⟨HS2⟩; refine ⟨(fun h => absurd (show true = false from h) (by decide)), ?_⟩
 refine wm_t 6 rfl (by kernel_rfl) (by kernel_rfl) (by kernel_rfl) (fun _ _ _ h => h) (by decide) rfl HF rfl rfl (fun _ _ => (yl_assign rfl (HF.ev rfl))) (fun h => absurd (show true = false from h) (by decide)) ?_; clear HF a; intro a HF
 refine wm_t 7 rfl (by kernel_rfl) (by kernel_rfl) (by kernel_rfl) (fun _ _ _ h => h) (by decide) rfl HF rfl rfl (fun _ _ => (yl_assign rfl (HF.ev rfl))) (fun h => absurd (show true = false from h) (by decide)) ?_; clear HF a; intro a HF
 refine wm_done (by kernel_rfl) ?_
 clear HS; have HS := HS2; clear HS2
 refine ex_then ?_
 refine wp_ret ?_
 refine bp_ret3 HF Try.results9 (HF.resBox rfl (HS.out.box 4 rfl) (by kernel_rfl)) (HF.res rfl) (HF.res rfl) ?_
 replace HS : Bx (St w0 ([holdsA (rdsP ao ps), rdA rb ab n cb (0 + 2000 + 2 + 60), boxA b2 1 25 (.agg #[.slice ao ps.length co]), rowA PtrD.cells 5 33 (.slice ap us.length cu) us, boxA b1 1 25 (.agg #[.slice ao ps.length co])]) _) := ⟨(HS.out).pick 2 rfl⟩
 exact ⟨ao, co, ps, di3, dt4, rfl, hpl, hpf, by omega, by omega, by omega, ((((HS.out.erase 4).erase 3).erase 2).erase 1)⟩

end Go.Proofs.Ytfijfjjleelphaa

/- Drawing what a crash keeps. -/
namespace Go.Proofs.Ytfijfjjleelphaa
set_option maxHeartbeats 1000000
set_option maxRecDepth 100000
open Go.RowKit

theorem l91Mask_any (w0 w : World) (rb : Nat) (ab : Option Addr) (n cb : Nat) (bs : List UInt8) (hn : n ≤ 2000) (hR : Rd encB 1 w0 ab n bs) (B : Nat) (hB : B ≤ 800000) (F : List Asr) (hS : St w0 (rdA rb ab n cb B :: F) w) : Calls Try.prog 133 #[.pointer (some ⟨rb, 0, none⟩)] w fun e w' => ∃ v : Int, e = .returned (.int .i64 v) ∧ St w0 (rdA rb ab n cb (B + 5) :: F) w' := by
 have HS := Bx.mk hS; clear hS
 refine wc_enter Try.func133 rfl Try.ntmps133 [(0, .pointer (some ⟨rb, 0, none⟩))] ⟨rfl, trivial⟩ rfl ?_; intro a HF
 refine wp_sr ?_
 refine wl_as HF rfl rfl rfl rfl rfl ?_; clear HF a; intro a HF
 refine wl_ne ?_
 refine wp_seq ?_
 refine wp_sr ?_
 refine wl_mv HF rfl rfl rfl rfl rfl ?_; clear HF a; intro a HF
 replace HS : Bx (St w0 (rdA rb ab n cb B :: F) _) := ⟨(HS.out).pick 0 rfl⟩
 refine wl_call rfl HF rfl (enter_of Try.func110 (by kernel_rfl) rfl) (args := #[.pointer (some ⟨rb, 0, none⟩), .int .i64 5]) rfl (pickN w0 _ rb ab n cb bs hn hR B (by omega) 5 (by omega) _ HS.out) rfl rfl ?_
 rintro _ w1 ⟨dn1, rfl, hu1, hs1⟩
 refine ⟨_, rfl, ?_⟩; replace HS := Bx.mk hs1; clear hs1 HF; clear a; intro a HF
 replace HS : Bx (St w0 (rdA rb ab n cb (B + 1) :: F) _) := ⟨HS.out⟩
 refine wl_ne ?_
 refine wp_block ?_
 refine wp_sr ?_
 refine wl_y rfl HF rfl rfl (yl_eqlI rfl (HF.ev rfl) (HF.ev rfl)) ?_; clear HF a; intro a HF
 refine wl_as HF rfl rfl rfl rfl rfl ?_; clear HF a; intro a HF
 refine wl_ne ?_
 refine HF.cases 5 rfl (fun cc1 HF1 => ?_) (fun cc1 HF1 => ?_)
 ·clear HF; have HF := HF1; clear HF1
  have dcc1 := eq_of_beq cc1
  refine wc_true HF rfl ?_
  refine wp_seq ?_
  have hle : [(0 : Int), (1152921504606846975 : Int), (-1 : Int)].length = 3 := rfl
  refine wp_region_lit ?_
  refine wl_buildS (enc := encI) (e := 3) (size := 1) rfl HF rfl rfl rfl (ps := [(0, .int .i64 0), (1, .int .i64 1152921504606846975), (2, .int .i64 (-1))]) rfl (cells := [.int .i64 0, .int .i64 1152921504606846975, .int .i64 (-1)]) (by kernel_rfl) [(0 : Int), (1152921504606846975 : Int), (-1 : Int)] rfl rfl (by unfold maxLen; omega) rfl HS.out ?_; clear HF HS a; intro b2 a w2 HF HS; replace HS := Bx.mk HS
  refine wl_mv HF rfl rfl rfl rfl rfl ?_; clear HF a; intro a HF
  replace HS : Bx (St w0 (rdA rb ab n cb (B + 1) :: rowA encI 1 3 (.slice (some ⟨b2, 0, none⟩) 3 3) ([(0 : Int), (1152921504606846975 : Int), (-1 : Int)]) :: F) _) := ⟨(HS.out).pick 1 rfl⟩
  refine wl_call rfl HF rfl (enter_of Try.func110 (by kernel_rfl) rfl) (args := #[.pointer (some ⟨rb, 0, none⟩), .int .i64 3]) rfl (pickN w0 _ rb ab n cb bs hn hR (B + 1) (by omega) 3 (by omega) _ HS.out) rfl rfl ?_
  rintro _ w3 ⟨dn3, rfl, hu3, hs1⟩
  refine ⟨_, rfl, ?_⟩; replace HS := Bx.mk hs1; clear hs1 HF; clear a; intro a HF
  replace HS : Bx (St w0 (rdA rb ab n cb (B + 1 + 1) :: rowA encI 1 3 (.slice (some ⟨b2, 0, none⟩) 3 3) ([(0 : Int), (1152921504606846975 : Int), (-1 : Int)]) :: F) _) := ⟨HS.out⟩
  refine wl_y rfl HF rfl rfl (yl_indexAddr (e := 3) (i := dn3) (size := 1) rfl (HF.ev rfl) (HF.ev rfl) (by kernel_rfl) rfl (by omega)) ?_; clear HF a; intro a HF
  refine wl_y rfl HF rfl rfl (yl_load (v := .int .i64 (([(0 : Int), (1152921504606846975 : Int), (-1 : Int)]).getD dn3 0)) rfl (HF.ev rfl) (HS.out.elem1 encI_len 1 rfl (get_getD (xs := [(0 : Int), (1152921504606846975 : Int), (-1 : Int)]) (j := dn3) (d := 0) (by omega)) rfl) (by kernel_rfl)) ?_; clear HF a; intro a HF
  refine wl_as HF rfl rfl rfl rfl rfl ?_; clear HF a; intro a HF
  refine wl_ne ?_
  refine wp_ret ?_
  refine ex_block_ret ?_
  refine ex_then_ret ?_
  refine bp_ret1 HF Try.results133 (HF.res rfl) ?_
  replace HS : Bx (St w0 (rdA rb ab n cb (B + 1 + 1) :: rowA encI 1 3 (.slice (some ⟨b2, 0, none⟩) 3 3) ([(0 : Int), (1152921504606846975 : Int), (-1 : Int)]) :: F) _) := ⟨(HS.out).pick 0 rfl⟩
  replace HS : Bx (St w0 (rdA rb ab n cb (B + 5) :: rowA encI 1 3 (.slice (some ⟨b2, 0, none⟩) 3 3) ([(0 : Int), (1152921504606846975 : Int), (-1 : Int)]) :: F) _) := ⟨HS.out.rdLe (by omega)⟩
  exact ⟨_, rfl, (HS.out.erase 1)⟩
 ·clear HF; have HF := HF1; clear HF1
  have dcc1 := ne_of_beq_false cc1
  refine wc_false HF rfl ?_
  refine wp_sr ?_
  refine wl_y rfl HF rfl rfl (yl_eqlI rfl (HF.ev rfl) (HF.ev rfl)) ?_; clear HF a; intro a HF
  refine wl_as HF rfl rfl rfl rfl rfl ?_; clear HF a; intro a HF
  refine wl_ne ?_
  refine HF.cases 12 rfl (fun cc2 HF1 => ?_) (fun cc2 HF1 => ?_)
  ·clear HF; have HF := HF1; clear HF1
   have dcc2 := eq_of_beq cc2
   refine wc_true HF rfl ?_
   refine wp_sr ?_
   refine wl_mv HF rfl rfl rfl rfl rfl ?_; clear HF a; intro a HF
   replace HS : Bx (St w0 (rdA rb ab n cb (B + 1) :: F) _) := ⟨(HS.out).pick 0 rfl⟩
   refine wl_call rfl HF rfl (enter_of Try.func110 (by kernel_rfl) rfl) (args := #[.pointer (some ⟨rb, 0, none⟩), .int .i64 12]) rfl (pickN w0 _ rb ab n cb bs hn hR (B + 1) (by omega) 12 (by omega) _ HS.out) rfl rfl ?_
   rintro _ w4 ⟨dn4, rfl, hu4, hs1⟩
   refine ⟨_, rfl, ?_⟩; replace HS := Bx.mk hs1; clear hs1 HF; clear a; intro a HF
   replace HS : Bx (St w0 (rdA rb ab n cb (B + 1 + 1) :: F) _) := ⟨HS.out⟩
   refine wl_y rfl HF rfl rfl (yl_shlI rfl (HF.ev rfl) (HF.ev rfl) (by omega)) ?_; clear HF a; intro a HF
   refine wl_as HF rfl rfl rfl rfl rfl ?_; clear HF a; intro a HF
   refine wl_ne ?_
   refine wp_ret ?_
   refine ex_block_ret ?_
   refine ex_then_ret ?_
   refine bp_ret1 HF Try.results133 (HF.res rfl) ?_
   replace HS : Bx (St w0 (rdA rb ab n cb (B + 1 + 1) :: F) _) := ⟨(HS.out).pick 0 rfl⟩
   replace HS : Bx (St w0 (rdA rb ab n cb (B + 5) :: F) _) := ⟨HS.out.rdLe (by omega)⟩
   exact ⟨_, rfl, HS.out⟩
  ·clear HF; have HF := HF1; clear HF1
   have dcc2 := ne_of_beq_false cc2
   refine wc_false HF rfl ?_
   refine wp_skip ?_
   refine ex_block ?_
   refine ex_then ?_
   refine wp_sr ?_
   refine wl_mv HF rfl rfl rfl rfl rfl ?_; clear HF a; intro a HF
   replace HS : Bx (St w0 (rdA rb ab n cb (B + 1) :: F) _) := ⟨(HS.out).pick 0 rfl⟩
   refine wl_call rfl HF rfl (enter_of Try.func110 (by kernel_rfl) rfl) (args := #[.pointer (some ⟨rb, 0, none⟩), .int .i64 256]) rfl (pickN w0 _ rb ab n cb bs hn hR (B + 1) (by omega) 256 (by omega) _ HS.out) rfl rfl ?_
   rintro _ w5 ⟨dn5, rfl, hu5, hs1⟩
   refine ⟨_, rfl, ?_⟩; replace HS := Bx.mk hs1; clear hs1 HF; clear a; intro a HF
   replace HS : Bx (St w0 (rdA rb ab n cb (B + 1 + 1) :: F) _) := ⟨HS.out⟩
   refine wl_mv HF rfl rfl rfl rfl rfl ?_; clear HF a; intro a HF
   replace HS : Bx (St w0 (rdA rb ab n cb (B + 1 + 1) :: F) _) := ⟨(HS.out).pick 0 rfl⟩
   refine wl_call rfl HF rfl (enter_of Try.func110 (by kernel_rfl) rfl) (args := #[.pointer (some ⟨rb, 0, none⟩), .int .i64 256]) rfl (pickN w0 _ rb ab n cb bs hn hR (B + 1 + 1) (by omega) 256 (by omega) _ HS.out) rfl rfl ?_
   rintro _ w6 ⟨dn6, rfl, hu6, hs1⟩
   refine ⟨_, rfl, ?_⟩; replace HS := Bx.mk hs1; clear hs1 HF; clear a; intro a HF
   replace HS : Bx (St w0 (rdA rb ab n cb (B + 1 + 1 + 1) :: F) _) := ⟨HS.out⟩
   refine wl_y rfl HF rfl rfl (yl_mulI rfl (HF.ev rfl) (HF.ev rfl) (i64w (by omega))) ?_; clear HF a; intro a HF
   refine wl_y rfl HF rfl rfl (yl_addI rfl (HF.ev rfl) (HF.ev rfl) (i64w (by omega))) ?_; clear HF a; intro a HF
   refine wl_as HF rfl rfl rfl rfl rfl ?_; clear HF a; intro a HF
   refine wl_ne ?_
   refine wp_ret ?_
   refine bp_ret1 HF Try.results133 (HF.res rfl) ?_
   replace HS : Bx (St w0 (rdA rb ab n cb (B + 1 + 1 + 1) :: F) _) := ⟨(HS.out).pick 0 rfl⟩
   replace HS : Bx (St w0 (rdA rb ab n cb (B + 5) :: F) _) := ⟨HS.out.rdLe (by omega)⟩
   exact ⟨_, rfl, HS.out⟩

theorem l91Three_any (w0 w : World) (rb : Nat) (ab : Option Addr) (n cb : Nat) (bs : List UInt8) (hn : n ≤ 2000) (hR : Rd encB 1 w0 ab n bs) (B : Nat) (hB : B ≤ 700000) (b : Bool) (F : List Asr) (hS : St w0 (rdA rb ab n cb B :: F) w) : Calls Try.prog 74 #[.pointer (some ⟨rb, 0, none⟩), .bool b] w fun e w' => ∃ (ao : Option Addr) (n1 c1 : Nat) (xs : List Int), e = .returned (.slice ao n1 c1) ∧ n1 ≤ 3 ∧ St w0 (rdA rb ab n cb (B + 40) :: holdsA (fun w => Rd encI 1 w ao n1 xs) :: F) w' := by
 have HS := Bx.mk hS; clear hS
 refine wc_enter Try.func74 rfl Try.ntmps74 [(0, .pointer (some ⟨rb, 0, none⟩)), (1, .bool b)] ⟨rfl, rfl, trivial⟩ rfl ?_; intro a HF
 refine wp_sr ?_
 refine wl_as HF rfl rfl rfl rfl rfl ?_; clear HF a; intro a HF
 refine wl_ne ?_
 refine wp_sr ?_
 refine wl_empty (e := 3) (size := 1) rfl HF rfl rfl rfl (by kernel_rfl) HS.out ?_; clear HF HS a; intro a w1 b1 HF HS; replace HS := Bx.mk HS
 refine wl_as HF rfl rfl rfl rfl rfl ?_; clear HF a; intro a HF
 refine wl_ne ?_
 refine wp_seq ?_
 refine wp_sr ?_
 refine wl_as HF rfl rfl rfl rfl rfl ?_; clear HF a; intro a HF
 refine wl_ne ?_
 refine wp_block ?_
 replace HS : Bx (St w0 (rdA rb ab n cb B :: F) _) := ⟨(HS.out).pick 0 rfl⟩
 replace HS : Bx (St w0 (rdA rb ab n cb (B + 10 * 0) :: F) _) := ⟨HS.out.rdLe (by omega)⟩
 replace HS := Bx.mk (HS.out.nilRow encI 1 3 (some ⟨b1, 0, none⟩))
 refine wc_loop (ι := Nat) (fun k a w => ∃ (ao : Option Addr) (cp : Nat) (xs : List Int), (k ≤ 3 ∧ xs.length = k) ∧ Fr 30 a [(0, .pointer (some ⟨rb, 0, none⟩)), (1, .bool b), (4, .slice none 0 0), (5, .slice ao xs.length cp), (6, .int .i64 (k : Int))] ∧ St w0 (rowA encI 1 3 (.slice ao xs.length cp) xs :: rdA rb ab n cb (B + 10 * k) :: F) w) (fun k => 3 - k) 0 ⟨_, _, [], ⟨Nat.zero_le _, rfl⟩, HF.less _ ⟨rfl, rfl, rfl, rfl, rfl, trivial⟩, HS.out⟩ ?_
 clear HF HS; clear a
 rintro k a w2 ⟨ao, cp, xs, ⟨hk, hxl⟩, HF, HS⟩
 replace HS := Bx.mk HS
 refine wp_seq ?_
 refine wp_sr ?_
 refine wl_mv HF rfl rfl rfl rfl rfl ?_; clear HF a; intro a HF
 refine wl_y rfl HF rfl rfl (yl_lssI rfl (HF.ev rfl) (HF.ev rfl)) ?_; clear HF a; intro a HF
 refine wl_ne ?_
 refine HF.cases 9 rfl (fun cc1 HF1 => ?_) (fun cc1 HF1 => ?_)
 ·clear HF; have HF := HF1; clear HF1
  have dcc1 := of_decide_eq_true cc1
  refine wc_true HF rfl ?_
  refine wp_skip ?_
  refine ex_then ?_
  refine wp_seq ?_
  refine wp_block ?_
  refine wp_sr ?_
  refine wl_mv HF rfl rfl rfl rfl rfl ?_; clear HF a; intro a HF
  refine wl_ne ?_
  refine HF.cases 12 rfl (fun cc2 HF1 => ?_) (fun cc2 HF1 => ?_)
  ·clear HF; have HF := HF1; clear HF1
   refine wc_true HF rfl ?_
   refine wp_region_lit ?_
   refine wl_mv HF rfl rfl rfl rfl rfl ?_; clear HF a; intro a HF
   refine wl_mv HF rfl rfl rfl rfl rfl ?_; clear HF a; intro a HF
   replace HS : Bx (St w0 (rdA rb ab n cb (B + 10 * k) :: rowA encI 1 3 (.slice ao xs.length cp) xs :: F) _) := ⟨(HS.out).pick 1 rfl⟩
   refine wl_call rfl HF rfl (enter_of Try.func110 (by kernel_rfl) rfl) (args := #[.pointer (some ⟨rb, 0, none⟩), .int .i64 9]) rfl (pickN w0 _ rb ab n cb bs hn hR (B + 10 * k) (by omega) 9 (by omega) _ HS.out) rfl rfl ?_
   rintro _ w3 ⟨dn2, rfl, hu2, hs1⟩
   refine ⟨_, rfl, ?_⟩; replace HS := Bx.mk hs1; clear hs1 HF; clear a; intro a HF
   replace HS : Bx (St w0 (rdA rb ab n cb (B + 10 * k + 1) :: rowA encI 1 3 (.slice ao xs.length cp) xs :: F) _) := ⟨HS.out⟩
   refine wl_y rfl HF rfl rfl (yl_subI rfl (HF.ev rfl) (HF.ev rfl) (i64w (by omega))) ?_; clear HF a; intro a HF
   refine wl_buildS (enc := encI) (e := 3) (size := 1) rfl HF rfl rfl rfl (ps := [(0, .int .i64 ((dn2 : Int) - 2))]) rfl (cells := [.int .i64 ((dn2 : Int) - 2)]) (by kernel_rfl) [(dn2 : Int) - 2] rfl rfl (by unfold maxLen; omega) rfl HS.out ?_; clear HF HS a; intro b3 a w4 HF HS; replace HS := Bx.mk HS
   refine wl_appL rfl HF rfl rfl rfl (HF.ev rfl) (HF.ev rfl) elemI encI_len HS.out 2 (xs := xs) rfl (ys := [(dn2 : Int) - 2]) (St.rdN HS.out encI_len 0 rfl) (cells_one_I _) (by unfold maxLen; simp only [List.length_cons, List.length_nil]; omega) (by simp only [List.length_cons, List.length_nil]; omega) ?_; clear HF HS a; intro ao4 cp5 w5 a HF HS; replace HS := Bx.mk HS
   replace HS : Bx (St w0 (rowA encI 1 3 (.slice (some ⟨b3, 0, none⟩) 1 1) ([(dn2 : Int) - 2]) :: rdA rb ab n cb (B + 10 * k + 1) :: rowA encI 1 3 (.slice ao4 (xs.length + ([(dn2 : Int) - 2]).length) cp5) (xs ++ ([(dn2 : Int) - 2])) :: F) _) := ⟨HS.out⟩
   refine wl_as HF rfl rfl rfl rfl rfl ?_; clear HF a; intro a HF
   refine wpList_nil ?_
   refine ex_block ?_
   refine ex_then ?_
   refine wp_region_lit ?_
   refine wl_mv HF rfl rfl rfl rfl rfl ?_; clear HF a; intro a HF
   refine wl_y rfl HF rfl rfl (yl_addI rfl (HF.ev rfl) (HF.ev rfl) (i64w (by omega))) ?_; clear HF a; intro a HF
   refine wl_as HF rfl rfl rfl rfl rfl ?_; clear HF a; intro a HF
   refine wl_ne ?_
   replace HS : Bx (St w0 (rdA rb ab n cb (B + 10 * k + 1) :: rowA encI 1 3 (.slice (some ⟨b3, 0, none⟩) 1 1) ([(dn2 : Int) - 2]) :: rowA encI 1 3 (.slice ao4 (xs.length + ([(dn2 : Int) - 2]).length) cp5) (xs ++ ([(dn2 : Int) - 2])) :: F) _) := ⟨(HS.out).pick 1 rfl⟩
   replace HS : Bx (St w0 (rdA rb ab n cb (B + 10 * (k + 1)) :: rowA encI 1 3 (.slice (some ⟨b3, 0, none⟩) 1 1) ([(dn2 : Int) - 2]) :: rowA encI 1 3 (.slice ao4 (xs.length + ([(dn2 : Int) - 2]).length) cp5) (xs ++ ([(dn2 : Int) - 2])) :: F) _) := ⟨HS.out.rdLe (by omega)⟩
   have hz : xs.length + ([(dn2 : Int) - 2]).length = (xs ++ ([(dn2 : Int) - 2])).length := (List.length_append ..).symm; rw [hz] at HS HF; have hz1 : (xs ++ ([(dn2 : Int) - 2])).length = xs.length + 1 := by rw [List.length_append]; rfl
   replace HS : Bx (St w0 (rowA encI 1 3 (.slice ao4 ((xs ++ ([(dn2 : Int) - 2])).length) cp5) (xs ++ ([(dn2 : Int) - 2])) :: rdA rb ab n cb (B + 10 * (k + 1)) :: rowA encI 1 3 (.slice (some ⟨b3, 0, none⟩) 1 1) ([(dn2 : Int) - 2]) :: F) _) := ⟨((HS.out).pick 0 rfl).pick 2 rfl⟩
   exact ⟨k + 1, ⟨_, _, xs ++ ([(dn2 : Int) - 2]), ⟨by omega, by omega⟩, HF.less _ ⟨rfl, rfl, rfl, rfl, rfl, trivial⟩, (HS.out.erase 2)⟩, (by omega)⟩
  ·clear HF; have HF := HF1; clear HF1
   refine wc_false HF rfl ?_
   refine wp_region_lit ?_
   refine wl_mv HF rfl rfl rfl rfl rfl ?_; clear HF a; intro a HF
   refine wl_mv HF rfl rfl rfl rfl rfl ?_; clear HF a; intro a HF
   replace HS : Bx (St w0 (rdA rb ab n cb (B + 10 * k) :: rowA encI 1 3 (.slice ao xs.length cp) xs :: F) _) := ⟨(HS.out).pick 1 rfl⟩
   refine wl_call rfl HF rfl (enter_of Try.func133 (by kernel_rfl) rfl) (args := #[.pointer (some ⟨rb, 0, none⟩)]) rfl (l91Mask_any w0 _ rb ab n cb bs hn hR (B + 10 * k) (by omega) _ HS.out) rfl rfl ?_
   rintro _ w6 ⟨di6, rfl, hs1⟩
   refine ⟨_, rfl, ?_⟩; replace HS := Bx.mk hs1; clear hs1 HF; clear a; intro a HF
   replace HS : Bx (St w0 (rdA rb ab n cb (B + 10 * k + 5) :: rowA encI 1 3 (.slice ao xs.length cp) xs :: F) _) := ⟨HS.out⟩
   refine wl_buildS (enc := encI) (e := 3) (size := 1) rfl HF rfl rfl rfl (ps := [(0, .int .i64 di6)]) rfl (cells := [.int .i64 di6]) (by kernel_rfl) [di6] rfl rfl (by unfold maxLen; omega) rfl HS.out ?_; clear HF HS a; intro b7 a w7 HF HS; replace HS := Bx.mk HS
   refine wl_appL rfl HF rfl rfl rfl (HF.ev rfl) (HF.ev rfl) elemI encI_len HS.out 2 (xs := xs) rfl (ys := [di6]) (St.rdN HS.out encI_len 0 rfl) (cells_one_I _) (by unfold maxLen; simp only [List.length_cons, List.length_nil]; omega) (by simp only [List.length_cons, List.length_nil]; omega) ?_; clear HF HS a; intro ao8 cp9 w8 a HF HS; replace HS := Bx.mk HS
   replace HS : Bx (St w0 (rowA encI 1 3 (.slice (some ⟨b7, 0, none⟩) 1 1) ([di6]) :: rdA rb ab n cb (B + 10 * k + 5) :: rowA encI 1 3 (.slice ao8 (xs.length + ([di6]).length) cp9) (xs ++ ([di6])) :: F) _) := ⟨HS.out⟩
   refine wl_as HF rfl rfl rfl rfl rfl ?_; clear HF a; intro a HF
   refine wpList_nil ?_
   refine ex_block ?_
   refine ex_then ?_
   refine wp_region_lit ?_
   refine wl_mv HF rfl rfl rfl rfl rfl ?_; clear HF a; intro a HF
   refine wl_y rfl HF rfl rfl (yl_addI rfl (HF.ev rfl) (HF.ev rfl) (i64w (by omega))) ?_; clear HF a; intro a HF
   refine wl_as HF rfl rfl rfl rfl rfl ?_; clear HF a; intro a HF
   refine wl_ne ?_
   replace HS : Bx (St w0 (rdA rb ab n cb (B + 10 * k + 5) :: rowA encI 1 3 (.slice (some ⟨b7, 0, none⟩) 1 1) ([di6]) :: rowA encI 1 3 (.slice ao8 (xs.length + ([di6]).length) cp9) (xs ++ ([di6])) :: F) _) := ⟨(HS.out).pick 1 rfl⟩
   replace HS : Bx (St w0 (rdA rb ab n cb (B + 10 * (k + 1)) :: rowA encI 1 3 (.slice (some ⟨b7, 0, none⟩) 1 1) ([di6]) :: rowA encI 1 3 (.slice ao8 (xs.length + ([di6]).length) cp9) (xs ++ ([di6])) :: F) _) := ⟨HS.out.rdLe (by omega)⟩
   have hz : xs.length + ([di6]).length = (xs ++ ([di6])).length := (List.length_append ..).symm; rw [hz] at HS HF; have hz1 : (xs ++ ([di6])).length = xs.length + 1 := by rw [List.length_append]; rfl
   replace HS : Bx (St w0 (rowA encI 1 3 (.slice ao8 ((xs ++ ([di6])).length) cp9) (xs ++ ([di6])) :: rdA rb ab n cb (B + 10 * (k + 1)) :: rowA encI 1 3 (.slice (some ⟨b7, 0, none⟩) 1 1) ([di6]) :: F) _) := ⟨((HS.out).pick 0 rfl).pick 2 rfl⟩
   exact ⟨k + 1, ⟨_, _, xs ++ ([di6]), ⟨by omega, by omega⟩, HF.less _ ⟨rfl, rfl, rfl, rfl, rfl, trivial⟩, (HS.out.erase 2)⟩, (by omega)⟩
 ·clear HF; have HF := HF1; clear HF1
  have dcc1 := of_decide_eq_false cc1
  refine wc_false HF rfl ?_
  refine wp_exit ?_
  refine ex_then_exit ?_
  refine ex_then_exit ?_
  refine ex_block_hit ?_
  refine ex_then ?_
  refine wp_seq ?_
  refine wp_sr ?_
  refine wl_mv HF rfl rfl rfl rfl rfl ?_; clear HF a; intro a HF
  replace HS : Bx (St w0 (rdA rb ab n cb (B + 10 * k) :: rowA encI 1 3 (.slice ao xs.length cp) xs :: F) _) := ⟨(HS.out).pick 1 rfl⟩
  refine wl_call rfl HF rfl (enter_of Try.func110 (by kernel_rfl) rfl) (args := #[.pointer (some ⟨rb, 0, none⟩), .int .i64 30]) rfl (pickN w0 _ rb ab n cb bs hn hR (B + 10 * k) (by omega) 30 (by omega) _ HS.out) rfl rfl ?_
  rintro _ w9 ⟨dn10, rfl, hu10, hs1⟩
  refine ⟨_, rfl, ?_⟩; replace HS := Bx.mk hs1; clear hs1 HF; clear a; intro a HF
  replace HS : Bx (St w0 (rdA rb ab n cb (B + 10 * k + 1) :: rowA encI 1 3 (.slice ao xs.length cp) xs :: F) _) := ⟨HS.out⟩
  refine wl_y rfl HF rfl rfl (yl_eqlI rfl (HF.ev rfl) (HF.ev rfl)) ?_; clear HF a; intro a HF
  refine wl_ne ?_
  refine HF.cases 26 rfl (fun cc3 HF1 => ?_) (fun cc3 HF1 => ?_)
  ·clear HF; have HF := HF1; clear HF1
   have dcc3 := eq_of_beq cc3
   refine wc_true HF rfl ?_
   refine wp_seq ?_
   obtain ⟨g11, rfl, _, _, _, _⟩ := HS.out.rowOpen 1 rfl (by omega)
   refine wp_region_lit ?_
   refine wl_mv HF rfl rfl rfl rfl rfl ?_; clear HF a; intro a HF
   refine wl_y rfl HF rfl rfl (yl_sliceLo (e := 3) (size := 1) (k := 1) rfl (HF.ev rfl) (HF.ev rfl) (by kernel_rfl) (by omega) (by omega) (Nat.lt_of_lt_of_le (by omega) (St.capLe HS.out 1 rfl))) ?_; clear HF a; intro a HF
   refine wl_as HF rfl rfl rfl rfl rfl ?_; clear HF a; intro a HF
   refine wl_ne ?_
   refine wp_ret ?_
   refine ex_then_ret ?_
   refine bp_ret1 HF Try.results74 (HF.res rfl) ?_
   replace HS : Bx (St w0 (rdA rb ab n cb (B + 10 * k + 1) :: rowA encI 1 3 (.slice (some ⟨g11, 0, none⟩) xs.length cp) xs :: F) _) := ⟨(HS.out).pick 0 rfl⟩
   replace HS : Bx (St w0 (rdA rb ab n cb (B + 40) :: rowA encI 1 3 (.slice (some ⟨g11, 0, none⟩) xs.length cp) xs :: F) _) := ⟨HS.out.rdLe (by omega)⟩
   replace HS : Bx (St w0 (rdA rb ab n cb (B + 40) :: rowA encI 1 3 (.slice (some ⟨g11, 0, none⟩) xs.length cp) xs :: F) _) := ⟨((HS.out).pick 1 rfl).pick 1 rfl⟩
   have HT := (HS.out.swap.hold (P := fun w => Rd encI 1 w (some ⟨g11, 0 + 1 * 1, none⟩) (xs.length - 1) (xs.drop 1)) (fun w f h => (row_reads encI_len h).drop (k := 1) (by omega))).swap
   exact ⟨_, _, _, xs.drop 1, rfl, by omega, HT⟩
  ·clear HF; have HF := HF1; clear HF1
   have dcc3 := ne_of_beq_false cc3
   refine wc_false HF rfl ?_
   refine wp_skip ?_
   refine ex_then ?_
   refine wp_sr ?_
   refine wl_mv HF rfl rfl rfl rfl rfl ?_; clear HF a; intro a HF
   refine wl_as HF rfl rfl rfl rfl rfl ?_; clear HF a; intro a HF
   refine wl_ne ?_
   refine wp_ret ?_
   refine bp_ret1 HF Try.results74 (HF.res rfl) ?_
   replace HS : Bx (St w0 (rdA rb ab n cb (B + 10 * k + 1) :: rowA encI 1 3 (.slice ao xs.length cp) xs :: F) _) := ⟨(HS.out).pick 0 rfl⟩
   replace HS : Bx (St w0 (rdA rb ab n cb (B + 40) :: rowA encI 1 3 (.slice ao xs.length cp) xs :: F) _) := ⟨HS.out.rdLe (by omega)⟩
   replace HS : Bx (St w0 (rdA rb ab n cb (B + 40) :: rowA encI 1 3 (.slice ao xs.length cp) xs :: F) _) := ⟨((HS.out).pick 1 rfl).pick 1 rfl⟩
   have HT := (HS.out.swap.hold (P := fun w => Rd encI 1 w ao xs.length xs) (fun w f h => row_reads encI_len h)).swap
   exact ⟨_, _, _, xs, rfl, by omega, HT⟩

theorem drawRaidCrash_any (w0 : World) (ab : Option Addr) (n0 cb : Nat) (bs0 : List UInt8) (hcap : n0 ≤ cb) (hn0 : n0 ≤ 1048576) (hR0 : Rd encB 1 w0 ab n0 bs0) : Calls Try.prog 22 #[.slice ab n0 cb] w0 fun e w' => ∃ (ao : Option Addr) (co : Nat) (ps : List HD) (a1 : Option Addr) (n1 c1 : Nat) (xs : List Int) (a2 : Option Addr) (n2 c2 : Nat) (ys : List Int), e = .returned (.tuple #[.agg #[.slice ao ps.length co], .slice a1 n1 c1, .slice a2 n2 c2]) ∧ n1 ≤ 3 ∧ n2 ≤ 3 ∧ St w0 [holdsA (fun w => Rd encI 1 w a1 n1 xs), holdsA (fun w => Rd encI 1 w a2 n2 ys)] w' := by
 have HS := Bx.mk (St.start w0)
 refine wc_enter Try.func22 rfl Try.ntmps22 [(0, .slice ab n0 cb)] ⟨rfl, trivial⟩ rfl ?_; intro a HF
 refine wp_sr ?_
 refine wl_alloc rfl HF rfl rfl rfl (Z := [.slice none 0 0]) (by kernel_rfl) rfl HS.out ?_; clear HF HS a; intro a w1 b1 HF HS; replace HS := Bx.mk HS
 refine wl_as HF rfl rfl rfl rfl rfl ?_; clear HF a; intro a HF
 refine wl_as HF rfl rfl rfl rfl rfl ?_; clear HF a; intro a HF
 refine wl_ne ?_
 refine wp_sr ?_
 refine wl_mv HF rfl rfl rfl rfl rfl ?_; clear HF a; intro a HF
 refine wl_call rfl HF rfl (enter_of Try.func40 (by kernel_rfl) rfl) (args := #[.slice ab n0 cb]) rfl (l6Open_any _ ab n0 cb hcap hn0) rfl rfl ?_
 rintro _ w2 ⟨rb, n, rfl, hn, hnn, hs⟩
 obtain ⟨bs, hR⟩ : ∃ bs, Rd encB 1 w0 ab n bs := ⟨_, hR0.take (k := n) (by rw [hR0.len]; exact hnn)⟩
 refine ⟨_, rfl, ?_⟩; replace HS := Bx.mk (HS.out.add hs); clear hs HF; clear a; intro a HF
 replace HS : Bx (St w0 ([rdA rb ab n cb 0, boxA b1 1 25 (.agg #[.slice none 0 0])]) _) := ⟨HS.out⟩
 refine wl_as HF rfl rfl rfl rfl rfl ?_; clear HF a; intro a HF
 refine wl_ne ?_
 refine wp_sr ?_
 refine wl_mv HF rfl rfl rfl rfl rfl ?_; clear HF a; intro a HF
 replace HS : Bx (St w0 ([rdA rb ab n cb 0, boxA b1 1 25 (.agg #[.slice none 0 0])]) _) := ⟨(HS.out).pick 0 rfl⟩
 refine wl_call rfl HF rfl (enter_of Try.func41 (by kernel_rfl) rfl) (args := #[.pointer (some ⟨rb, 0, none⟩)]) rfl (l91Raid_any w0 _ rb ab n cb bs hn hR 0 (by omega) _ HS.out) rfl rfl ?_
 rintro _ w3 ⟨ao, co, ps, ap, cu, us, rfl, hpl, hpf, hul, hs1⟩
 refine ⟨_, rfl, ?_⟩; replace HS := Bx.mk hs1; clear hs1 HF; clear a; intro a HF
 replace HS : Bx (St w0 ([rdA rb ab n cb (0 + 2000), holdsA (rdsP ao ps), rowA PtrD.cells 5 33 (.slice ap us.length cu) us, boxA b1 1 25 (.agg #[.slice none 0 0])]) _) := ⟨HS.out⟩
 refine wl_mv HF rfl rfl rfl rfl rfl ?_; clear HF a; intro a HF
 refine wl_y rfl HF rfl rfl (yl_extract rfl (HF.ev rfl) rfl) ?_; clear HF a; intro a HF
 refine wl_y rfl HF rfl rfl (yl_extract rfl (HF.ev rfl) rfl) ?_; clear HF a; intro a HF
 refine wl_alloc rfl HF rfl rfl rfl (Z := [.slice none 0 0]) (by kernel_rfl) rfl HS.out ?_; clear HF HS a; intro a w4 b2 HF HS; replace HS := Bx.mk HS
 refine wl_storeBox rfl HF rfl rfl (HF.ev rfl) (HF.ev rfl) HS.out 0 rfl (cells_lit [.slice ao ps.length co] rfl rfl) (by kernel_rfl) ?_; clear HS; intro w5 HS; replace HS := Bx.mk HS
 have HS : Bx (St w0 ([boxA b2 1 25 (.agg #[.slice ao ps.length co]), rdA rb ab n cb (0 + 2000), holdsA (rdsP ao ps), rowA PtrD.cells 5 33 (.slice ap us.length cu) us, boxA b1 1 25 (.agg #[.slice none 0 0])]) _) := HS
 refine wl_as HF rfl rfl rfl rfl rfl ?_; clear HF a; intro a HF
 refine wl_ne ?_
 refine wp_seq ?_
 refine wr_marked (W := w0) (s := [boxA b2 1 25 (.agg #[.slice ao ps.length co]), holdsA (rdsP ao ps), rowA PtrD.cells 5 33 (.slice ap us.length cu) us, boxA b1 1 25 (.agg #[.slice none 0 0])]) 5 (by kernel_rfl) ?_
 have HS2 := Bx.mk HS.out.drew; replace HS := Bx.mk (show St w0 ([boxA b2 1 25 (.agg #[.slice ao ps.length co]), holdsA (rdsP ao ps), rowA PtrD.cells 5 33 (.slice ap us.length cu) us, boxA b1 1 25 (.agg #[.slice none 0 0])]) _ from (HS.out.drew.erase 1)); generalize World.drew _ = w6 at HS HS2 ⊢
 refine wm_y 0 rfl (by kernel_rfl) (by kernel_rfl) (by kernel_rfl) (fun _ _ _ h => h) (by decide) (by kernel_rfl) (by kernel_rfl) rfl HF rfl rfl (fun _ HS => (yl_loadR (cs := [.slice ao ps.length co]) rfl (HF.ev rfl) ((HS.box 0 rfl).sub 0 1) (by kernel_rfl))) HS.out ?_; clear HF a; intro a HF
 refine wm_t 1 rfl (by kernel_rfl) (by kernel_rfl) (by kernel_rfl) (fun _ _ _ h => h) (by decide) rfl HF rfl rfl (fun _ _ => (yl_move rfl (HF.ev rfl))) (fun _ => HS.out) ?_; clear HF a; intro a HF
 refine wm_t 3 rfl (by kernel_rfl) (by kernel_rfl) (by kernel_rfl) (fun _ _ _ h => h) (by decide) rfl HF rfl rfl (fun _ _ => (yl_move rfl (HF.ev rfl))) (fun _ => HS.out) ?_; clear HF a; intro a HF
 refine wm_one 2 (by kernel_rfl) ?_
 replace HS2 : Bx (St w0 ([rdA rb ab n cb (0 + 2000), boxA b2 1 25 (.agg #[.slice ao ps.length co]), holdsA (rdsP ao ps), rowA PtrD.cells 5 33 (.slice ap us.length cu) us, boxA b1 1 25 (.agg #[.slice none 0 0])]) _) := ⟨(HS2.out).pick 1 rfl⟩
 refine wo_call rfl rfl HF rfl (enter_of Try.func74 (by kernel_rfl) rfl) (args := #[.pointer (some ⟨rb, 0, none⟩), .bool false]) rfl (l91Three_any w0 _ rb ab n cb bs hn hR (0 + 2000) (by omega) false _ HS2.out) rfl rfl ?_
 rintro _ w7 ⟨ax3, nx3, cx3, lx3, rfl, hx3, hs1⟩
 refine ⟨_, rfl, ?_⟩; replace HS2 := Bx.mk hs1; clear hs1 HF; clear a; intro a HF
 replace HS2 : Bx (St w0 ([rdA rb ab n cb (0 + 2000 + 40), holdsA (fun w => Rd encI 1 w ax3 nx3 lx3), boxA b2 1 25 (.agg #[.slice ao ps.length co]), holdsA (rdsP ao ps), rowA PtrD.cells 5 33 (.slice ap us.length cu) us, boxA b1 1 25 (.agg #[.slice none 0 0])]) _) := ⟨HS2.out⟩
 clear HS; have HS : Bx (St w0 ([boxA b2 1 25 (.agg #[.slice ao ps.length co]), holdsA (rdsP ao ps), rowA PtrD.cells 5 33 (.slice ap us.length cu) us, boxA b1 1 25 (.agg #[.slice none 0 0])]) _) := ⟨((HS2.out.erase 1).erase 0)⟩
 refine ⟨fun _ => HS.out, ?_⟩
 refine wm_one 4 (by kernel_rfl) ?_
 replace HS2 : Bx (St w0 ([rdA rb ab n cb (0 + 2000 + 40), holdsA (fun w => Rd encI 1 w ax3 nx3 lx3), boxA b2 1 25 (.agg #[.slice ao ps.length co]), holdsA (rdsP ao ps), rowA PtrD.cells 5 33 (.slice ap us.length cu) us, boxA b1 1 25 (.agg #[.slice none 0 0])]) _) := ⟨(HS2.out).pick 0 rfl⟩
 refine wo_call rfl rfl HF rfl (enter_of Try.func74 (by kernel_rfl) rfl) (args := #[.pointer (some ⟨rb, 0, none⟩), .bool true]) rfl (l91Three_any w0 _ rb ab n cb bs hn hR (0 + 2000 + 40) (by omega) true _ HS2.out) rfl rfl ?_
 rintro _ w8 ⟨ax4, nx4, cx4, lx4, rfl, hx4, hs1⟩
 refine ⟨_, rfl, ?_⟩; replace HS2 := Bx.mk hs1; clear hs1 HF; clear a; intro a HF
 replace HS2 : Bx (St w0 ([rdA rb ab n cb (0 + 2000 + 40 + 40), holdsA (fun w => Rd encI 1 w ax4 nx4 lx4), holdsA (fun w => Rd encI 1 w ax3 nx3 lx3), boxA b2 1 25 (.agg #[.slice ao ps.length co]), holdsA (rdsP ao ps), rowA PtrD.cells 5 33 (.slice ap us.length cu) us, boxA b1 1 25 (.agg #[.slice none 0 0])]) _) := ⟨HS2.out⟩
 clear HS; have HS : Bx (St w0 ([boxA b2 1 25 (.agg #[.slice ao ps.length co]), holdsA (rdsP ao ps), rowA PtrD.cells 5 33 (.slice ap us.length cu) us, boxA b1 1 25 (.agg #[.slice none 0 0])]) _) := ⟨(((HS2.out.erase 2).erase 1).erase 0)⟩
 refine ⟨fun _ => HS.out, ?_⟩
 refine wm_one 5 (by kernel_rfl) ?_
 refine wo_storeBox rfl rfl rfl rfl (HF.ev rfl) (HF.ev rfl) HS2.out 6 rfl (cells_lit [.slice ao ps.length co] rfl rfl) (by kernel_rfl) ?_
 clear HS2; intro w9 HS2; replace HS2 : Bx (St w0 ([rdA rb ab n cb (0 + 2000 + 40 + 40), holdsA (fun w => Rd encI 1 w ax4 nx4 lx4), holdsA (fun w => Rd encI 1 w ax3 nx3 lx3), boxA b2 1 25 (.agg #[.slice ao ps.length co]), holdsA (rdsP ao ps), rowA PtrD.cells 5 33 (.slice ap us.length cu) us, boxA b1 1 25 (.agg #[.slice ao ps.length co])]) _) := ⟨HS2⟩; refine ⟨(fun h => absurd (show true = false from h) (by decide)), ?_⟩
 refine wm_t 6 rfl (by kernel_rfl) (by kernel_rfl) (by kernel_rfl) (fun _ _ _ h => h) (by decide) rfl HF rfl rfl (fun _ _ => (yl_assign rfl (HF.ev rfl))) (fun h => absurd (show true = false from h) (by decide)) ?_; clear HF a; intro a HF
 refine wm_t 7 rfl (by kernel_rfl) (by kernel_rfl) (by kernel_rfl) (fun _ _ _ h => h) (by decide) rfl HF rfl rfl (fun _ _ => (yl_assign rfl (HF.ev rfl))) (fun h => absurd (show true = false from h) (by decide)) ?_; clear HF a; intro a HF
 refine wm_done (by kernel_rfl) ?_
 clear HS; have HS := HS2; clear HS2
 refine ex_then ?_
 refine wp_ret ?_
 refine bp_ret3 HF Try.results22 (HF.resBox rfl (HS.out.box 6 rfl) (by kernel_rfl)) (HF.res rfl) (HF.res rfl) ?_
 replace HS : Bx (St w0 ([holdsA (fun w => Rd encI 1 w ax3 nx3 lx3), holdsA (fun w => Rd encI 1 w ax4 nx4 lx4), rdA rb ab n cb (0 + 2000 + 40 + 40), boxA b2 1 25 (.agg #[.slice ao ps.length co]), holdsA (rdsP ao ps), rowA PtrD.cells 5 33 (.slice ap us.length cu) us, boxA b1 1 25 (.agg #[.slice ao ps.length co])]) _) := ⟨((HS.out).pick 1 rfl).pick 2 rfl⟩
 exact ⟨ao, co, ps, ax3, nx3, cx3, lx3, ax4, nx4, cx4, lx4, rfl, hx3, hx4, (((((HS.out.erase 6).erase 5).erase 4).erase 3).erase 2)⟩

end Go.Proofs.Ytfijfjjleelphaa
