/- A part of the proof in YtfijfjjleelphaaCrashY17. -/
import Derived.ArgAppend
import Derived.BigQuiet
import Derived.BigRegion
import Derived.Deep.AppendLies
import Derived.Deep.MidRow
import Derived.Deep.Quiet
import Derived.Deep.QuietTactic
import Derived.Deep.RegionHeld3
import Derived.Deep.RegionWith
import Derived.IntWalk
import Derived.Laws.BytesArg
import Derived.Lib.Hide
import Derived.Lib.LazyBuf
import Derived.Lib.SlBytesConst
import Derived.LoopIn
import Derived.LoopN
import Derived.LoopNIn
import Derived.Orders
import Derived.OrdersHeld
import Derived.OwnWalkIn
import Derived.RangeFuncLeaves
import Derived.RangeFuncNested
import Derived.Shelf.Abstract
import Derived.Still
import Derived.StillTail
import Derived.StillTailTactics
import Derived.TacticsInMore
import Derived.Test.YtfijfjjleelphaaRows
import Derived.WalkKit
import Derived.WalkLawsBesides
import Derived.WalkSpells
import Derived.Test.YtfijfjjleelphaaCrashY13
/- Writes settled, by the program. -/
namespace Go.Proofs.Ytfijfjjleelphaa
set_option maxHeartbeats 1000000
set_option maxRecDepth 100000
open Go.RowKit

/-- What settling makes of the cells: each waiting write by what a function makes of it and of what lies there. -/
def settleTo (g : Nat → ByteArray → ByteArray) (d : DiskD) : Nat → List ByteArray
  | 0 => d.fCells
  | k + 1 => (settleTo g d k).set (d.fWaits.getD k default).fAt.toNat (g k ((settleTo g d k).getD (d.fWaits.getD k default).fAt.toNat ByteArray.empty))
theorem settleTo_len (g : Nat → ByteArray → ByteArray) (d : DiskD) : ∀ k, (settleTo g d k).length = d.fCells.length
  | 0 => rfl
  | k + 1 => by unfold settleTo; rw [List.length_set, settleTo_len g d k]
theorem settle_flush (d : DiskD) : ∀ k, k ≤ d.fWaits.length → settleTo (fun k _ => (d.fWaits.getD k default).fText) d k = flushTo d k
  | 0, _ => by simp [settleTo, flushTo]
  | k + 1, h => by
    rw [flushTo_step d k (by omega), ← settle_flush d k (by omega)]; rfl

theorem settle_any (w0 w : World) (p : HD) (f : FuncId) (caps : Array Value) (g : Nat → ByteArray → ByteArray) (C F : List Asr) (hf : p.d.fits) (hr : p.reads w0) (hA : ∀ k, k < p.d.fWaits.length → 0 ≤ (p.d.fWaits.getD k default).fAt ∧ (p.d.fWaits.getD k default).fAt < p.d.fCells.length) (HE : ∀ (args : Array Value) (w : World), (callFunc f args).run Try.prog w = .ok (.enter f args) w) (hg : ∀ k, k < p.d.fWaits.length → ∀ (w : World) (X : List Asr), St w0 (C ++ X) w → Calls Try.prog f (#[] ++ #[.int .i64 (k : Int), .agg #[.int .i64 (p.d.fWaits.getD k default).fAt, .string (p.d.fWaits.getD k default).fText], .string ((settleTo g p.d k).getD (p.d.fWaits.getD k default).fAt.toNat ByteArray.empty)] ++ caps) w fun e w' => e = .returned (.string (g k ((settleTo g p.d k).getD (p.d.fWaits.getD k default).fAt.toNat ByteArray.empty))) ∧ St w0 (C ++ X) w') (hS : St w0 (C ++ F) w) : Calls Try.prog 127 #[.agg #[.slice p.a0 p.d.fCells.length p.c0, .slice p.a1 p.d.fWaits.length p.c1, .bool p.d.fGone], .func (.func f) #[] caps] w fun e w' => ∃ q : HD, q.d = ⟨settleTo g p.d p.d.fWaits.length, [], p.d.fGone⟩ ∧ e = .returned (.agg #[.slice q.a0 q.d.fCells.length q.c0, .slice q.a1 q.d.fWaits.length q.c1, .bool q.d.fGone]) ∧ St w0 (q.asr :: (C ++ F)) w' := by
 have hwl := hf.w; have HP := Bx.mk hr; have HG := Bx.mk hg; clear hr hg
 obtain ⟨g0, o0, r0⟩ := HP.out.rw.opn; have RA := Bx.mk r0; clear r0
 have HS := Bx.mk hS; clear hS
 refine wc_enter Try.func127 rfl Try.ntmps127 [(0, .agg #[.slice p.a0 p.d.fCells.length p.c0, .slice p.a1 p.d.fWaits.length p.c1, .bool p.d.fGone]), (1, .func (.func f) #[] caps)] ⟨rfl, rfl, trivial⟩ rfl ?_; intro a HF
 refine wp_sr ?_
 refine wl_box rfl HF rfl (HF.ev rfl) (Z := [.slice p.a0 p.d.fCells.length p.c0, .slice p.a1 p.d.fWaits.length p.c1, .bool p.d.fGone]) rfl rfl rfl rfl HS.out ?_; clear HF HS a; intro a w1 b1 HF HS; replace HS := Bx.mk HS
 refine wl_alloc rfl HF rfl rfl rfl (Z := [.slice none 0 0, .slice none 0 0, .bool false]) (by kernel_rfl) rfl HS.out ?_; clear HF HS a; intro a w2 b2 HF HS; replace HS := Bx.mk HS
 refine wl_ne ?_
 refine wp_seq ?_
 refine wp_join (R := fun a w => ∃ (b5 : Nat) (ao3 : Option Addr) (cp4 : Nat), Fr 39 a [(0, .agg #[.slice p.a0 p.d.fCells.length p.c0, .slice p.a1 p.d.fWaits.length p.c1, .bool p.d.fGone]), (1, .func (.func f) #[] caps), (2, .pointer (some ⟨b1, 0, none⟩)), (4, .pointer (some ⟨b2, 0, none⟩)), (5, .pointer (some ⟨b5, 0, none⟩))] ∧ St w0 (boxA b5 3 44 (.agg #[.slice ao3 p.d.fCells.length cp4, .slice none 0 0, .bool p.d.fGone]) :: rowA encS 1 9 (.slice ao3 p.d.fCells.length cp4) p.d.fCells :: boxA b2 3 44 (.agg #[.slice none 0 0, .slice none 0 0, .bool false]) :: boxA b1 3 44 (.agg #[.slice p.a0 p.d.fCells.length p.c0, .slice p.a1 p.d.fWaits.length p.c1, .bool p.d.fGone]) :: (C ++ F)) w) ?_ ?_
 ·skip
  refine wr_heldS (s := boxA b2 3 44 (.agg #[.slice none 0 0, .slice none 0 0, .bool false]) :: boxA b1 3 44 (.agg #[.slice p.a0 p.d.fCells.length p.c0, .slice p.a1 p.d.fWaits.length p.c1, .bool p.d.fGone]) :: (C ++ F)) (by kernel_rfl) (St.drew (HS.out)) ?_
  have HS2 := Bx.mk HS.out.drew; replace HS := Bx.mk (show St w0 (boxA b2 3 44 (.agg #[.slice none 0 0, .slice none 0 0, .bool false]) :: boxA b1 3 44 (.agg #[.slice p.a0 p.d.fCells.length p.c0, .slice p.a1 p.d.fWaits.length p.c1, .bool p.d.fGone]) :: (C ++ F)) _ from HS.out.drew)
  generalize World.drew _ = w3 at HS HS2 ⊢
  refine wh_y 0 rfl (by kernel_rfl) (by kernel_rfl) (by kernel_rfl) (fun _ _ _ h => h) rfl HF rfl rfl (fun _ HS => (yl_fieldAddr (j := 0) rfl (HF.ev rfl) (by kernel_rfl))) HS.out ?_; clear HF a; intro a HF
  refine wh_y 1 rfl (by kernel_rfl) (by kernel_rfl) (by kernel_rfl) (fun _ _ _ h => h) rfl HF rfl rfl (fun _ HS => (yl_load (v := .slice p.a0 p.d.fCells.length p.c0) rfl (HF.ev rfl) (((HS.box 1 rfl).cell 0).trans rfl) (by kernel_rfl))) HS.out ?_; clear HF a; intro a HF
  refine wh_y 3 rfl (by kernel_rfl) (by kernel_rfl) (by kernel_rfl) (fun _ _ _ h => h) rfl HF rfl rfl (fun _ HS => (yl_fieldAddr (j := 2) rfl (HF.ev rfl) (by kernel_rfl))) HS.out ?_; clear HF a; intro a HF
  refine wh_y 4 rfl (by kernel_rfl) (by kernel_rfl) (by kernel_rfl) (fun _ _ _ h => h) rfl HF rfl rfl (fun _ HS => (yl_load (v := .bool p.d.fGone) rfl (HF.ev rfl) (((HS.box 1 rfl).cell 2).trans rfl) (by kernel_rfl))) HS.out ?_; clear HF a; intro a HF
  refine wh_two 2 6 (by kernel_rfl) ?_ ?_
  ·skip
   refine wo_call rfl rfl HF rfl (enter_of Try.func120 (by kernel_rfl) rfl) (args := #[.slice p.a0 p.d.fCells.length p.c0]) rfl (cloneS_any _ _ p.d.fCells _ (by have := hf.c; omega) (HP.out.rc.below HS2.out.bel)) rfl rfl ?_
   rintro _ w4 ⟨⟨ao3, cp4, rfl, ho⟩, hb⟩
   refine ⟨_, rfl, ?_⟩; replace HS := Bx.mk (HS.out.later hb); replace HS2 := Bx.mk (HS2.out.add (St.ofRow ho hb)); clear ho hb HF; clear a; intro a HF; refine ⟨HS.out, ?_⟩
   replace HS2 : Bx (St w0 (rowA encS 1 9 (.slice ao3 p.d.fCells.length cp4) p.d.fCells :: boxA b2 3 44 (.agg #[.slice none 0 0, .slice none 0 0, .bool false]) :: boxA b1 3 44 (.agg #[.slice p.a0 p.d.fCells.length p.c0, .slice p.a1 p.d.fWaits.length p.c1, .bool p.d.fGone]) :: (C ++ F)) _) := ⟨HS2.out⟩
   refine wh_y 5 rfl (by kernel_rfl) (by kernel_rfl) (by kernel_rfl) (fun _ _ _ h => h) rfl HF rfl rfl (fun _ HS => (yl_build HF rfl (ps := [(0, .slice ao3 p.d.fCells.length cp4), (2, .bool p.d.fGone)]) rfl (cs := #[.slice ao3 p.d.fCells.length cp4, .slice none 0 0, .bool p.d.fGone]) (by kernel_rfl))) HS.out ?_; clear HF a; intro a HF
   refine wh_one 6 (by kernel_rfl) ?_
   refine wo_alloc rfl rfl HF rfl rfl rfl (Z := [.slice none 0 0, .slice none 0 0, .bool false]) (by kernel_rfl) rfl HS2.out HS.out ?_; clear HF HS HS2 a; intro a w5 b5 HF HS2 HS; replace HS := Bx.mk HS; replace HS2 := Bx.mk HS2; refine ⟨HS.out, ?_⟩
   refine wh_one 7 (by kernel_rfl) ?_
   refine wo_storeBox rfl rfl rfl rfl (HF.ev rfl) (HF.ev rfl) HS2.out 0 rfl (cells_lit [.slice ao3 p.d.fCells.length cp4, .slice none 0 0, .bool p.d.fGone] rfl rfl) (by kernel_rfl) ?_
   clear HS HS2; intro w6 HS2; replace HS2 : Bx (St w0 (boxA b5 3 44 (.agg #[.slice ao3 p.d.fCells.length cp4, .slice none 0 0, .bool p.d.fGone]) :: rowA encS 1 9 (.slice ao3 p.d.fCells.length cp4) p.d.fCells :: boxA b2 3 44 (.agg #[.slice none 0 0, .slice none 0 0, .bool false]) :: boxA b1 3 44 (.agg #[.slice p.a0 p.d.fCells.length p.c0, .slice p.a1 p.d.fWaits.length p.c1, .bool p.d.fGone]) :: (C ++ F)) _) := ⟨HS2⟩
   have HS : Bx (St w0 (boxA b2 3 44 (.agg #[.slice none 0 0, .slice none 0 0, .bool false]) :: boxA b1 3 44 (.agg #[.slice p.a0 p.d.fCells.length p.c0, .slice p.a1 p.d.fWaits.length p.c1, .bool p.d.fGone]) :: (C ++ F)) _) := ⟨((HS2.out.erase 1).erase 0)⟩; refine ⟨HS.out, ?_⟩
   refine wh_done (by kernel_rfl) ?_
   replace HS := HS2; clear HS2
   exact on_mk ⟨_, _, _, HF.less _ ⟨rfl, rfl, rfl, rfl, rfl, trivial⟩, HS.out⟩
  ·skip
   refine wo_alloc rfl rfl HF rfl rfl rfl (Z := [.slice none 0 0, .slice none 0 0, .bool false]) (by kernel_rfl) rfl HS2.out HS.out ?_; clear HF HS HS2 a; intro a w7 b6 HF HS2 HS; replace HS := Bx.mk HS; replace HS2 := Bx.mk HS2; refine ⟨HS.out, ?_⟩
   refine wh_one 2 (by kernel_rfl) ?_
   refine wo_call rfl rfl HF rfl (enter_of Try.func120 (by kernel_rfl) rfl) (args := #[.slice p.a0 p.d.fCells.length p.c0]) rfl (cloneS_any _ _ p.d.fCells _ (by have := hf.c; omega) (HP.out.rc.below HS2.out.bel)) rfl rfl ?_
   rintro _ w8 ⟨⟨ao7, cp8, rfl, ho⟩, hb⟩
   refine ⟨_, rfl, ?_⟩; replace HS := Bx.mk (HS.out.later hb); replace HS2 := Bx.mk (HS2.out.add (St.ofRow ho hb)); clear ho hb HF; clear a; intro a HF; refine ⟨HS.out, ?_⟩
   replace HS2 : Bx (St w0 (rowA encS 1 9 (.slice ao7 p.d.fCells.length cp8) p.d.fCells :: boxA b6 3 44 (.agg #[.slice none 0 0, .slice none 0 0, .bool false]) :: boxA b2 3 44 (.agg #[.slice none 0 0, .slice none 0 0, .bool false]) :: boxA b1 3 44 (.agg #[.slice p.a0 p.d.fCells.length p.c0, .slice p.a1 p.d.fWaits.length p.c1, .bool p.d.fGone]) :: (C ++ F)) _) := ⟨HS2.out⟩
   refine wh_y 5 rfl (by kernel_rfl) (by kernel_rfl) (by kernel_rfl) (fun _ _ _ h => h) rfl HF rfl rfl (fun _ HS => (yl_build HF rfl (ps := [(0, .slice ao7 p.d.fCells.length cp8), (2, .bool p.d.fGone)]) rfl (cs := #[.slice ao7 p.d.fCells.length cp8, .slice none 0 0, .bool p.d.fGone]) (by kernel_rfl))) HS.out ?_; clear HF a; intro a HF
   refine wh_one 7 (by kernel_rfl) ?_
   refine wo_storeBox rfl rfl rfl rfl (HF.ev rfl) (HF.ev rfl) HS2.out 1 rfl (cells_lit [.slice ao7 p.d.fCells.length cp8, .slice none 0 0, .bool p.d.fGone] rfl rfl) (by kernel_rfl) ?_
   clear HS HS2; intro w9 HS2; replace HS2 : Bx (St w0 (rowA encS 1 9 (.slice ao7 p.d.fCells.length cp8) p.d.fCells :: boxA b6 3 44 (.agg #[.slice ao7 p.d.fCells.length cp8, .slice none 0 0, .bool p.d.fGone]) :: boxA b2 3 44 (.agg #[.slice none 0 0, .slice none 0 0, .bool false]) :: boxA b1 3 44 (.agg #[.slice p.a0 p.d.fCells.length p.c0, .slice p.a1 p.d.fWaits.length p.c1, .bool p.d.fGone]) :: (C ++ F)) _) := ⟨HS2⟩
   have HS : Bx (St w0 (boxA b2 3 44 (.agg #[.slice none 0 0, .slice none 0 0, .bool false]) :: boxA b1 3 44 (.agg #[.slice p.a0 p.d.fCells.length p.c0, .slice p.a1 p.d.fWaits.length p.c1, .bool p.d.fGone]) :: (C ++ F)) _) := ⟨((HS2.out.erase 1).erase 0)⟩; refine ⟨HS.out, ?_⟩
   refine wh_done (by kernel_rfl) ?_
   replace HS := HS2; clear HS2
   replace HS : Bx (St w0 (boxA b6 3 44 (.agg #[.slice ao7 p.d.fCells.length cp8, .slice none 0 0, .bool p.d.fGone]) :: rowA encS 1 9 (.slice ao7 p.d.fCells.length cp8) p.d.fCells :: boxA b2 3 44 (.agg #[.slice none 0 0, .slice none 0 0, .bool false]) :: boxA b1 3 44 (.agg #[.slice p.a0 p.d.fCells.length p.c0, .slice p.a1 p.d.fWaits.length p.c1, .bool p.d.fGone]) :: (C ++ F)) _) := ⟨((((HS.out).pick 3 rfl).pick 3 rfl).pick 2 rfl).pick 3 rfl⟩
   exact on_mk ⟨_, _, _, HF.less _ ⟨rfl, rfl, rfl, rfl, rfl, trivial⟩, HS.out⟩
 clear HF HS a; rintro a w10 ⟨b5, ao3, cp4, HF, HS⟩; replace HS := Bx.mk HS
 refine ex_then ?_
 refine wp_seq ?_
 refine wp_sr ?_
 refine wl_y rfl HF rfl rfl (yl_fieldAddr (j := 1) rfl (HF.ev rfl) (by kernel_rfl)) ?_; clear HF a; intro a HF
 refine wl_y rfl HF rfl rfl (yl_load (v := .slice p.a1 p.d.fWaits.length p.c1) rfl (HF.ev rfl) (((HS.out.box 3 rfl).cell 1).trans rfl) (by kernel_rfl)) ?_; clear HF a; intro a HF
 refine wl_y rfl HF rfl rfl (yl_lenL (e := 144) (size := 2) rfl (HF.ev rfl) (by kernel_rfl)) ?_; clear HF a; intro a HF
 refine wl_mv HF rfl rfl rfl rfl rfl ?_; clear HF a; intro a HF
 refine wl_ne ?_
 refine wp_block ?_
 refine wc_loop (ι := Nat) (fun k a w => (k ≤ p.d.fWaits.length) ∧ Fr 39 a [(1, .func (.func f) #[] caps), (2, .pointer (some ⟨b1, 0, none⟩)), (4, .pointer (some ⟨b2, 0, none⟩)), (5, .pointer (some ⟨b5, 0, none⟩)), (15, .slice p.a1 p.d.fWaits.length p.c1), (16, .int .i64 (p.d.fWaits.length : Int)), (17, .int .i64 (k : Int))] ∧ St w0 (boxA b5 3 44 (.agg #[.slice ao3 p.d.fCells.length cp4, .slice none 0 0, .bool p.d.fGone]) :: rowA encS 1 9 (.slice ao3 p.d.fCells.length cp4) (settleTo g p.d k) :: boxA b2 3 44 (.agg #[.slice none 0 0, .slice none 0 0, .bool false]) :: boxA b1 3 44 (.agg #[.slice p.a0 p.d.fCells.length p.c0, .slice p.a1 p.d.fWaits.length p.c1, .bool p.d.fGone]) :: (C ++ F)) w) (fun k => p.d.fWaits.length - k) 0 ⟨Nat.zero_le _, HF.less _ ⟨rfl, rfl, rfl, rfl, rfl, rfl, rfl, trivial⟩, HS.out⟩ ?_
 clear HF HS; clear a
 rintro k a w11 ⟨hk, HF, HS⟩
 replace HS := Bx.mk HS
 refine wp_sr ?_
 refine wl_y rfl HF rfl rfl (yl_lssI rfl (HF.ev rfl) (HF.ev rfl)) ?_; clear HF a; intro a HF
 refine wl_ne ?_
 refine wp_seq ?_
 refine HF.cases 18 rfl (fun cc1 HF1 => ?_) (fun cc1 HF1 => ?_)
 ·clear HF; have HF := HF1; clear HF1
  have dcc1 := of_decide_eq_true cc1
  refine wc_true HF rfl ?_
  refine wp_skip ?_
  refine ex_then ?_
  refine wp_seq ?_
  refine wp_block ?_
  refine wp_sr ?_
  refine wl_mv HF rfl rfl rfl rfl rfl ?_; clear HF a; intro a HF
  refine wl_y rfl HF rfl rfl (yl_indexAddrR (e := 144) (i := k) (size := 2) rfl (HF.ev rfl) (HF.ev rfl) (by kernel_rfl) rfl (by omega) (RA.out.ao k (by omega))) ?_; clear HF a; intro a HF
  refine wl_y rfl HF rfl rfl (yl_loadR (cs := [.int .i64 ((p.d.fWaits.getD k default).fAt), .string ((p.d.fWaits.getD k default).fText)]) rfl (HF.ev rfl) (RA.out.elem HS.out (get_getD (xs := p.d.fWaits) (j := k) (d := default) (by omega))) (by kernel_rfl)) ?_; clear HF a; intro a HF
  refine wl_alloc rfl HF rfl rfl rfl (Z := [.int .i64 0, .string ByteArray.empty]) (by kernel_rfl) rfl HS.out ?_; clear HF HS a; intro a w12 b9 HF HS; replace HS := Bx.mk HS
  refine wl_as HF rfl rfl rfl rfl rfl ?_; clear HF a; intro a HF
  refine wl_storeBox rfl HF rfl rfl (HF.ev rfl) (HF.ev rfl) HS.out 0 rfl (cells_lit [.int .i64 ((p.d.fWaits.getD k default).fAt), .string ((p.d.fWaits.getD k default).fText)] rfl rfl) (by kernel_rfl) ?_; clear HS; intro w13 HS; replace HS := Bx.mk HS
  have HS : Bx (St w0 (boxA b9 2 144 (.agg #[.int .i64 ((p.d.fWaits.getD k default).fAt), .string ((p.d.fWaits.getD k default).fText)]) :: boxA b5 3 44 (.agg #[.slice ao3 p.d.fCells.length cp4, .slice none 0 0, .bool p.d.fGone]) :: rowA encS 1 9 (.slice ao3 p.d.fCells.length cp4) (settleTo g p.d k) :: boxA b2 3 44 (.agg #[.slice none 0 0, .slice none 0 0, .bool false]) :: boxA b1 3 44 (.agg #[.slice p.a0 p.d.fCells.length p.c0, .slice p.a1 p.d.fWaits.length p.c1, .bool p.d.fGone]) :: (C ++ F)) _) := HS
  refine wl_ne ?_
  have hak := hA k (by omega); have hcl := settleTo_len g p.d k
  obtain ⟨at_, hat⟩ : ∃ n : Nat, (p.d.fWaits.getD k default).fAt = (n : Int) := ⟨_, (Int.toNat_of_nonneg hak.1).symm⟩; have hat2 : (p.d.fWaits.getD k default).fAt.toNat = at_ := by omega
  obtain ⟨g10, rfl, _, _, _, _⟩ := HS.out.rowOpen 2 rfl (by omega)
  refine wr_marked (W := w0) (s := boxA b9 2 144 (.agg #[.int .i64 ((p.d.fWaits.getD k default).fAt), .string ((p.d.fWaits.getD k default).fText)]) :: boxA b5 3 44 (.agg #[.slice (some ⟨g10, 0, none⟩) p.d.fCells.length cp4, .slice none 0 0, .bool p.d.fGone]) :: rowA encS 1 9 (.slice (some ⟨g10, 0, none⟩) p.d.fCells.length cp4) (settleTo g p.d k) :: boxA b2 3 44 (.agg #[.slice none 0 0, .slice none 0 0, .bool false]) :: boxA b1 3 44 (.agg #[.slice p.a0 p.d.fCells.length p.c0, .slice p.a1 p.d.fWaits.length p.c1, .bool p.d.fGone]) :: (C ++ F)) 15 (by kernel_rfl) ?_
  have HS2 := Bx.mk HS.out.drew; replace HS := Bx.mk (show St w0 (boxA b9 2 144 (.agg #[.int .i64 ((p.d.fWaits.getD k default).fAt), .string ((p.d.fWaits.getD k default).fText)]) :: boxA b5 3 44 (.agg #[.slice (some ⟨g10, 0, none⟩) p.d.fCells.length cp4, .slice none 0 0, .bool p.d.fGone]) :: rowA encS 1 9 (.slice (some ⟨g10, 0, none⟩) p.d.fCells.length cp4) (settleTo g p.d k) :: boxA b2 3 44 (.agg #[.slice none 0 0, .slice none 0 0, .bool false]) :: boxA b1 3 44 (.agg #[.slice p.a0 p.d.fCells.length p.c0, .slice p.a1 p.d.fWaits.length p.c1, .bool p.d.fGone]) :: (C ++ F)) _ from HS.out.drew); generalize World.drew _ = w14 at HS HS2 ⊢
  refine wm_t 0 rfl (by kernel_rfl) (by kernel_rfl) (by kernel_rfl) (fun _ _ _ h => h) (by decide) rfl HF rfl rfl (fun _ _ => (yl_fieldAddr (j := 0) rfl (HF.ev rfl) (by kernel_rfl))) (fun _ => HS.out) ?_; clear HF a; intro a HF
  refine wm_y 1 rfl (by kernel_rfl) (by kernel_rfl) (by kernel_rfl) (fun _ _ _ h => h) (by decide) (by kernel_rfl) (by kernel_rfl) rfl HF rfl rfl (fun _ HS => (yl_load (v := .slice (some ⟨g10, 0, none⟩) p.d.fCells.length cp4) rfl (HF.ev rfl) (((HS.box 1 rfl).cell 0).trans rfl) (by kernel_rfl))) HS.out ?_; clear HF a; intro a HF
  refine wm_t 2 rfl (by kernel_rfl) (by kernel_rfl) (by kernel_rfl) (fun _ _ _ h => h) (by decide) rfl HF rfl rfl (fun _ _ => (yl_fieldAddr (j := 0) rfl (HF.ev rfl) (by kernel_rfl))) (fun _ => HS.out) ?_; clear HF a; intro a HF
  refine wm_y 3 rfl (by kernel_rfl) (by kernel_rfl) (by kernel_rfl) (fun _ _ _ h => h) (by decide) (by kernel_rfl) (by kernel_rfl) rfl HF rfl rfl (fun _ HS => (yl_load (v := .int .i64 ((p.d.fWaits.getD k default).fAt)) rfl (HF.ev rfl) (((HS.box 0 rfl).cell 0).trans rfl) (by kernel_rfl))) HS.out ?_; clear HF a; intro a HF
  refine wm_t 4 rfl (by kernel_rfl) (by kernel_rfl) (by kernel_rfl) (fun _ _ _ h => h) (by decide) rfl HF rfl rfl (fun _ _ => (yl_move rfl (HF.ev rfl))) (fun _ => HS.out) ?_; clear HF a; intro a HF
  refine wm_t 5 rfl (by kernel_rfl) (by kernel_rfl) (by kernel_rfl) (fun _ _ _ h => h) (by decide) rfl HF rfl rfl (fun _ _ => (yl_move rfl (HF.ev rfl))) (fun _ => HS.out) ?_; clear HF a; intro a HF
  refine wm_y 6 rfl (by kernel_rfl) (by kernel_rfl) (by kernel_rfl) (fun _ _ _ h => h) (by decide) (by kernel_rfl) (by kernel_rfl) rfl HF rfl rfl (fun _ HS => (yl_loadR (cs := [.int .i64 ((p.d.fWaits.getD k default).fAt), .string ((p.d.fWaits.getD k default).fText)]) rfl (HF.ev rfl) ((HS.box 0 rfl).sub 0 2) (by kernel_rfl))) HS.out ?_; clear HF a; intro a HF
  refine wm_t 7 rfl (by kernel_rfl) (by kernel_rfl) (by kernel_rfl) (fun _ _ _ h => h) (by decide) rfl HF rfl rfl (fun _ _ => (yl_fieldAddr (j := 0) rfl (HF.ev rfl) (by kernel_rfl))) (fun _ => HS.out) ?_; clear HF a; intro a HF
  refine wm_y 8 rfl (by kernel_rfl) (by kernel_rfl) (by kernel_rfl) (fun _ _ _ h => h) (by decide) (by kernel_rfl) (by kernel_rfl) rfl HF rfl rfl (fun _ HS => (yl_load (v := .slice (some ⟨g10, 0, none⟩) p.d.fCells.length cp4) rfl (HF.ev rfl) (((HS.box 1 rfl).cell 0).trans rfl) (by kernel_rfl))) HS.out ?_; clear HF a; intro a HF
  refine wm_t 9 rfl (by kernel_rfl) (by kernel_rfl) (by kernel_rfl) (fun _ _ _ h => h) (by decide) rfl HF rfl rfl (fun _ _ => (yl_fieldAddr (j := 0) rfl (HF.ev rfl) (by kernel_rfl))) (fun _ => HS.out) ?_; clear HF a; intro a HF
  refine wm_y 10 rfl (by kernel_rfl) (by kernel_rfl) (by kernel_rfl) (fun _ _ _ h => h) (by decide) (by kernel_rfl) (by kernel_rfl) rfl HF rfl rfl (fun _ HS => (yl_load (v := .int .i64 ((p.d.fWaits.getD k default).fAt)) rfl (HF.ev rfl) (((HS.box 0 rfl).cell 0).trans rfl) (by kernel_rfl))) HS.out ?_; clear HF a; intro a HF
  refine wm_y 11 rfl (by kernel_rfl) (by kernel_rfl) (by kernel_rfl) (fun _ _ _ h => h) (by decide) (by kernel_rfl) (by kernel_rfl) rfl HF rfl rfl (fun _ HS => (yl_indexAddr (e := 9) (i := at_) (size := 1) rfl (HF.ev rfl) (HF.ev rfl) (by kernel_rfl) hat (by omega))) HS.out ?_; clear HF a; intro a HF
  refine wm_y 12 rfl (by kernel_rfl) (by kernel_rfl) (by kernel_rfl) (fun _ _ _ h => h) (by decide) (by kernel_rfl) (by kernel_rfl) rfl HF rfl rfl (fun _ HS => (yl_load (v := .string ((settleTo g p.d k).getD at_ ByteArray.empty)) rfl (HF.ev rfl) (HS.elem1 encS_len 2 rfl (get_getD (xs := settleTo g p.d k) (j := at_) (d := ByteArray.empty) (by omega)) rfl) (by kernel_rfl))) HS.out ?_; clear HF a; intro a HF
  refine wm_one 13 (by kernel_rfl) ?_
  refine wo_callv rfl rfl HF rfl (HF.ev rfl) HE (args := #[.int .i64 (k : Int), .agg #[.int .i64 ((p.d.fWaits.getD k default).fAt), .string ((p.d.fWaits.getD k default).fText)], .string ((settleTo g p.d k).getD at_ ByteArray.empty)]) rfl (by have := HG.out k (by omega) _ ([boxA b9 2 144 (.agg #[.int .i64 ((p.d.fWaits.getD k default).fAt), .string ((p.d.fWaits.getD k default).fText)]), boxA b5 3 44 (.agg #[.slice (some ⟨g10, 0, none⟩) p.d.fCells.length cp4, .slice none 0 0, .bool p.d.fGone]), rowA encS 1 9 (.slice (some ⟨g10, 0, none⟩) p.d.fCells.length cp4) (settleTo g p.d k), boxA b2 3 44 (.agg #[.slice none 0 0, .slice none 0 0, .bool false]), boxA b1 3 44 (.agg #[.slice p.a0 p.d.fCells.length p.c0, .slice p.a1 p.d.fWaits.length p.c1, .bool p.d.fGone])] ++ F) (St.midl (L := [boxA b9 2 144 (.agg #[.int .i64 ((p.d.fWaits.getD k default).fAt), .string ((p.d.fWaits.getD k default).fText)]), boxA b5 3 44 (.agg #[.slice (some ⟨g10, 0, none⟩) p.d.fCells.length cp4, .slice none 0 0, .bool p.d.fGone]), rowA encS 1 9 (.slice (some ⟨g10, 0, none⟩) p.d.fCells.length cp4) (settleTo g p.d k), boxA b2 3 44 (.agg #[.slice none 0 0, .slice none 0 0, .bool false]), boxA b1 3 44 (.agg #[.slice p.a0 p.d.fCells.length p.c0, .slice p.a1 p.d.fWaits.length p.c1, .bool p.d.fGone])]) HS2.out); rw [hat2] at this; exact this) rfl rfl ?_
  rintro _ w15 ⟨rfl, hs⟩
  refine ⟨_, rfl, ?_⟩; replace HS2 := Bx.mk (St.midl (L := C) (C := [boxA b9 2 144 (.agg #[.int .i64 ((p.d.fWaits.getD k default).fAt), .string ((p.d.fWaits.getD k default).fText)]), boxA b5 3 44 (.agg #[.slice (some ⟨g10, 0, none⟩) p.d.fCells.length cp4, .slice none 0 0, .bool p.d.fGone]), rowA encS 1 9 (.slice (some ⟨g10, 0, none⟩) p.d.fCells.length cp4) (settleTo g p.d k), boxA b2 3 44 (.agg #[.slice none 0 0, .slice none 0 0, .bool false]), boxA b1 3 44 (.agg #[.slice p.a0 p.d.fCells.length p.c0, .slice p.a1 p.d.fWaits.length p.c1, .bool p.d.fGone])]) hs); clear hs HF; clear a; intro a HF
  replace HS2 : Bx (St w0 (boxA b9 2 144 (.agg #[.int .i64 ((p.d.fWaits.getD k default).fAt), .string ((p.d.fWaits.getD k default).fText)]) :: boxA b5 3 44 (.agg #[.slice (some ⟨g10, 0, none⟩) p.d.fCells.length cp4, .slice none 0 0, .bool p.d.fGone]) :: rowA encS 1 9 (.slice (some ⟨g10, 0, none⟩) p.d.fCells.length cp4) (settleTo g p.d k) :: boxA b2 3 44 (.agg #[.slice none 0 0, .slice none 0 0, .bool false]) :: boxA b1 3 44 (.agg #[.slice p.a0 p.d.fCells.length p.c0, .slice p.a1 p.d.fWaits.length p.c1, .bool p.d.fGone]) :: (C ++ F)) _) := ⟨HS2.out⟩; clear HS; have HS : Bx (St w0 (boxA b9 2 144 (.agg #[.int .i64 ((p.d.fWaits.getD k default).fAt), .string ((p.d.fWaits.getD k default).fText)]) :: boxA b5 3 44 (.agg #[.slice (some ⟨g10, 0, none⟩) p.d.fCells.length cp4, .slice none 0 0, .bool p.d.fGone]) :: rowA encS 1 9 (.slice (some ⟨g10, 0, none⟩) p.d.fCells.length cp4) (settleTo g p.d k) :: boxA b2 3 44 (.agg #[.slice none 0 0, .slice none 0 0, .bool false]) :: boxA b1 3 44 (.agg #[.slice p.a0 p.d.fCells.length p.c0, .slice p.a1 p.d.fWaits.length p.c1, .bool p.d.fGone]) :: (C ++ F)) _) := ⟨HS2.out⟩
  refine ⟨fun _ => HS.out, ?_⟩
  refine wm_y 14 rfl (by kernel_rfl) (by kernel_rfl) (by kernel_rfl) (fun _ _ _ h => h) (by decide) (by kernel_rfl) (by kernel_rfl) rfl HF rfl rfl (fun _ HS => (yl_indexAddr (e := 9) (i := at_) (size := 1) rfl (HF.ev rfl) (HF.ev rfl) (by kernel_rfl) hat (by omega))) HS.out ?_; clear HF a; intro a HF
  refine wm_one 15 (by kernel_rfl) ?_
  refine wo_storeE encS_len rfl rfl rfl rfl (HF.ev rfl) (HF.ev rfl) (by kernel_rfl) HS2.out 2 rfl (by omega) (z := (g k (((settleTo g p.d k).getD at_ ByteArray.empty)))) rfl rfl ?_
  clear HS2; intro w16 HS2; replace HS2 : Bx (St w0 (boxA b9 2 144 (.agg #[.int .i64 ((p.d.fWaits.getD k default).fAt), .string ((p.d.fWaits.getD k default).fText)]) :: boxA b5 3 44 (.agg #[.slice (some ⟨g10, 0, none⟩) p.d.fCells.length cp4, .slice none 0 0, .bool p.d.fGone]) :: rowA encS 1 9 (.slice (some ⟨g10, 0, none⟩) p.d.fCells.length cp4) ((settleTo g p.d k).set at_ (g k (((settleTo g p.d k).getD at_ ByteArray.empty)))) :: boxA b2 3 44 (.agg #[.slice none 0 0, .slice none 0 0, .bool false]) :: boxA b1 3 44 (.agg #[.slice p.a0 p.d.fCells.length p.c0, .slice p.a1 p.d.fWaits.length p.c1, .bool p.d.fGone]) :: (C ++ F)) _) := ⟨HS2⟩; refine ⟨(fun h => absurd (show true = false from h) (by decide)), ?_⟩
  refine wm_done (by kernel_rfl) ?_
  clear HS; have HS := HS2; clear HS2
  refine ex_block ?_
  refine ex_then ?_
  refine wp_region_lit ?_
  refine wl_y rfl HF rfl rfl (yl_addI rfl (HF.ev rfl) (HF.ev rfl) (i64w (by omega))) ?_; clear HF a; intro a HF
  refine wl_mv HF rfl rfl rfl rfl rfl ?_; clear HF a; intro a HF
  refine wl_ne ?_
  have hnx : settleTo g p.d (k + 1) = (settleTo g p.d k).set at_ (g k (((settleTo g p.d k).getD at_ ByteArray.empty))) := by show (settleTo g p.d k).set _ _ = _; rw [hat2]
  rw [← hnx] at HS
  replace HS : Bx (St w0 (boxA b5 3 44 (.agg #[.slice (some ⟨g10, 0, none⟩) p.d.fCells.length cp4, .slice none 0 0, .bool p.d.fGone]) :: rowA encS 1 9 (.slice (some ⟨g10, 0, none⟩) p.d.fCells.length cp4) (settleTo g p.d (k + 1)) :: boxA b2 3 44 (.agg #[.slice none 0 0, .slice none 0 0, .bool false]) :: boxA b1 3 44 (.agg #[.slice p.a0 p.d.fCells.length p.c0, .slice p.a1 p.d.fWaits.length p.c1, .bool p.d.fGone]) :: boxA b9 2 144 (.agg #[.int .i64 ((p.d.fWaits.getD k default).fAt), .string ((p.d.fWaits.getD k default).fText)]) :: (C ++ F)) _) := ⟨((((HS.out).pick 4 rfl).pick 4 rfl).pick 4 rfl).pick 4 rfl⟩
  exact ⟨k + 1, ⟨(by omega), HF.less _ ⟨rfl, rfl, rfl, rfl, rfl, rfl, rfl, trivial⟩, (HS.out.erase 4)⟩, (by omega)⟩
 ·clear HF; have HF := HF1; clear HF1
  have dcc1 := of_decide_eq_false cc1
  refine wc_false HF rfl ?_
  refine wp_exit ?_
  refine ex_then_exit ?_
  refine ex_then_exit ?_
  refine ex_block_hit ?_
  refine ex_then ?_
  refine wp_sr ?_
  refine wl_y rfl HF rfl rfl (yl_loadR (cs := [.slice ao3 p.d.fCells.length cp4, .slice none 0 0, .bool p.d.fGone]) rfl (HF.ev rfl) ((HS.out.box 0 rfl).sub 0 3) (by kernel_rfl)) ?_; clear HF a; intro a HF
  refine wl_storeBox rfl HF rfl rfl (HF.ev rfl) (HF.ev rfl) HS.out 2 rfl (cells_lit [.slice ao3 p.d.fCells.length cp4, .slice none 0 0, .bool p.d.fGone] rfl rfl) (by kernel_rfl) ?_; clear HS; intro w17 HS; replace HS := Bx.mk HS
  have HS : Bx (St w0 (boxA b5 3 44 (.agg #[.slice ao3 p.d.fCells.length cp4, .slice none 0 0, .bool p.d.fGone]) :: rowA encS 1 9 (.slice ao3 p.d.fCells.length cp4) (settleTo g p.d k) :: boxA b2 3 44 (.agg #[.slice ao3 p.d.fCells.length cp4, .slice none 0 0, .bool p.d.fGone]) :: boxA b1 3 44 (.agg #[.slice p.a0 p.d.fCells.length p.c0, .slice p.a1 p.d.fWaits.length p.c1, .bool p.d.fGone]) :: (C ++ F)) _) := HS
  refine wl_ne ?_
  refine wp_ret ?_
  refine bp_ret1 HF Try.results127 (HF.resBox rfl (HS.out.box 2 rfl) (by kernel_rfl)) ?_
  replace HS : Bx (St w0 (rowA encS 1 9 (.slice ao3 p.d.fCells.length cp4) (settleTo g p.d k) :: boxA b5 3 44 (.agg #[.slice ao3 p.d.fCells.length cp4, .slice none 0 0, .bool p.d.fGone]) :: boxA b2 3 44 (.agg #[.slice ao3 p.d.fCells.length cp4, .slice none 0 0, .bool p.d.fGone]) :: boxA b1 3 44 (.agg #[.slice p.a0 p.d.fCells.length p.c0, .slice p.a1 p.d.fWaits.length p.c1, .bool p.d.fGone]) :: (C ++ F)) _) := ⟨(HS.out).pick 1 rfl⟩
  obtain rfl : k = p.d.fWaits.length := by omega
  have hcl := settleTo_len g p.d p.d.fWaits.length; have HT := (((((HS.out.erase 3).erase 2).erase 1)).nilRow WaitD.cells 2 144 none).swap; rw [← hcl] at HT ⊢
  exact ⟨⟨ao3, cp4, none, 0, ⟨settleTo g p.d p.d.fWaits.length, [], p.d.fGone⟩⟩, rfl, rfl, (St.join (r := [_, _]) (s := _)).1 HT⟩

theorem flush1_any (w0 w : World) (k : Nat) (n : Int) (t old : ByteArray) (X : List Asr) (hS : St w0 X w) : Calls Try.prog 128 #[.int .i64 (k : Int), .agg #[.int .i64 n, .string t], .string old] w fun e w' => e = .returned (.string t) ∧ St w0 X w' := by
 have HS := Bx.mk hS; clear hS
 refine wc_enter Try.func128 rfl Try.ntmps128 [(0, .int .i64 (k : Int)), (1, .agg #[.int .i64 n, .string t]), (2, .string old)] ⟨rfl, rfl, rfl, trivial⟩ rfl ?_; intro a HF
 refine wp_sr ?_
 refine wl_box rfl HF rfl (HF.ev rfl) (Z := [.int .i64 n, .string t]) rfl rfl rfl rfl HS.out ?_; clear HF HS a; intro a w1 b1 HF HS; replace HS := Bx.mk HS
 refine wl_as HF rfl rfl rfl rfl rfl ?_; clear HF a; intro a HF
 refine wl_ne ?_
 refine wp_sr ?_
 refine wl_y rfl HF rfl rfl (yl_fieldAddr (j := 1) rfl (HF.ev rfl) (by kernel_rfl)) ?_; clear HF a; intro a HF
 refine wl_y rfl HF rfl rfl (yl_load (v := .string t) rfl (HF.ev rfl) (((HS.out.box 0 rfl).cell 1).trans rfl) (by kernel_rfl)) ?_; clear HF a; intro a HF
 refine wl_as HF rfl rfl rfl rfl rfl ?_; clear HF a; intro a HF
 refine wl_ne ?_
 refine wp_ret ?_
 refine bp_ret1 HF Try.results128 (HF.res rfl) ?_
 exact ⟨rfl, (HS.out.erase 0)⟩

theorem ok_at2 {d : DiskD} (h : d.ok = true) : ∀ k, k < d.fWaits.length → 0 ≤ (d.fWaits.getD k default).fAt ∧ (d.fWaits.getD k default).fAt < d.fCells.length := fun k hk => by
  have h2 := (ok_waits h).1
  unfold DiskD.ok at h
  simp only [Bool.and_eq_true, decide_eq_true_eq] at h
  have := allB_at h.2.2.2.2 hk
  unfold waitB at this
  rw [Bool.and_eq_true] at this
  have := inB_bounds this.1
  omega

theorem diskFlush_any (p : HD) (w0 : World) (hr : p.reads w0) (hf : p.d.fits) (hok : p.d.ok = true) : Calls Try.prog 62 #[.agg #[.slice p.a0 p.d.fCells.length p.c0, .slice p.a1 p.d.fWaits.length p.c1, .bool p.d.fGone]] w0 fun e w' => ∃ q : HD, q.d = p.d.flush ∧ e = .returned (.agg #[.slice q.a0 q.d.fCells.length q.c0, .slice q.a1 q.d.fWaits.length q.c1, .bool q.d.fGone]) ∧ St w0 [q.asr] w' := by
 have HP := Bx.mk hr; clear hr
 have HS := Bx.mk (St.start w0)
 refine wc_enter Try.func62 rfl Try.ntmps62 [(0, .agg #[.slice p.a0 p.d.fCells.length p.c0, .slice p.a1 p.d.fWaits.length p.c1, .bool p.d.fGone])] ⟨rfl, trivial⟩ rfl ?_; intro a HF
 refine wp_sr ?_
 refine wl_box rfl HF rfl (HF.ev rfl) (Z := [.slice p.a0 p.d.fCells.length p.c0, .slice p.a1 p.d.fWaits.length p.c1, .bool p.d.fGone]) rfl rfl rfl rfl HS.out ?_; clear HF HS a; intro a w1 b1 HF HS; replace HS := Bx.mk HS
 refine wl_alloc rfl HF rfl rfl rfl (Z := [.slice none 0 0, .slice none 0 0, .bool false]) (by kernel_rfl) rfl HS.out ?_; clear HF HS a; intro a w2 b2 HF HS; replace HS := Bx.mk HS
 refine wl_ne ?_
 refine wp_seq ?_
 refine wp_sr ?_
 refine wl_y rfl HF rfl rfl (yl_loadR (cs := [.slice p.a0 p.d.fCells.length p.c0, .slice p.a1 p.d.fWaits.length p.c1, .bool p.d.fGone]) rfl (HF.ev rfl) ((HS.out.box 1 rfl).sub 0 3) (by kernel_rfl)) ?_; clear HF a; intro a HF
 refine wl_callB rfl HF rfl (enter_of Try.func68 (by kernel_rfl) rfl) (args := #[.agg #[.slice p.a0 p.d.fCells.length p.c0, .slice p.a1 p.d.fWaits.length p.c1, .bool p.d.fGone]]) rfl (v := .bool true) ((by have := implDiskOk_any p.a0 p.c0 p.a1 p.c1 p.d _ hf.c hf.w hf.cz hf.wz (HP.out.below HS.out.bel).rc (HP.out.below HS.out.bel).rw; rw [hok] at this; exact this)) rfl rfl HS.out ?_; clear HF HS a; intro w3 a HS HF; replace HS := Bx.mk HS
 refine wl_y rfl HF rfl rfl (yl_not rfl (HF.ev rfl)) ?_; clear HF a; intro a HF
 refine wl_ne ?_
 refine wc_false HF rfl ?_
 refine wp_skip ?_
 refine ex_then ?_
 refine wp_sr ?_
 refine wl_y rfl HF rfl rfl (yl_loadR (cs := [.slice p.a0 p.d.fCells.length p.c0, .slice p.a1 p.d.fWaits.length p.c1, .bool p.d.fGone]) rfl (HF.ev rfl) ((HS.out.box 1 rfl).sub 0 3) (by kernel_rfl)) ?_; clear HF a; intro a HF
 refine wl_call rfl HF rfl (enter_of Try.func127 (by kernel_rfl) rfl) (args := #[.agg #[.slice p.a0 p.d.fCells.length p.c0, .slice p.a1 p.d.fWaits.length p.c1, .bool p.d.fGone], .func (.func 128) #[] #[]]) rfl (settle_any w0 _ p 128 #[] (fun k _ => (p.d.fWaits.getD k default).fText) [] [boxA b2 3 44 (.agg #[.slice none 0 0, .slice none 0 0, .bool false]), boxA b1 3 44 (.agg #[.slice p.a0 p.d.fCells.length p.c0, .slice p.a1 p.d.fWaits.length p.c1, .bool p.d.fGone])] hf HP.out (ok_at2 hok) (enter_of Try.func128 (by kernel_rfl) rfl) (fun k hk w X hS => flush1_any w0 w k _ _ _ X hS) HS.out) rfl rfl ?_
 rintro _ w4 ⟨⟨qa, qc, qb, qe, qd⟩, hqd, rfl, hs⟩
 have hqf : qd = p.d.flush := by refine Eq.trans hqd ?_; rw [settle_flush _ _ (Nat.le_refl _)]; unfold flushTo; rw [List.take_length]; rfl
 subst hqf; refine ⟨_, rfl, ?_⟩; replace HS := Bx.mk hs; clear hs HF; clear a; intro a HF
 replace HS : Bx (St w0 ([HD.asr ⟨qa, qc, qb, qe, p.d.flush⟩, boxA b2 3 44 (.agg #[.slice none 0 0, .slice none 0 0, .bool false]), boxA b1 3 44 (.agg #[.slice p.a0 p.d.fCells.length p.c0, .slice p.a1 p.d.fWaits.length p.c1, .bool p.d.fGone])]) _) := ⟨HS.out⟩
 refine wl_storeBox rfl HF rfl rfl (HF.ev rfl) (HF.ev rfl) HS.out 1 rfl (cells_lit [.slice qa p.d.flush.fCells.length qc, .slice qb p.d.flush.fWaits.length qe, .bool p.d.flush.fGone] rfl rfl) (by kernel_rfl) ?_; clear HS; intro w5 HS; replace HS := Bx.mk HS
 have HS : Bx (St w0 ([HD.asr ⟨qa, qc, qb, qe, p.d.flush⟩, boxA b2 3 44 (.agg #[.slice qa p.d.flush.fCells.length qc, .slice qb p.d.flush.fWaits.length qe, .bool p.d.flush.fGone]), boxA b1 3 44 (.agg #[.slice p.a0 p.d.fCells.length p.c0, .slice p.a1 p.d.fWaits.length p.c1, .bool p.d.fGone])]) _) := HS
 refine wl_ne ?_
 refine wp_ret ?_
 refine bp_ret1 HF Try.results62 (HF.resBox rfl (HS.out.box 1 rfl) (by kernel_rfl)) ?_
 replace HS : Bx (St w0 ([HD.asr ⟨qa, qc, qb, qe, p.d.flush⟩, boxA b2 3 44 (.agg #[.slice qa p.d.flush.fCells.length qc, .slice qb p.d.flush.fWaits.length qe, .bool p.d.flush.fGone]), boxA b1 3 44 (.agg #[.slice p.a0 p.d.fCells.length p.c0, .slice p.a1 p.d.fWaits.length p.c1, .bool p.d.fGone])]) _) := ⟨(HS.out).pick 0 rfl⟩
 exact ⟨⟨qa, qc, qb, qe, p.d.flush⟩, rfl, rfl, ((HS.out.erase 2).erase 1)⟩

theorem rflush1_any (w0 w : World) (ps : List HD) (k : Nat) (hok : (ps.getD k default).d.ok = true) (hf : (ps.getD k default).d.fits) (hp : (ps.getD k default).reads w0) (X : List Asr) (hS : St w0 X w) : Calls Try.prog 61 #[.int .i64 (k : Int), .agg #[.slice ((ps.getD k default).a0) ((ps.getD k default).d.fCells.length) ((ps.getD k default).c0), .slice ((ps.getD k default).a1) ((ps.getD k default).d.fWaits.length) ((ps.getD k default).c1), .bool ((ps.getD k default).d.fGone)]] w fun e w' => (some (ps.getD k default).d.flush = none ∧ ∃ q : HD, e = .returned (.tuple #[.agg #[.slice q.a0 q.d.fCells.length q.c0, .slice q.a1 q.d.fWaits.length q.c1, .bool q.d.fGone], .bool false]) ∧ St w0 X w') ∨ (∃ q : HD, some (ps.getD k default).d.flush = some q.d ∧ e = .returned (.tuple #[.agg #[.slice q.a0 q.d.fCells.length q.c0, .slice q.a1 q.d.fWaits.length q.c1, .bool q.d.fGone], .bool true]) ∧ St w0 (q.asr :: ([] ++ X)) w') := by
 have HP := Bx.mk hp; clear hp
 have HS := Bx.mk hS; clear hS
 refine wc_enter Try.func61 rfl Try.ntmps61 [(0, .int .i64 (k : Int)), (1, .agg #[.slice ((ps.getD k default).a0) ((ps.getD k default).d.fCells.length) ((ps.getD k default).c0), .slice ((ps.getD k default).a1) ((ps.getD k default).d.fWaits.length) ((ps.getD k default).c1), .bool ((ps.getD k default).d.fGone)])] ⟨rfl, rfl, trivial⟩ rfl ?_; intro a HF
 refine wp_sr ?_
 refine wl_box rfl HF rfl (HF.ev rfl) (Z := [.slice ((ps.getD k default).a0) ((ps.getD k default).d.fCells.length) ((ps.getD k default).c0), .slice ((ps.getD k default).a1) ((ps.getD k default).d.fWaits.length) ((ps.getD k default).c1), .bool ((ps.getD k default).d.fGone)]) rfl rfl rfl rfl HS.out ?_; clear HF HS a; intro a w1 b1 HF HS; replace HS := Bx.mk HS
 refine wl_alloc rfl HF rfl rfl rfl (Z := [.slice none 0 0, .slice none 0 0, .bool false]) (by kernel_rfl) rfl HS.out ?_; clear HF HS a; intro a w2 b2 HF HS; replace HS := Bx.mk HS
 refine wl_as HF rfl rfl rfl rfl rfl ?_; clear HF a; intro a HF
 refine wl_ne ?_
 refine wp_sr ?_
 refine wl_y rfl HF rfl rfl (yl_loadR (cs := [.slice ((ps.getD k default).a0) ((ps.getD k default).d.fCells.length) ((ps.getD k default).c0), .slice ((ps.getD k default).a1) ((ps.getD k default).d.fWaits.length) ((ps.getD k default).c1), .bool ((ps.getD k default).d.fGone)]) rfl (HF.ev rfl) ((HS.out.box 1 rfl).sub 0 3) (by kernel_rfl)) ?_; clear HF a; intro a HF
 refine wl_call rfl HF rfl (enter_of Try.func62 (by kernel_rfl) rfl) (args := #[.agg #[.slice ((ps.getD k default).a0) ((ps.getD k default).d.fCells.length) ((ps.getD k default).c0), .slice ((ps.getD k default).a1) ((ps.getD k default).d.fWaits.length) ((ps.getD k default).c1), .bool ((ps.getD k default).d.fGone)]]) rfl (diskFlush_any (ps.getD k default) _ (HP.out.below HS.out.bel) hf hok) rfl rfl ?_
 rintro _ w3 ⟨⟨qa3, qc3, qb3, qe3, qd⟩, hqd, rfl, hs⟩; obtain rfl : qd = (ps.getD k default).d.flush := hqd; refine ⟨_, rfl, ?_⟩
 replace HS := Bx.mk ((HS.out.add hs)); clear hs HF; clear a; intro a HF
 replace HS : Bx (St w0 (HD.asr ⟨qa3, qc3, qb3, qe3, (ps.getD k default).d.flush⟩ :: boxA b2 3 44 (.agg #[.slice none 0 0, .slice none 0 0, .bool false]) :: boxA b1 3 44 (.agg #[.slice ((ps.getD k default).a0) ((ps.getD k default).d.fCells.length) ((ps.getD k default).c0), .slice ((ps.getD k default).a1) ((ps.getD k default).d.fWaits.length) ((ps.getD k default).c1), .bool ((ps.getD k default).d.fGone)]) :: X) _) := ⟨HS.out⟩
 refine wl_storeBox rfl HF rfl rfl (HF.ev rfl) (HF.ev rfl) HS.out 1 rfl (cells_lit [.slice qa3 ((ps.getD k default).d.flush.fCells.length) qc3, .slice qb3 ((ps.getD k default).d.flush.fWaits.length) qe3, .bool ((ps.getD k default).d.flush.fGone)] rfl rfl) (by kernel_rfl) ?_; clear HS; intro w4 HS; replace HS := Bx.mk HS
 have HS : Bx (St w0 (HD.asr ⟨qa3, qc3, qb3, qe3, (ps.getD k default).d.flush⟩ :: boxA b2 3 44 (.agg #[.slice qa3 ((ps.getD k default).d.flush.fCells.length) qc3, .slice qb3 ((ps.getD k default).d.flush.fWaits.length) qe3, .bool ((ps.getD k default).d.flush.fGone)]) :: boxA b1 3 44 (.agg #[.slice ((ps.getD k default).a0) ((ps.getD k default).d.fCells.length) ((ps.getD k default).c0), .slice ((ps.getD k default).a1) ((ps.getD k default).d.fWaits.length) ((ps.getD k default).c1), .bool ((ps.getD k default).d.fGone)]) :: X) _) := HS
 refine wl_as HF rfl rfl rfl rfl rfl ?_; clear HF a; intro a HF
 refine wl_ne ?_
 refine wp_ret ?_
 refine bp_ret2 HF Try.results61 (HF.resBox rfl (HS.out.box 1 rfl) (by kernel_rfl)) (HF.res rfl) ?_
 replace HS : Bx (St w0 (HD.asr ⟨qa3, qc3, qb3, qe3, (ps.getD k default).d.flush⟩ :: boxA b2 3 44 (.agg #[.slice qa3 ((ps.getD k default).d.flush.fCells.length) qc3, .slice qb3 ((ps.getD k default).d.flush.fWaits.length) qe3, .bool ((ps.getD k default).d.flush.fGone)]) :: boxA b1 3 44 (.agg #[.slice ((ps.getD k default).a0) ((ps.getD k default).d.fCells.length) ((ps.getD k default).c0), .slice ((ps.getD k default).a1) ((ps.getD k default).d.fWaits.length) ((ps.getD k default).c1), .bool ((ps.getD k default).d.fGone)]) :: X) _) := ⟨(HS.out).pick 0 rfl⟩
 exact .inr ⟨⟨qa3, qc3, qb3, qe3, (ps.getD k default).d.flush⟩, rfl, rfl, ((HS.out.erase 2).erase 1)⟩

theorem eachTo_map (g : DiskD → DiskD) (ds : List DiskD) : ∀ n, n ≤ ds.length → eachTo (fun _ d => some (g d)) ds n = some ((ds.take n).map g)
  | 0, _ => rfl
  | n + 1, h => by
    have ih := eachTo_map g ds n (by omega)
    rw [eachTo_next ih rfl, List.take_succ_eq_append_getElem (by omega), getD_get (by omega), List.map_append]; rfl

theorem raidFlush_any (a0 : Option Addr) (c0 : Nat) (ps : List HD) (w0 : World) (hl : ps.length ≤ 1048576) (hf : fitsL ps) (hp : rdsP a0 ps w0) (hok : okR (dsOf ps) = true) : Calls Try.prog 15 #[.agg #[.slice a0 ps.length c0]] w0 fun e w' => ∃ (ao : Option Addr) (cp : Nat) (qs : List HD), dsOf qs = (dsOf ps).map DiskD.flush ∧ e = .returned (.agg #[.slice ao qs.length cp]) ∧ St w0 [rowA HD.cells 3 44 (.slice ao qs.length cp) qs, sepA (qs.map HD.asr)] w' := by
 have h3 := okR_three hok; have heq : eachTo (fun _ d => some d.flush) (dsOf ps) ps.length = some ((dsOf ps).map DiskD.flush) := by rw [eachTo_map _ _ _ (by rw [dsOf_len]; omega), ← dsOf_len, List.take_length]
 have HS := Bx.mk (St.start w0)
 refine wc_enter Try.func15 rfl Try.ntmps15 [(0, .agg #[.slice a0 ps.length c0])] ⟨rfl, trivial⟩ rfl ?_; intro a HF
 refine wp_sr ?_
 refine wl_box rfl HF rfl (HF.ev rfl) (Z := [.slice a0 ps.length c0]) rfl rfl rfl rfl HS.out ?_; clear HF HS a; intro a w1 b1 HF HS; replace HS := Bx.mk HS
 refine wl_alloc rfl HF rfl rfl rfl (Z := [.slice none 0 0]) (by kernel_rfl) rfl HS.out ?_; clear HF HS a; intro a w2 b2 HF HS; replace HS := Bx.mk HS
 refine wl_ne ?_
 refine wp_seq ?_
 refine wp_sr ?_
 refine wl_y rfl HF rfl rfl (yl_loadR (cs := [.slice a0 ps.length c0]) rfl (HF.ev rfl) ((HS.out.box 1 rfl).sub 0 1) (by kernel_rfl)) ?_; clear HF a; intro a HF
 refine wl_callB rfl HF rfl (enter_of Try.func45 (by kernel_rfl) rfl) (args := #[.agg #[.slice a0 ps.length c0]]) rfl (v := .bool true) ((by have := implRaidOk_any a0 c0 ps _ hl hf.at (hp.1.below HS.out.bel) (fun k hk => (hp.at k hk).below HS.out.bel); rw [hok] at this; exact this)) rfl rfl HS.out ?_; clear HF HS a; intro w3 a HS HF; replace HS := Bx.mk HS
 refine wl_y rfl HF rfl rfl (yl_not rfl (HF.ev rfl)) ?_; clear HF a; intro a HF
 refine wl_ne ?_
 refine wc_false HF rfl ?_
 refine wp_skip ?_
 refine ex_then ?_
 refine wp_sr ?_
 refine wl_y rfl HF rfl rfl (yl_loadR (cs := [.slice a0 ps.length c0]) rfl (HF.ev rfl) ((HS.out.box 1 rfl).sub 0 1) (by kernel_rfl)) ?_; clear HF a; intro a HF
 refine wl_call rfl HF rfl (enter_of Try.func47 (by kernel_rfl) rfl) (args := #[.agg #[.slice a0 ps.length c0], .func (.func 61) #[] #[]]) rfl (each_any w0 _ a0 c0 ps 61 #[] (fun _ d => some d.flush) (fun _ => []) [boxA b2 1 25 (.agg #[.slice none 0 0]), boxA b1 1 25 (.agg #[.slice a0 ps.length c0])] hl (enter_of Try.func61 (by kernel_rfl) rfl) hp.1 (fun k hk w X _ hS => rflush1_any w0 w ps k (h3.2 k (by omega)) (hf.at k) (hp.at k hk) X hS) HS.out) rfl rfl ?_
 rintro _ w4 (⟨hev, _, _⟩ | ⟨ao, cp, qs, hev, rfl, hs⟩)
 ·rw [heq] at hev; cases hev
 refine ⟨_, rfl, ?_⟩; replace HS := Bx.mk hs; clear hs HF; clear a; intro a HF
 replace HS : Bx (St w0 ([rowA HD.cells 3 44 (.slice ao qs.length cp) qs, sepA (qs.map HD.asr), boxA b2 1 25 (.agg #[.slice none 0 0]), boxA b1 1 25 (.agg #[.slice a0 ps.length c0])]) _) := ⟨HS.out⟩
 refine wl_mv HF rfl rfl rfl rfl rfl ?_; clear HF a; intro a HF
 refine wl_y rfl HF rfl rfl (yl_extract rfl (HF.ev rfl) rfl) ?_; clear HF a; intro a HF
 refine wl_y rfl HF rfl rfl (yl_extract rfl (HF.ev rfl) rfl) ?_; clear HF a; intro a HF
 refine wl_alloc rfl HF rfl rfl rfl (Z := [.slice none 0 0]) (by kernel_rfl) rfl HS.out ?_; clear HF HS a; intro a w5 b3 HF HS; replace HS := Bx.mk HS
 refine wl_storeBox rfl HF rfl rfl (HF.ev rfl) (HF.ev rfl) HS.out 0 rfl (cells_lit [.slice ao qs.length cp] rfl rfl) (by kernel_rfl) ?_; clear HS; intro w6 HS; replace HS := Bx.mk HS
 have HS : Bx (St w0 ([boxA b3 1 25 (.agg #[.slice ao qs.length cp]), rowA HD.cells 3 44 (.slice ao qs.length cp) qs, sepA (qs.map HD.asr), boxA b2 1 25 (.agg #[.slice none 0 0]), boxA b1 1 25 (.agg #[.slice a0 ps.length c0])]) _) := HS
 refine wl_as HF rfl rfl rfl rfl rfl ?_; clear HF a; intro a HF
 refine wl_ne ?_
 refine wp_sr ?_
 refine wl_y rfl HF rfl rfl (yl_loadR (cs := [.slice ao qs.length cp]) rfl (HF.ev rfl) ((HS.out.box 0 rfl).sub 0 1) (by kernel_rfl)) ?_; clear HF a; intro a HF
 refine wl_storeBox rfl HF rfl rfl (HF.ev rfl) (HF.ev rfl) HS.out 3 rfl (cells_lit [.slice ao qs.length cp] rfl rfl) (by kernel_rfl) ?_; clear HS; intro w7 HS; replace HS := Bx.mk HS
 have HS : Bx (St w0 ([boxA b3 1 25 (.agg #[.slice ao qs.length cp]), rowA HD.cells 3 44 (.slice ao qs.length cp) qs, sepA (qs.map HD.asr), boxA b2 1 25 (.agg #[.slice ao qs.length cp]), boxA b1 1 25 (.agg #[.slice a0 ps.length c0])]) _) := HS
 refine wl_ne ?_
 refine wp_ret ?_
 refine bp_ret1 HF Try.results15 (HF.resBox rfl (HS.out.box 3 rfl) (by kernel_rfl)) ?_
 replace HS : Bx (St w0 ([rowA HD.cells 3 44 (.slice ao qs.length cp) qs, sepA (qs.map HD.asr), boxA b3 1 25 (.agg #[.slice ao qs.length cp]), boxA b2 1 25 (.agg #[.slice ao qs.length cp]), boxA b1 1 25 (.agg #[.slice a0 ps.length c0])]) _) := ⟨((HS.out).pick 2 rfl).pick 2 rfl⟩
 exact ⟨_, _, qs, (Option.some.inj (heq.symm.trans hev)).symm, rfl, (((HS.out.erase 4).erase 3).erase 2)⟩

end Go.Proofs.Ytfijfjjleelphaa

/- The plain law of writing. -/
namespace Go.Proofs.Ytfijfjjleelphaa
set_option maxHeartbeats 1000000
set_option maxRecDepth 100000
open Go.RowKit
theorem ptr_written {row : Int} {t : ByteArray} (h2 : inB row 8 63 = true) (h3 : inB (t.size : Int) 1 128 = true) : (ptrOf row 1 0 t).ok = true ∧ (ptrOf row 1 0 t).hole = false ∧ (ptrOf row 1 0 t).fits t = true ∧ (ptrOf row 1 0 t).fAt = row := by
  have hs := sumOf_le t
  have hb := inB_bounds h2
  have hk : (ptrAt row 1 0 t).ok = true := by
    unfold PtrD.ok ptrAt
    rw [h2, h3, inB_yes (n := (1 : Int)) (by omega) (by omega), inB_yes (n := sumOf t) hs.1 hs.2, inB_yes (n := (0 : Int)) (by omega) (by omega)]
    simp
  have hh : (ptrAt row 1 0 t).hole = false := by unfold PtrD.hole ptrAt; simp
  have ho : ptrOf row 1 0 t = ptrAt row 1 0 t := ptrOf_yes (by unfold ptrOk; rw [h3, hk]; rfl)
  rw [ho]
  refine ⟨hk, hh, ?_, rfl⟩
  unfold PtrD.fits
  rw [hk, hh]
  simp [ptrAt]
theorem flush_ok {d : DiskD} (h : d.ok = true) : d.flush.ok = true := by
  have hf := ok_at2 h
  unfold DiskD.ok at h ⊢
  simp only [Bool.and_eq_true, decide_eq_true_eq, Bool.not_eq_true'] at h ⊢
  obtain ⟨h1, h2, h3, h4, h5⟩ := h
  refine ⟨(flush_c d).trans h1, Nat.zero_le _, ?_, allB_mk fun k hk => ?_, rfl⟩
  · show (d.fGone && decide (0 < 0)) = false
    simp
  · have hsz : ∀ x, x ∈ d.flush.fCells → x.size ≤ 200 := fun x hx => by
      rcases flush_mem _ _ _ hx with h6 | ⟨v, h6, rfl⟩
      · obtain ⟨j, hj, rfl⟩ := List.mem_iff_getElem.1 h6
        have := allB_at h4 hj
        unfold cellB at this
        rw [show d.fCells.getD j ByteArray.empty = d.fCells[j] by simp [List.getD, hj], Bool.and_eq_true, decide_eq_true_eq] at this
        exact this.1
      · obtain ⟨j, hj, rfl⟩ := List.mem_iff_getElem.1 h6
        have := allB_at h5 hj
        unfold waitB at this
        rw [getD_get hj, Bool.and_eq_true, decide_eq_true_eq] at this
        exact this.2
    unfold cellB
    rw [decide_eq_true (getD_le hsz k), Bool.true_and]
    cases hg : d.fGone
    · show (!(d.fGone && _)) = true; rw [hg]; rfl
    · have hw0 : d.fWaits = [] := by
        rw [hg, Bool.true_and] at h3
        have := of_decide_eq_false h3
        exact List.length_eq_zero_iff.1 (by omega)
      have he : d.flush.fCells = d.fCells := by show d.fWaits.foldl setW d.fCells = _; rw [hw0]; rfl
      have := allB_at h4 (k := k) (by rw [← he]; exact hk)
      unfold cellB at this
      rw [Bool.and_eq_true] at this
      rw [he]; exact this.2
theorem flush_look2 {d : DiskD} (h : d.ok = true) {m : Nat} (hm : m < 64) : d.flush.look m = d.look m := by
  have hl := (ok_waits h).1
  have hf := ok_at2 h
  refine flush_look d m (fun w hw => ?_) (by omega)
  obtain ⟨j, hj, rfl⟩ := List.mem_iff_getElem.1 hw
  have := hf j hj
  rw [getD_get hj] at this
  exact this
theorem map_get {ds : List DiskD} {g : DiskD → DiskD} {k : Nat} (hk : k < ds.length) : (ds.map g).getD k default = g (ds.getD k default) := by
  rw [getD_get (by rw [List.length_map]; exact hk), getD_get hk, List.getElem_map]
theorem okR_flush {ds : List DiskD} (h : okR ds = true) : okR (ds.map DiskD.flush) = true := by
  obtain ⟨h1, h2⟩ := okR_at h
  exact okR_of (by rw [List.length_map]; exact h1) fun k hk => by rw [map_get (by omega)]; exact flush_ok (h2 k hk)
/-- What was written: the disks have its columns. -/
theorem write_cols {ds es : List DiskD} {row : Int} {t : ByteArray} (h : writeF ds row t = some es) : okR ds = true ∧ inB row 8 63 = true ∧ inB (t.size : Int) 1 128 = true ∧ okR es = true ∧ ds.length = 3 ∧ es.length = 3 ∧ (∀ i, i < 3 → hasCol t row.toNat i (es.getD i default)) ∧ (∀ i, i < 3 → (es.getD i default).fGone = (ds.getD i default).fGone) ∧ lostN es 3 = lostN ds 3 := by
  unfold writeF at h
  cases h1 : okR ds
  · rw [h1] at h; cases h
  cases h2 : inB row 8 63
  · rw [h1, h2] at h; cases h
  cases h3 : inB (t.size : Int) 1 128
  · rw [h1, h2, h3] at h; cases h
  rw [h1, h2, h3] at h
  have h : eachTo (stepPut row (colOf t) (fun _ => true)) ds 3 = some es := h
  have hb := inB_bounds h2
  obtain ⟨m, rfl⟩ : ∃ m : Nat, row = (m : Int) := ⟨row.toNat, by omega⟩
  obtain ⟨k1, k2⟩ := okR_at h1
  have hel := eachTo_len h
  have hst := fun k (hk : k < 3) => stepPut_cols (eachTo_at2 h hk) (fun hb => by cases hb)
  refine ⟨rfl, rfl, rfl, okR_of hel fun k hk => (hst k hk).2.2.1 (k2 k hk), k1, hel, fun i hi => (hst i hi).1, fun i hi => (hst i hi).2.1, ?_⟩
  rw [lostN_three, lostN_three, (hst 0 (by omega)).2.1, (hst 1 (by omega)).2.1, (hst 2 (by omega)).2.1]
end Go.Proofs.Ytfijfjjleelphaa

/- The plain law of a spoilt column. -/
namespace Go.Proofs.Ytfijfjjleelphaa
set_option maxHeartbeats 1000000
set_option maxRecDepth 100000
open Go.RowKit
theorem look_still {d : DiskD} (h : d.fWaits = []) (m : Nat) : d.look m = d.fCells.getD m ByteArray.empty := by unfold DiskD.look; rw [h]; rfl
theorem cells_set_get {xs : List ByteArray} {m : Nat} {j : ByteArray} (h : m < xs.length) : (xs.set m j).getD m ByteArray.empty = j := by simp [List.getD, h]
end Go.Proofs.Ytfijfjjleelphaa

/- Laws for the draws, 4: shifts and bits. -/
namespace Go.Proofs.Ytfijfjjleelphaa
set_option maxHeartbeats 1000000
set_option maxRecDepth 100000
open Go.RowKit
theorem elemI : ElemT Try.prog 52 3 1 8 := by
  obtain ⟨i0, hi, hz0, hz1, hz2⟩ := info_parts (P := Try.prog) (e := 3) (z := .int .i64 0) (size := 1) (bytes := 8) (by kernel_rfl)
  exact ⟨Try.underlying52, ⟨i0, _, hi, hz0, hz1, hz2, rfl⟩, by decide⟩
def shrV (m n : Int) : Int := m.fdiv (2 ^ min n.toNat 64)
def shlV (m n : Int) : Int := IntKind.i64.wrap (m * 2 ^ min n.toNat 64)
def andV (m n : Int) : Int := IntKind.i64.wrap ((BitVec.ofInt 64 m &&& BitVec.ofInt 64 n).toNat : Int)
section
variable {P : Program} {o : Oper} {a : Act} {w : World} {t t' : TypeId} {x y : Operand}
theorem yl_shrI (ho : o.op = .binOp .shr t x y t') {m n : Int} (hx : a.eval x = .int .i64 m) (hy : a.eval y = .int .i64 n) (hn : 0 ≤ n) : Yl P w o a (.int .i64 (shrV m n)) := by
  have h : ¬ n < 0 := by omega
  unfold Yl execOp shrV
  simp only [ho, hx, hy]
  simp [eqGuard, binOp, Op.shift, h, IntKind.bits]
theorem yl_shlI (ho : o.op = .binOp .shl t x y t') {m n : Int} (hx : a.eval x = .int .i64 m) (hy : a.eval y = .int .i64 n) (hn : 0 ≤ n) : Yl P w o a (.int .i64 (shlV m n)) := by
  have h : ¬ n < 0 := by omega
  unfold Yl execOp shlV
  simp only [ho, hx, hy]
  simp [eqGuard, binOp, Op.shift, h, IntKind.bits]
theorem yl_andI (ho : o.op = .binOp .and t x y t') {m n : Int} (hx : a.eval x = .int .i64 m) (hy : a.eval y = .int .i64 n) : Yl P w o a (.int .i64 (andV m n)) := by
  unfold Yl execOp
  simp only [ho, hx, hy]
  simp [eqGuard, binOp, Op.intBits, IntKind.bits]
  rfl
end
end Go.Proofs.Ytfijfjjleelphaa

/- Disks that crash, by the program. -/
namespace Go.Proofs.Ytfijfjjleelphaa
set_option maxHeartbeats 1000000
set_option maxRecDepth 100000
open Go.RowKit

theorem ba_extract_size (t : ByteArray) (i j : Nat) : (t.extract i j).size ≤ t.size := by
  rw [size_list, list_extract, List.length_take, List.length_drop, ← size_list]; omega

/-- What lies there behind a crash. -/
def crashT (mask torn : Int) (k : Nat) (t old : ByteArray) : ByteArray := (bif ((andV (shrV mask ((k : Int) % 60)) 1) == 1) then t else (bif ((k : Int) == torn) then (bif (decide (((t.size : Int) / 2) < (old.size : Int))) then (t.extract 0 (t.size / 2)) ++ (old.extract (t.size / 2) old.size) else t.extract 0 (t.size / 2)) else old))

theorem crash1_any (w0 w : World) (bm bt : Nat) (mask torn : Int) (k : Nat) (hk : k ≤ 1048576) (n : Int) (t old : ByteArray) (ht : t.size ≤ 1000000) (ho : old.size ≤ 1000000) (X : List Asr) (hS : St w0 (boxA bm 1 3 (.agg #[.int .i64 mask]) :: boxA bt 1 3 (.agg #[.int .i64 torn]) :: X) w) : Calls Try.prog 134 #[.int .i64 (k : Int), .agg #[.int .i64 n, .string t], .string old, .pointer (some ⟨bm, 0, none⟩), .pointer (some ⟨bt, 0, none⟩)] w fun e w' => e = .returned (.string (crashT mask torn k t old)) ∧ St w0 (boxA bm 1 3 (.agg #[.int .i64 mask]) :: boxA bt 1 3 (.agg #[.int .i64 torn]) :: X) w' := by
 have HS := Bx.mk hS; clear hS
 refine wc_enter Try.func134 rfl Try.ntmps134 [(0, .int .i64 (k : Int)), (1, .agg #[.int .i64 n, .string t]), (2, .string old), (3, .pointer (some ⟨bm, 0, none⟩)), (4, .pointer (some ⟨bt, 0, none⟩))] ⟨rfl, rfl, rfl, rfl, rfl, trivial⟩ rfl ?_; intro a HF
 refine wp_sr ?_
 refine wl_box rfl HF rfl (HF.ev rfl) (Z := [.int .i64 n, .string t]) rfl rfl rfl rfl HS.out ?_; clear HF HS a; intro a w1 b1 HF HS; replace HS := Bx.mk HS
 refine wl_as HF rfl rfl rfl rfl rfl ?_; clear HF a; intro a HF
 refine wl_ne ?_
 refine wp_seq ?_
 refine wp_sr ?_
 refine wl_y rfl HF rfl rfl (yl_fieldAddr (j := 1) rfl (HF.ev rfl) (by kernel_rfl)) ?_; clear HF a; intro a HF
 refine wl_y rfl HF rfl rfl (yl_load (v := .string t) rfl (HF.ev rfl) (((HS.out.box 0 rfl).cell 1).trans rfl) (by kernel_rfl)) ?_; clear HF a; intro a HF
 refine wl_y rfl HF rfl rfl (yl_lenS rfl (HF.ev rfl) (by kernel_rfl)) ?_; clear HF a; intro a HF
 refine wl_y rfl HF rfl rfl (yl_quoI rfl (HF.ev rfl) (HF.ev rfl) (by omega) (quo_pos (by omega) (by omega) (by omega))) ?_; clear HF a; intro a HF
 refine wl_as HF rfl rfl rfl rfl rfl ?_; clear HF a; intro a HF
 refine wl_ne ?_
 refine wp_block ?_
 refine wp_sr ?_
 refine wl_y rfl HF rfl rfl (yl_load (v := .int .i64 mask) rfl (HF.ev rfl) (((HS.out.box 1 rfl).cell 0).trans rfl) (by kernel_rfl)) ?_; clear HF a; intro a HF
 refine wl_mv HF rfl rfl rfl rfl rfl ?_; clear HF a; intro a HF
 refine wl_y rfl HF rfl rfl (yl_remI rfl (HF.ev rfl) (HF.ev rfl) (by omega) (rem_pos (by omega) (by omega))) ?_; clear HF a; intro a HF
 refine wl_y rfl HF rfl rfl (yl_shrI rfl (HF.ev rfl) (HF.ev rfl) (by omega)) ?_; clear HF a; intro a HF
 refine wl_y rfl HF rfl rfl (yl_andI rfl (HF.ev rfl) (HF.ev rfl)) ?_; clear HF a; intro a HF
 refine wl_y rfl HF rfl rfl (yl_eqlI rfl (HF.ev rfl) (HF.ev rfl)) ?_; clear HF a; intro a HF
 refine wl_as HF rfl rfl rfl rfl rfl ?_; clear HF a; intro a HF
 refine wl_ne ?_
 refine HF.cases 14 rfl (fun cc1 HF1 => ?_) (fun cc1 HF1 => ?_)
 ·clear HF; have HF := HF1; clear HF1
  have dcc1 := eq_of_beq cc1
  refine wc_true HF rfl ?_
  refine wp_sr ?_
  refine wl_y rfl HF rfl rfl (yl_fieldAddr (j := 1) rfl (HF.ev rfl) (by kernel_rfl)) ?_; clear HF a; intro a HF
  refine wl_y rfl HF rfl rfl (yl_load (v := .string t) rfl (HF.ev rfl) (((HS.out.box 0 rfl).cell 1).trans rfl) (by kernel_rfl)) ?_; clear HF a; intro a HF
  refine wl_as HF rfl rfl rfl rfl rfl ?_; clear HF a; intro a HF
  refine wl_ne ?_
  refine wp_ret ?_
  refine ex_block_ret ?_
  refine ex_then_ret ?_
  refine bp_ret1 HF Try.results134 (HF.res rfl) ?_
  have hfn : crashT mask torn k t old = t := by simp only [crashT, cc1, cond_true, cond_false]
  replace HS : Bx (St w0 (boxA bm 1 3 (.agg #[.int .i64 mask]) :: boxA bt 1 3 (.agg #[.int .i64 torn]) :: boxA b1 2 144 (.agg #[.int .i64 n, .string t]) :: X) _) := ⟨((HS.out).pick 2 rfl).pick 2 rfl⟩
  exact ⟨by rw [hfn] <;> rfl, (HS.out.erase 2)⟩
 ·clear HF; have HF := HF1; clear HF1
  have dcc1 := ne_of_beq_false cc1
  refine wc_false HF rfl ?_
  refine wp_sr ?_
  refine wl_mv HF rfl rfl rfl rfl rfl ?_; clear HF a; intro a HF
  refine wl_y rfl HF rfl rfl (yl_load (v := .int .i64 torn) rfl (HF.ev rfl) (((HS.out.box 2 rfl).cell 0).trans rfl) (by kernel_rfl)) ?_; clear HF a; intro a HF
  refine wl_y rfl HF rfl rfl (yl_eqlI rfl (HF.ev rfl) (HF.ev rfl)) ?_; clear HF a; intro a HF
  refine wl_mv HF rfl rfl rfl rfl rfl ?_; clear HF a; intro a HF
  refine HF.cases 27 rfl (fun cc2 HF1 => ?_) (fun cc2 HF1 => ?_)
  ·clear HF; have HF := HF1; clear HF1
   have dcc2 := eq_of_beq cc2
   refine wl_yg HF rfl rfl rfl rfl rfl (yl_move rfl (HF.ev rfl)) ?_; clear HF a; intro a HF
   refine wl_yg HF rfl rfl rfl rfl rfl (yl_move rfl (HF.ev rfl)) ?_; clear HF a; intro a HF
   refine wl_yg HF rfl rfl rfl rfl rfl (yl_lenS rfl (HF.ev rfl) (by kernel_rfl)) ?_; clear HF a; intro a HF
   refine wl_yg HF rfl rfl rfl rfl rfl (yl_lssI rfl (HF.ev rfl) (HF.ev rfl)) ?_; clear HF a; intro a HF
   refine wl_y rfl HF rfl rfl (yl_pick_t rfl (HF.ev rfl) (HF.ev rfl)) ?_; clear HF a; intro a HF
   refine wl_as HF rfl rfl rfl rfl rfl ?_; clear HF a; intro a HF
   refine wl_ne ?_
   refine HF.cases 23 rfl (fun cc3 HF1 => ?_) (fun cc3 HF1 => ?_)
   ·clear HF; have HF := HF1; clear HF1
    have dcc3 := of_decide_eq_true cc3
    refine wc_true HF rfl ?_
    refine wp_seq ?_
    have hx1 := ba_extract_size t 0 (t.size / 2); have hx2 := ba_extract_size old (t.size / 2) old.size
    refine wr_quiet (by kernel_rfl) (by kernel_rfl) HS.out ?_
    refine wq_y rfl HF rfl rfl (fun _ HS => (yl_fieldAddr (j := 1) rfl (HF.ev rfl) (by kernel_rfl))) ?_; clear HF a; intro a HF
    refine wq_y rfl HF rfl rfl (fun _ HS => (yl_load (v := .string t) rfl (HF.ev rfl) (((HS.box 0 rfl).cell 1).trans rfl) (by kernel_rfl))) ?_; clear HF a; intro a HF
    refine wq_y rfl HF rfl rfl (fun _ HS => (yl_move rfl (HF.ev rfl))) ?_; clear HF a; intro a HF
    refine wq_y rfl HF rfl rfl (fun _ HS => (yl_sliceSh (k := t.size / 2) rfl (HF.ev rfl) (HF.ev rfl) (by kernel_rfl) (by omega) (by omega))) ?_; clear HF a; intro a HF
    refine wq_y rfl HF rfl rfl (fun _ HS => (yl_move rfl (HF.ev rfl))) ?_; clear HF a; intro a HF
    refine wq_y rfl HF rfl rfl (fun _ HS => (yl_move rfl (HF.ev rfl))) ?_; clear HF a; intro a HF
    refine wq_y rfl HF rfl rfl (fun _ HS => (yl_sliceSl (k := t.size / 2) rfl (HF.ev rfl) (HF.ev rfl) (by kernel_rfl) (by omega) (by omega))) ?_; clear HF a; intro a HF
    refine wq_y rfl HF rfl rfl (fun _ HS => (yl_addS rfl (HF.ev rfl) (HF.ev rfl) (by omega))) ?_; clear HF a; intro a HF
    refine wq_y rfl HF rfl rfl (fun _ HS => (yl_assign rfl (HF.ev rfl))) ?_; clear HF a; intro a HF
    refine wpQuiet_nil ?_; intro w2 HS; replace HS := Bx.mk HS
    refine ex_then ?_
    refine wp_ret ?_
    refine ex_block_ret ?_
    refine ex_then_ret ?_
    refine bp_ret1 HF Try.results134 (HF.res rfl) ?_
    have hfn : crashT mask torn k t old = (t.extract 0 (t.size / 2)) ++ (old.extract (t.size / 2) old.size) := by simp only [crashT, cc1, cc2, cc3, cond_true, cond_false]
    replace HS : Bx (St w0 (boxA bm 1 3 (.agg #[.int .i64 mask]) :: boxA bt 1 3 (.agg #[.int .i64 torn]) :: boxA b1 2 144 (.agg #[.int .i64 n, .string t]) :: X) _) := ⟨((HS.out).pick 2 rfl).pick 2 rfl⟩
    exact ⟨by rw [hfn] <;> rfl, (HS.out.erase 2)⟩
   ·clear HF; have HF := HF1; clear HF1
    have dcc3 := of_decide_eq_false cc3
    refine wc_false HF rfl ?_
    refine wp_sr ?_
    refine wl_mv HF rfl rfl rfl rfl rfl ?_; clear HF a; intro a HF
    refine wl_y rfl HF rfl rfl (yl_load (v := .int .i64 torn) rfl (HF.ev rfl) (((HS.out.box 2 rfl).cell 0).trans rfl) (by kernel_rfl)) ?_; clear HF a; intro a HF
    refine wl_y rfl HF rfl rfl (yl_eqlI rfl (HF.ev rfl) (HF.ev rfl)) ?_; clear HF a; intro a HF
    refine wl_as HF rfl rfl rfl rfl rfl ?_; clear HF a; intro a HF
    refine wl_ne ?_
    refine HF.cases 41 rfl (fun cc4 HF1 => ?_) (fun cc4 HF1 => ?_)
    ·clear HF; have HF := HF1; clear HF1
     have dcc4 := eq_of_beq cc4
     refine wc_true HF rfl ?_
     refine wp_sr ?_
     refine wl_y rfl HF rfl rfl (yl_fieldAddr (j := 1) rfl (HF.ev rfl) (by kernel_rfl)) ?_; clear HF a; intro a HF
     refine wl_y rfl HF rfl rfl (yl_load (v := .string t) rfl (HF.ev rfl) (((HS.out.box 0 rfl).cell 1).trans rfl) (by kernel_rfl)) ?_; clear HF a; intro a HF
     refine wl_mv HF rfl rfl rfl rfl rfl ?_; clear HF a; intro a HF
     refine wl_y rfl HF rfl rfl (yl_sliceSh (k := t.size / 2) rfl (HF.ev rfl) (HF.ev rfl) (by kernel_rfl) (by omega) (by omega)) ?_; clear HF a; intro a HF
     refine wl_as HF rfl rfl rfl rfl rfl ?_; clear HF a; intro a HF
     refine wl_ne ?_
     refine wp_ret ?_
     refine ex_block_ret ?_
     refine ex_then_ret ?_
     refine bp_ret1 HF Try.results134 (HF.res rfl) ?_
     have hfn : crashT mask torn k t old = t.extract 0 (t.size / 2) := by simp only [crashT, cc1, cc2, cc3, cc4, cond_true, cond_false]
     replace HS : Bx (St w0 (boxA bm 1 3 (.agg #[.int .i64 mask]) :: boxA bt 1 3 (.agg #[.int .i64 torn]) :: boxA b1 2 144 (.agg #[.int .i64 n, .string t]) :: X) _) := ⟨((HS.out).pick 2 rfl).pick 2 rfl⟩
     exact ⟨by rw [hfn] <;> rfl, (HS.out.erase 2)⟩
    ·clear HF; have HF := HF1; clear HF1
     rw [cc2] at cc4; cases cc4
  ·clear HF; have HF := HF1; clear HF1
   have dcc2 := ne_of_beq_false cc2
   refine wl_skip HF rfl rfl rfl rfl rfl rfl ?_; clear HF a; intro a HF
   refine wl_skip HF rfl rfl rfl rfl rfl rfl ?_; clear HF a; intro a HF
   refine wl_skip HF rfl rfl rfl rfl rfl rfl ?_; clear HF a; intro a HF
   refine wl_skip HF rfl rfl rfl rfl rfl rfl ?_; clear HF a; intro a HF
   refine wl_y rfl HF rfl rfl (yl_pick_f rfl (HF.ev rfl) (HF.ev rfl)) ?_; clear HF a; intro a HF
   refine wl_as HF rfl rfl rfl rfl rfl ?_; clear HF a; intro a HF
   refine wl_ne ?_
   refine wc_false HF rfl ?_
   refine wp_sr ?_
   refine wl_mv HF rfl rfl rfl rfl rfl ?_; clear HF a; intro a HF
   refine wl_y rfl HF rfl rfl (yl_load (v := .int .i64 torn) rfl (HF.ev rfl) (((HS.out.box 2 rfl).cell 0).trans rfl) (by kernel_rfl)) ?_; clear HF a; intro a HF
   refine wl_y rfl HF rfl rfl (yl_eqlI rfl (HF.ev rfl) (HF.ev rfl)) ?_; clear HF a; intro a HF
   refine wl_as HF rfl rfl rfl rfl rfl ?_; clear HF a; intro a HF
   refine wl_ne ?_
   refine HF.cases 41 rfl (fun cc5 HF1 => ?_) (fun cc5 HF1 => ?_)
   ·clear HF; have HF := HF1; clear HF1
    rw [cc2] at cc5; cases cc5
   ·clear HF; have HF := HF1; clear HF1
    have dcc5 := ne_of_beq_false cc5
    refine wc_false HF rfl ?_
    refine wp_skip ?_
    refine ex_block ?_
    refine ex_then ?_
    refine wp_sr ?_
    refine wl_mv HF rfl rfl rfl rfl rfl ?_; clear HF a; intro a HF
    refine wl_as HF rfl rfl rfl rfl rfl ?_; clear HF a; intro a HF
    refine wl_ne ?_
    refine wp_ret ?_
    refine bp_ret1 HF Try.results134 (HF.res rfl) ?_
    have hfn : crashT mask torn k t old = old := by simp only [crashT, cc1, cc2, cc5, cond_true, cond_false]
    replace HS : Bx (St w0 (boxA bm 1 3 (.agg #[.int .i64 mask]) :: boxA bt 1 3 (.agg #[.int .i64 torn]) :: boxA b1 2 144 (.agg #[.int .i64 n, .string t]) :: X) _) := ⟨((HS.out).pick 2 rfl).pick 2 rfl⟩
    exact ⟨by rw [hfn] <;> rfl, (HS.out.erase 2)⟩

end Go.Proofs.Ytfijfjjleelphaa

/- Sets of disks that crash, by the program. -/
namespace Go.Proofs.Ytfijfjjleelphaa
set_option maxHeartbeats 1000000
set_option maxRecDepth 100000
open Go.RowKit

theorem cells_set_ne {xs : List ByteArray} {m j : Nat} {x : ByteArray} (h : j ≠ m) : (xs.set m x).getD j ByteArray.empty = xs.getD j ByteArray.empty := by simp [List.getD, List.getElem?_set, Ne.symm h]
theorem crashT_le {mask torn : Int} {k : Nat} {t old : ByteArray} (ht : t.size ≤ 200) (ho : old.size ≤ 200) : (crashT mask torn k t old).size ≤ 200 := by
  have h1 := ba_extract_size t 0 (t.size / 2)
  unfold crashT
  cases ((andV (shrV mask ((k : Int) % 60)) 1) == 1)
  · cases ((k : Int) == torn)
    · exact ho
    · simp only [cond_true, cond_false]
      cases hd : decide (((t.size : Int) / 2) < (old.size : Int))
      · simp only [cond_false]; omega
      · simp only [cond_true]
        have h2 := of_decide_eq_true hd
        have h3 : (t.extract 0 (t.size / 2)).size = t.size / 2 := by rw [size_list, list_extract, List.length_take, List.length_drop, ← size_list]; omega
        have h4 : (old.extract (t.size / 2) old.size).size = old.size - t.size / 2 := by rw [size_list, list_extract, List.length_take, List.length_drop, ← size_list]; omega
        rw [ByteArray.size_append, h3, h4]; omega
  · exact ht
def crashG (mask torn : Int) (d : DiskD) (k : Nat) (old : ByteArray) : ByteArray := crashT mask torn k (d.fWaits.getD k default).fText old
/-- A disk behind a crash. -/
def DiskD.crash (mask torn : Int) (d : DiskD) : DiskD := ⟨settleTo (crashG mask torn d) d d.fWaits.length, [], d.fGone⟩
theorem text_le {d : DiskD} (h : d.ok = true) (k : Nat) : (d.fWaits.getD k default).fText.size ≤ 200 := by
  by_cases hk : k < d.fWaits.length
  · unfold DiskD.ok at h
    simp only [Bool.and_eq_true, decide_eq_true_eq] at h
    have := allB_at h.2.2.2.2 hk
    unfold waitB at this
    rw [Bool.and_eq_true, decide_eq_true_eq] at this
    exact this.2
  · rw [show d.fWaits.getD k default = default by simp [List.getD, List.getElem?_eq_none (Nat.le_of_not_lt hk)]]; exact Nat.zero_le _
theorem cellOf_le {d : DiskD} (h : d.ok = true) (m : Nat) : (d.fCells.getD m ByteArray.empty).size ≤ 200 := by
  by_cases hm : m < d.fCells.length
  · unfold DiskD.ok at h
    simp only [Bool.and_eq_true, decide_eq_true_eq] at h
    have := allB_at h.2.2.2.1 hm
    unfold cellB at this
    rw [Bool.and_eq_true, decide_eq_true_eq] at this
    exact this.1
  · rw [show d.fCells.getD m ByteArray.empty = ByteArray.empty by simp [List.getD, List.getElem?_eq_none (Nat.le_of_not_lt hm)]]; exact Nat.zero_le _
theorem settle_le {d : DiskD} (h : d.ok = true) (mask torn : Int) : ∀ k j, ((settleTo (crashG mask torn d) d k).getD j ByteArray.empty).size ≤ 200
  | 0, j => cellOf_le h j
  | k + 1, j => by
    have ih := settle_le h mask torn k
    unfold settleTo
    by_cases e : j = (d.fWaits.getD k default).fAt.toNat
    · by_cases hl : (d.fWaits.getD k default).fAt.toNat < (settleTo (crashG mask torn d) d k).length
      · rw [e, cells_set_get hl]
        exact crashT_le (text_le h k) (ih _)
      · rw [List.set_eq_of_length_le (by omega)]; exact ih j
    · rw [cells_set_ne e]
      exact ih j

theorem diskCrash_any (p : HD) (w0 : World) (hr : p.reads w0) (hf : p.d.fits) (hok : p.d.ok = true) (mask torn : Int) (hm : 0 ≤ mask) : Calls Try.prog 77 #[.agg #[.slice p.a0 p.d.fCells.length p.c0, .slice p.a1 p.d.fWaits.length p.c1, .bool p.d.fGone], .int .i64 mask, .int .i64 torn] w0 fun e w' => ∃ q : HD, q.d = p.d.crash mask torn ∧ e = .returned (.agg #[.slice q.a0 q.d.fCells.length q.c0, .slice q.a1 q.d.fWaits.length q.c1, .bool q.d.fGone]) ∧ St w0 [q.asr] w' := by
 have HP := Bx.mk hr; clear hr
 have HS := Bx.mk (St.start w0)
 refine wc_enter Try.func77 rfl Try.ntmps77 [(0, .agg #[.slice p.a0 p.d.fCells.length p.c0, .slice p.a1 p.d.fWaits.length p.c1, .bool p.d.fGone]), (1, .int .i64 mask), (2, .int .i64 torn)] ⟨rfl, rfl, rfl, trivial⟩ rfl ?_; intro a HF
 refine wp_sr ?_
 refine wl_box rfl HF rfl (HF.ev rfl) (Z := [.slice p.a0 p.d.fCells.length p.c0, .slice p.a1 p.d.fWaits.length p.c1, .bool p.d.fGone]) rfl rfl rfl rfl HS.out ?_; clear HF HS a; intro a w1 b1 HF HS; replace HS := Bx.mk HS
 refine wl_box rfl HF rfl (HF.ev rfl) (Z := [.int .i64 mask]) rfl rfl rfl rfl HS.out ?_; clear HF HS a; intro a w2 b2 HF HS; replace HS := Bx.mk HS
 refine wl_box rfl HF rfl (HF.ev rfl) (Z := [.int .i64 torn]) rfl rfl rfl rfl HS.out ?_; clear HF HS a; intro a w3 b3 HF HS; replace HS := Bx.mk HS
 refine wl_alloc rfl HF rfl rfl rfl (Z := [.slice none 0 0, .slice none 0 0, .bool false]) (by kernel_rfl) rfl HS.out ?_; clear HF HS a; intro a w4 b4 HF HS; replace HS := Bx.mk HS
 refine wl_ne ?_
 refine wp_seq ?_
 refine wp_sr ?_
 refine wl_y rfl HF rfl rfl (yl_loadR (cs := [.slice p.a0 p.d.fCells.length p.c0, .slice p.a1 p.d.fWaits.length p.c1, .bool p.d.fGone]) rfl (HF.ev rfl) ((HS.out.box 3 rfl).sub 0 3) (by kernel_rfl)) ?_; clear HF a; intro a HF
 refine wl_callB rfl HF rfl (enter_of Try.func68 (by kernel_rfl) rfl) (args := #[.agg #[.slice p.a0 p.d.fCells.length p.c0, .slice p.a1 p.d.fWaits.length p.c1, .bool p.d.fGone]]) rfl (v := .bool true) ((by have := implDiskOk_any p.a0 p.c0 p.a1 p.c1 p.d _ hf.c hf.w hf.cz hf.wz (HP.out.below HS.out.bel).rc (HP.out.below HS.out.bel).rw; rw [hok] at this; exact this)) rfl rfl HS.out ?_; clear HF HS a; intro w5 a HS HF; replace HS := Bx.mk HS
 refine wl_y rfl HF rfl rfl (yl_not rfl (HF.ev rfl)) ?_; clear HF a; intro a HF
 refine wl_mv HF rfl rfl rfl rfl rfl ?_; clear HF a; intro a HF
 refine wl_yg HF rfl rfl rfl rfl rfl (yl_load (v := .int .i64 mask) rfl (HF.ev rfl) (((HS.out.box 2 rfl).cell 0).trans rfl) (by kernel_rfl)) ?_; clear HF a; intro a HF
 refine wl_yg HF rfl rfl rfl rfl rfl (yl_lssI rfl (HF.ev rfl) (HF.ev rfl)) ?_; clear HF a; intro a HF
 refine wl_y rfl HF rfl rfl (yl_pick_f rfl (HF.ev rfl) (HF.ev rfl)) ?_; clear HF a; intro a HF
 refine wl_ne ?_
 refine HF.cases 13 rfl (fun cc1 HF1 => ?_) (fun cc1 HF1 => ?_)
 ·clear HF; have HF := HF1; clear HF1
  have := of_decide_eq_true cc1; omega
 ·clear HF; have HF := HF1; clear HF1
  refine wc_false HF rfl ?_
  refine wp_skip ?_
  refine ex_then ?_
  refine wp_sr ?_
  refine wl_y rfl HF rfl rfl (yl_loadR (cs := [.slice p.a0 p.d.fCells.length p.c0, .slice p.a1 p.d.fWaits.length p.c1, .bool p.d.fGone]) rfl (HF.ev rfl) ((HS.out.box 3 rfl).sub 0 3) (by kernel_rfl)) ?_; clear HF a; intro a HF
  refine wl_y rfl HF rfl rfl (yl_makeFunc HF rfl (cs := #[.pointer (some ⟨b2, 0, none⟩), .pointer (some ⟨b3, 0, none⟩)]) rfl) ?_; clear HF a; intro a HF
  replace HS : Bx (St w0 ([boxA b2 1 3 (.agg #[.int .i64 mask]), boxA b3 1 3 (.agg #[.int .i64 torn]), boxA b4 3 44 (.agg #[.slice none 0 0, .slice none 0 0, .bool false]), boxA b1 3 44 (.agg #[.slice p.a0 p.d.fCells.length p.c0, .slice p.a1 p.d.fWaits.length p.c1, .bool p.d.fGone])]) _) := ⟨((HS.out).pick 1 rfl).pick 2 rfl⟩
  refine wl_call rfl HF rfl (enter_of Try.func127 (by kernel_rfl) rfl) (args := #[.agg #[.slice p.a0 p.d.fCells.length p.c0, .slice p.a1 p.d.fWaits.length p.c1, .bool p.d.fGone], .func (.func 134) #[] #[.pointer (some ⟨b2, 0, none⟩), .pointer (some ⟨b3, 0, none⟩)]]) rfl (settle_any w0 _ p 134 #[.pointer (some ⟨b2, 0, none⟩), .pointer (some ⟨b3, 0, none⟩)] (crashG mask torn p.d) [boxA b2 1 3 (.agg #[.int .i64 mask]), boxA b3 1 3 (.agg #[.int .i64 torn])] [boxA b4 3 44 (.agg #[.slice none 0 0, .slice none 0 0, .bool false]), boxA b1 3 44 (.agg #[.slice p.a0 p.d.fCells.length p.c0, .slice p.a1 p.d.fWaits.length p.c1, .bool p.d.fGone])] hf HP.out (ok_at2 hok) (enter_of Try.func134 (by kernel_rfl) rfl) (fun k hk w X hS => crash1_any w0 w b2 b3 mask torn k (by have := hf.w; omega) _ _ _ (by have := text_le hok k; omega) (by have := settle_le hok mask torn k (p.d.fWaits.getD k default).fAt.toNat; omega) X hS) HS.out) rfl rfl ?_
  rintro _ w6 ⟨⟨qa, qc, qb, qe, qd⟩, hqd, rfl, hs⟩
  obtain rfl : qd = p.d.crash mask torn := hqd; refine ⟨_, rfl, ?_⟩; replace HS := Bx.mk hs; clear hs HF; clear a; intro a HF
  replace HS : Bx (St w0 ([HD.asr ⟨qa, qc, qb, qe, p.d.crash mask torn⟩, boxA b2 1 3 (.agg #[.int .i64 mask]), boxA b3 1 3 (.agg #[.int .i64 torn]), boxA b4 3 44 (.agg #[.slice none 0 0, .slice none 0 0, .bool false]), boxA b1 3 44 (.agg #[.slice p.a0 p.d.fCells.length p.c0, .slice p.a1 p.d.fWaits.length p.c1, .bool p.d.fGone])]) _) := ⟨HS.out⟩
  refine wl_storeBox rfl HF rfl rfl (HF.ev rfl) (HF.ev rfl) HS.out 3 rfl (cells_lit [.slice qa ((p.d.crash mask torn).fCells.length) qc, .slice qb ((p.d.crash mask torn).fWaits.length) qe, .bool ((p.d.crash mask torn).fGone)] rfl rfl) (by kernel_rfl) ?_; clear HS; intro w7 HS; replace HS := Bx.mk HS
  have HS : Bx (St w0 ([HD.asr ⟨qa, qc, qb, qe, p.d.crash mask torn⟩, boxA b2 1 3 (.agg #[.int .i64 mask]), boxA b3 1 3 (.agg #[.int .i64 torn]), boxA b4 3 44 (.agg #[.slice qa ((p.d.crash mask torn).fCells.length) qc, .slice qb ((p.d.crash mask torn).fWaits.length) qe, .bool ((p.d.crash mask torn).fGone)]), boxA b1 3 44 (.agg #[.slice p.a0 p.d.fCells.length p.c0, .slice p.a1 p.d.fWaits.length p.c1, .bool p.d.fGone])]) _) := HS
  refine wl_ne ?_
  refine wp_ret ?_
  refine bp_ret1 HF Try.results77 (HF.resBox rfl (HS.out.box 3 rfl) (by kernel_rfl)) ?_
  replace HS : Bx (St w0 ([HD.asr ⟨qa, qc, qb, qe, p.d.crash mask torn⟩, boxA b2 1 3 (.agg #[.int .i64 mask]), boxA b3 1 3 (.agg #[.int .i64 torn]), boxA b4 3 44 (.agg #[.slice qa ((p.d.crash mask torn).fCells.length) qc, .slice qb ((p.d.crash mask torn).fWaits.length) qe, .bool ((p.d.crash mask torn).fGone)]), boxA b1 3 44 (.agg #[.slice p.a0 p.d.fCells.length p.c0, .slice p.a1 p.d.fWaits.length p.c1, .bool p.d.fGone])]) _) := ⟨(HS.out).pick 0 rfl⟩
  exact ⟨⟨qa, qc, qb, qe, p.d.crash mask torn⟩, rfl, rfl, ((((HS.out.erase 4).erase 3).erase 2).erase 1)⟩

end Go.Proofs.Ytfijfjjleelphaa

/- A set of disks crashes, by the program. -/
namespace Go.Proofs.Ytfijfjjleelphaa
set_option maxHeartbeats 1000000
set_option maxRecDepth 100000
open Go.RowKit

def minTo (xs : List Int) : Nat → Int
  | 0 => xs.getD 0 0
  | k + 1 => min (minTo xs k) (xs.getD (k + 1) 0)
theorem minTo_le (xs : List Int) : ∀ k j, j ≤ k → minTo xs k ≤ xs.getD j 0
  | 0, j, h => by obtain rfl : j = 0 := by omega
                  exact Int.le_refl _
  | k + 1, j, h => by
    unfold minTo
    by_cases e : j = k + 1
    · subst e; exact Int.min_le_right ..
    · exact Int.le_trans (Int.min_le_left ..) (minTo_le xs k j (by omega))

theorem minInt_any (a1 : Option Addr) (n1 c1 : Nat) (xs : List Int) (w0 : World) (h1 : 1 ≤ n1) (hl : n1 ≤ 1048576) (hR : Rd encI 1 w0 a1 n1 xs) : Calls Try.prog 75 #[.slice a1 n1 c1] w0 fun e w' => e = .returned (.int .i64 (minTo xs (n1 - 1))) ∧ Below w0.heap.size w0 w' := by
 have hxl := hR.len; obtain ⟨g0, o0, r0⟩ := hR.opn; have RX := Bx.mk r0; clear r0 hR
 have HS := Bx.mk (St.start w0)
 refine wc_enter Try.func75 rfl Try.ntmps75 [(0, .slice a1 n1 c1)] ⟨rfl, trivial⟩ rfl ?_; intro a HF
 refine wp_sr ?_
 refine wl_as HF rfl rfl rfl rfl rfl ?_; clear HF a; intro a HF
 refine wl_ne ?_
 refine wp_seq ?_
 refine wp_sr ?_
 refine wl_mv HF rfl rfl rfl rfl rfl ?_; clear HF a; intro a HF
 refine wl_y rfl HF rfl rfl (yl_lenL (e := 3) (size := 1) rfl (HF.ev rfl) (by kernel_rfl)) ?_; clear HF a; intro a HF
 refine wl_y rfl HF rfl rfl (yl_lssI rfl (HF.ev rfl) (HF.ev rfl)) ?_; clear HF a; intro a HF
 refine wl_ne ?_
 refine HF.cases 7 rfl (fun cc1 HF1 => ?_) (fun cc1 HF1 => ?_)
 ·clear HF; have HF := HF1; clear HF1
  have dcc1 := of_decide_eq_true cc1
  omega
 ·clear HF; have HF := HF1; clear HF1
  have dcc1 := of_decide_eq_false cc1
  refine wc_false HF rfl ?_
  refine wp_skip ?_
  refine ex_then ?_
  refine wp_sr ?_
  refine wl_mv HF rfl rfl rfl rfl rfl ?_; clear HF a; intro a HF
  refine wl_y rfl HF rfl rfl (yl_indexAddrR (e := 3) (i := 0) (size := 1) rfl (HF.ev rfl) (HF.ev rfl) (by kernel_rfl) rfl (by omega) (RX.out.ao 0 (by omega))) ?_; clear HF a; intro a HF
  refine wl_y rfl HF rfl rfl (yl_load (v := .int .i64 (xs.getD 0 0)) rfl (HF.ev rfl) (RX.out.elem1 HS.out (get_getD (xs := xs) (j := 0) (d := 0) (by omega)) rfl) (by kernel_rfl)) ?_; clear HF a; intro a HF
  refine wl_as HF rfl rfl rfl rfl rfl ?_; clear HF a; intro a HF
  refine wl_ne ?_
  refine wp_seq ?_
  refine wp_sr ?_
  refine wl_as HF rfl rfl rfl rfl rfl ?_; clear HF a; intro a HF
  refine wl_ne ?_
  refine wp_block ?_
  refine wc_loop (ι := Nat) (fun k a w => (k + 1 ≤ n1) ∧ Fr 25 a [(0, .slice a1 n1 c1), (2, .int .i64 0), (3, .int .i64 (minTo xs k)), (4, .int .i64 ((k + 1 : Nat) : Int))] ∧ St w0 ([]) w) (fun k => n1 - k) 0 ⟨(by omega), HF.less _ ⟨rfl, rfl, rfl, rfl, trivial⟩, HS.out⟩ ?_
  clear HF HS; clear a
  rintro k a w1 ⟨hk, HF, HS⟩
  replace HS := Bx.mk HS
  refine wp_seq ?_
  refine wp_sr ?_
  refine wl_mv HF rfl rfl rfl rfl rfl ?_; clear HF a; intro a HF
  refine wl_mv HF rfl rfl rfl rfl rfl ?_; clear HF a; intro a HF
  refine wl_y rfl HF rfl rfl (yl_lenL (e := 3) (size := 1) rfl (HF.ev rfl) (by kernel_rfl)) ?_; clear HF a; intro a HF
  refine wl_y rfl HF rfl rfl (yl_lssI rfl (HF.ev rfl) (HF.ev rfl)) ?_; clear HF a; intro a HF
  refine wl_ne ?_
  refine HF.cases 15 rfl (fun cc2 HF1 => ?_) (fun cc2 HF1 => ?_)
  ·clear HF; have HF := HF1; clear HF1
   have dcc2 := of_decide_eq_true cc2
   refine wc_true HF rfl ?_
   refine wp_skip ?_
   refine ex_then ?_
   refine wp_seq ?_
   refine wp_block ?_
   refine wp_region_lit ?_
   refine wl_mv HF rfl rfl rfl rfl rfl ?_; clear HF a; intro a HF
   refine wl_mv HF rfl rfl rfl rfl rfl ?_; clear HF a; intro a HF
   refine wl_mv HF rfl rfl rfl rfl rfl ?_; clear HF a; intro a HF
   refine wl_y rfl HF rfl rfl (yl_indexAddrR (e := 3) (i := k + 1) (size := 1) rfl (HF.ev rfl) (HF.ev rfl) (by kernel_rfl) rfl (by omega) (RX.out.ao (k + 1) (by omega))) ?_; clear HF a; intro a HF
   refine wl_y rfl HF rfl rfl (yl_load (v := .int .i64 (xs.getD (k + 1) 0)) rfl (HF.ev rfl) (RX.out.elem1 HS.out (get_getD (xs := xs) (j := k + 1) (d := 0) (by omega)) rfl) (by kernel_rfl)) ?_; clear HF a; intro a HF
   refine wl_y rfl HF rfl rfl (yl_minI rfl (HF.ev rfl) (HF.ev rfl)) ?_; clear HF a; intro a HF
   refine wl_as HF rfl rfl rfl rfl rfl ?_; clear HF a; intro a HF
   refine wpList_nil ?_
   refine ex_block ?_
   refine ex_then ?_
   refine wp_region_lit ?_
   refine wl_mv HF rfl rfl rfl rfl rfl ?_; clear HF a; intro a HF
   refine wl_y rfl HF rfl rfl (yl_addI rfl (HF.ev rfl) (HF.ev rfl) (i64w (by omega))) ?_; clear HF a; intro a HF
   refine wl_as HF rfl rfl rfl rfl rfl ?_; clear HF a; intro a HF
   refine wl_ne ?_
   have hmn : minTo xs (k + 1) = min (minTo xs k) (xs.getD (k + 1) 0) := rfl
   exact ⟨k + 1, ⟨(by omega), HF.less _ ⟨rfl, rfl, rfl, (by show some (Value.int .i64 _) = some (Value.int .i64 _); exact congrArg (fun z => some (Value.int .i64 z)) (by omega)), trivial⟩, HS.out⟩, (by omega)⟩
  ·clear HF; have HF := HF1; clear HF1
   have dcc2 := of_decide_eq_false cc2
   refine wc_false HF rfl ?_
   refine wp_exit ?_
   refine ex_then_exit ?_
   refine ex_then_exit ?_
   refine ex_block_hit ?_
   refine ex_then ?_
   refine wp_sr ?_
   refine wl_mv HF rfl rfl rfl rfl rfl ?_; clear HF a; intro a HF
   refine wl_as HF rfl rfl rfl rfl rfl ?_; clear HF a; intro a HF
   refine wl_ne ?_
   refine wp_ret ?_
   refine bp_ret1 HF Try.results75 (HF.res rfl) ?_
   obtain rfl : k = n1 - 1 := by omega
   exact ⟨rfl, HS.out.bel⟩

theorem rcrash1_any (w0 w : World) (bk bt : Nat) (a1 : Option Addr) (c1 : Nat) (xs : List Int) (a2 : Option Addr) (c2 : Nat) (ys : List Int) (hx : Rd encI 1 w0 a1 3 xs) (hy : Rd encI 1 w0 a2 3 ys) (ps : List HD) (k : Nat) (hk : k < 3) (hok : (ps.getD k default).d.ok = true) (hf : (ps.getD k default).d.fits) (hp : (ps.getD k default).reads w0) (h0 : 0 ≤ xs.getD k 0) (X : List Asr) (hS : St w0 (boxA bk 1 52 (.agg #[.slice a1 3 c1]) :: boxA bt 1 52 (.agg #[.slice a2 3 c2]) :: X) w) : Calls Try.prog 76 #[.int .i64 (k : Int), .agg #[.slice ((ps.getD k default).a0) ((ps.getD k default).d.fCells.length) ((ps.getD k default).c0), .slice ((ps.getD k default).a1) ((ps.getD k default).d.fWaits.length) ((ps.getD k default).c1), .bool ((ps.getD k default).d.fGone)], .pointer (some ⟨bk, 0, none⟩), .pointer (some ⟨bt, 0, none⟩)] w fun e w' => (some ((ps.getD k default).d.crash (xs.getD k 0) (ys.getD k 0)) = none ∧ ∃ q : HD, e = .returned (.tuple #[.agg #[.slice q.a0 q.d.fCells.length q.c0, .slice q.a1 q.d.fWaits.length q.c1, .bool q.d.fGone], .bool false]) ∧ St w0 X w') ∨ (∃ q : HD, some ((ps.getD k default).d.crash (xs.getD k 0) (ys.getD k 0)) = some q.d ∧ e = .returned (.tuple #[.agg #[.slice q.a0 q.d.fCells.length q.c0, .slice q.a1 q.d.fWaits.length q.c1, .bool q.d.fGone], .bool true]) ∧ St w0 (q.asr :: boxA bk 1 52 (.agg #[.slice a1 3 c1]) :: boxA bt 1 52 (.agg #[.slice a2 3 c2]) :: X) w') := by
 have hxl := hx.len; have hyl := hy.len; obtain ⟨g0, o0, r0⟩ := hx.opn; have RX := Bx.mk r0; obtain ⟨g1, o1, r1⟩ := hy.opn; have RY := Bx.mk r1; clear r0 r1
 have hP := Bx.mk hp; clear hp
 have HS := Bx.mk hS; clear hS
 refine wc_enter Try.func76 rfl Try.ntmps76 [(0, .int .i64 (k : Int)), (1, .agg #[.slice ((ps.getD k default).a0) ((ps.getD k default).d.fCells.length) ((ps.getD k default).c0), .slice ((ps.getD k default).a1) ((ps.getD k default).d.fWaits.length) ((ps.getD k default).c1), .bool ((ps.getD k default).d.fGone)]), (2, .pointer (some ⟨bk, 0, none⟩)), (3, .pointer (some ⟨bt, 0, none⟩))] ⟨rfl, rfl, rfl, rfl, trivial⟩ rfl ?_; intro a HF
 refine wp_sr ?_
 refine wl_box rfl HF rfl (HF.ev rfl) (Z := [.slice ((ps.getD k default).a0) ((ps.getD k default).d.fCells.length) ((ps.getD k default).c0), .slice ((ps.getD k default).a1) ((ps.getD k default).d.fWaits.length) ((ps.getD k default).c1), .bool ((ps.getD k default).d.fGone)]) rfl rfl rfl rfl HS.out ?_; clear HF HS a; intro a w1 b1 HF HS; replace HS := Bx.mk HS
 refine wl_alloc rfl HF rfl rfl rfl (Z := [.slice none 0 0, .slice none 0 0, .bool false]) (by kernel_rfl) rfl HS.out ?_; clear HF HS a; intro a w2 b2 HF HS; replace HS := Bx.mk HS
 refine wl_as HF rfl rfl rfl rfl rfl ?_; clear HF a; intro a HF
 refine wl_ne ?_
 refine wp_seq ?_
 refine wr_heldS (s := boxA b1 3 44 (.agg #[.slice ((ps.getD k default).a0) ((ps.getD k default).d.fCells.length) ((ps.getD k default).c0), .slice ((ps.getD k default).a1) ((ps.getD k default).d.fWaits.length) ((ps.getD k default).c1), .bool ((ps.getD k default).d.fGone)]) :: boxA bk 1 52 (.agg #[.slice a1 3 c1]) :: boxA bt 1 52 (.agg #[.slice a2 3 c2]) :: X) (by kernel_rfl) (St.drew ((HS.out.erase 0))) ?_
 have HS2 := Bx.mk HS.out.drew; replace HS := Bx.mk (show St w0 (boxA b1 3 44 (.agg #[.slice ((ps.getD k default).a0) ((ps.getD k default).d.fCells.length) ((ps.getD k default).c0), .slice ((ps.getD k default).a1) ((ps.getD k default).d.fWaits.length) ((ps.getD k default).c1), .bool ((ps.getD k default).d.fGone)]) :: boxA bk 1 52 (.agg #[.slice a1 3 c1]) :: boxA bt 1 52 (.agg #[.slice a2 3 c2]) :: X) _ from (HS.out.drew.erase 0))
 generalize World.drew _ = w3 at HS HS2 ⊢
 refine wh_y 0 rfl (by kernel_rfl) (by kernel_rfl) (by kernel_rfl) (fun _ _ _ h => h) rfl HF rfl rfl (fun _ HS => (yl_loadR (cs := [.slice ((ps.getD k default).a0) ((ps.getD k default).d.fCells.length) ((ps.getD k default).c0), .slice ((ps.getD k default).a1) ((ps.getD k default).d.fWaits.length) ((ps.getD k default).c1), .bool ((ps.getD k default).d.fGone)]) rfl (HF.ev rfl) ((HS.box 0 rfl).sub 0 3) (by kernel_rfl))) HS.out ?_; clear HF a; intro a HF
 refine wh_y 1 rfl (by kernel_rfl) (by kernel_rfl) (by kernel_rfl) (fun _ _ _ h => h) rfl HF rfl rfl (fun _ HS => (yl_load (v := .slice a1 3 c1) rfl (HF.ev rfl) (((HS.box 1 rfl).cell 0).trans rfl) (by kernel_rfl))) HS.out ?_; clear HF a; intro a HF
 refine wh_y 2 rfl (by kernel_rfl) (by kernel_rfl) (by kernel_rfl) (fun _ _ _ h => h) rfl HF rfl rfl (fun _ HS => (yl_move rfl (HF.ev rfl))) HS.out ?_; clear HF a; intro a HF
 refine wh_y 3 rfl (by kernel_rfl) (by kernel_rfl) (by kernel_rfl) (fun _ _ _ h => h) rfl HF rfl rfl (fun _ HS => (yl_indexAddrR (e := 3) (i := k) (size := 1) rfl (HF.ev rfl) (HF.ev rfl) (by kernel_rfl) rfl (by omega) (RX.out.ao k (by omega)))) HS.out ?_; clear HF a; intro a HF
 refine wh_y 4 rfl (by kernel_rfl) (by kernel_rfl) (by kernel_rfl) (fun _ _ _ h => h) rfl HF rfl rfl (fun _ HS => (yl_load (v := .int .i64 (xs.getD k 0)) rfl (HF.ev rfl) (RX.out.elem1 HS (get_getD (xs := xs) (j := k) (d := 0) (by omega)) rfl) (by kernel_rfl))) HS.out ?_; clear HF a; intro a HF
 refine wh_y 5 rfl (by kernel_rfl) (by kernel_rfl) (by kernel_rfl) (fun _ _ _ h => h) rfl HF rfl rfl (fun _ HS => (yl_load (v := .slice a2 3 c2) rfl (HF.ev rfl) (((HS.box 2 rfl).cell 0).trans rfl) (by kernel_rfl))) HS.out ?_; clear HF a; intro a HF
 refine wh_y 6 rfl (by kernel_rfl) (by kernel_rfl) (by kernel_rfl) (fun _ _ _ h => h) rfl HF rfl rfl (fun _ HS => (yl_move rfl (HF.ev rfl))) HS.out ?_; clear HF a; intro a HF
 refine wh_y 7 rfl (by kernel_rfl) (by kernel_rfl) (by kernel_rfl) (fun _ _ _ h => h) rfl HF rfl rfl (fun _ HS => (yl_indexAddrR (e := 3) (i := k) (size := 1) rfl (HF.ev rfl) (HF.ev rfl) (by kernel_rfl) rfl (by omega) (RY.out.ao k (by omega)))) HS.out ?_; clear HF a; intro a HF
 refine wh_y 8 rfl (by kernel_rfl) (by kernel_rfl) (by kernel_rfl) (fun _ _ _ h => h) rfl HF rfl rfl (fun _ HS => (yl_load (v := .int .i64 (ys.getD k 0)) rfl (HF.ev rfl) (RY.out.elem1 HS (get_getD (xs := ys) (j := k) (d := 0) (by omega)) rfl) (by kernel_rfl))) HS.out ?_; clear HF a; intro a HF
 refine wh_one 9 (by kernel_rfl) ?_
 refine wo_call rfl rfl HF rfl (enter_of Try.func77 (by kernel_rfl) rfl) (args := #[.agg #[.slice ((ps.getD k default).a0) ((ps.getD k default).d.fCells.length) ((ps.getD k default).c0), .slice ((ps.getD k default).a1) ((ps.getD k default).d.fWaits.length) ((ps.getD k default).c1), .bool ((ps.getD k default).d.fGone)], .int .i64 (xs.getD k 0), .int .i64 (ys.getD k 0)]) rfl (diskCrash_any (ps.getD k default) _ (hP.out.below HS2.out.bel) hf hok (xs.getD k 0) (ys.getD k 0) h0) rfl rfl ?_
 rintro _ w4 ⟨⟨qa, qc, qb, qe, qd⟩, hqd, rfl, hs⟩; obtain rfl : qd = ((ps.getD k default).d.crash (xs.getD k 0) (ys.getD k 0)) := hqd
 refine ⟨_, rfl, ?_⟩; replace HS := Bx.mk (HS.out.later hs.bel); replace HS2 := Bx.mk (HS2.out.add hs); clear hs HF; clear a; intro a HF
 replace HS2 : Bx (St w0 (HD.asr ⟨qa, qc, qb, qe, ((ps.getD k default).d.crash (xs.getD k 0) (ys.getD k 0))⟩ :: boxA b2 3 44 (.agg #[.slice none 0 0, .slice none 0 0, .bool false]) :: boxA b1 3 44 (.agg #[.slice ((ps.getD k default).a0) ((ps.getD k default).d.fCells.length) ((ps.getD k default).c0), .slice ((ps.getD k default).a1) ((ps.getD k default).d.fWaits.length) ((ps.getD k default).c1), .bool ((ps.getD k default).d.fGone)]) :: boxA bk 1 52 (.agg #[.slice a1 3 c1]) :: boxA bt 1 52 (.agg #[.slice a2 3 c2]) :: X) _) := ⟨HS2.out⟩; refine ⟨HS.out, ?_⟩
 refine wh_one 10 (by kernel_rfl) ?_
 refine wo_storeBox rfl rfl rfl rfl (HF.ev rfl) (HF.ev rfl) HS2.out 1 rfl (cells_lit [.slice qa (((ps.getD k default).d.crash (xs.getD k 0) (ys.getD k 0)).fCells.length) qc, .slice qb (((ps.getD k default).d.crash (xs.getD k 0) (ys.getD k 0)).fWaits.length) qe, .bool (((ps.getD k default).d.crash (xs.getD k 0) (ys.getD k 0)).fGone)] rfl rfl) (by kernel_rfl) ?_
 clear HS HS2; intro w5 HS2; replace HS2 : Bx (St w0 (HD.asr ⟨qa, qc, qb, qe, ((ps.getD k default).d.crash (xs.getD k 0) (ys.getD k 0))⟩ :: boxA b2 3 44 (.agg #[.slice qa (((ps.getD k default).d.crash (xs.getD k 0) (ys.getD k 0)).fCells.length) qc, .slice qb (((ps.getD k default).d.crash (xs.getD k 0) (ys.getD k 0)).fWaits.length) qe, .bool (((ps.getD k default).d.crash (xs.getD k 0) (ys.getD k 0)).fGone)]) :: boxA b1 3 44 (.agg #[.slice ((ps.getD k default).a0) ((ps.getD k default).d.fCells.length) ((ps.getD k default).c0), .slice ((ps.getD k default).a1) ((ps.getD k default).d.fWaits.length) ((ps.getD k default).c1), .bool ((ps.getD k default).d.fGone)]) :: boxA bk 1 52 (.agg #[.slice a1 3 c1]) :: boxA bt 1 52 (.agg #[.slice a2 3 c2]) :: X) _) := ⟨HS2⟩
 have HS : Bx (St w0 (boxA b1 3 44 (.agg #[.slice ((ps.getD k default).a0) ((ps.getD k default).d.fCells.length) ((ps.getD k default).c0), .slice ((ps.getD k default).a1) ((ps.getD k default).d.fWaits.length) ((ps.getD k default).c1), .bool ((ps.getD k default).d.fGone)]) :: boxA bk 1 52 (.agg #[.slice a1 3 c1]) :: boxA bt 1 52 (.agg #[.slice a2 3 c2]) :: X) _) := ⟨((HS2.out.erase 1).erase 0)⟩; refine ⟨HS.out, ?_⟩
 refine wh_y 11 rfl (by kernel_rfl) (by kernel_rfl) (by kernel_rfl) (fun _ _ _ h => h) rfl HF rfl rfl (fun _ HS => (yl_assign rfl (HF.ev rfl))) HS.out ?_; clear HF a; intro a HF
 refine wh_done (by kernel_rfl) ?_
 replace HS := HS2; clear HS2
 refine ex_then ?_
 refine wp_ret ?_
 refine bp_ret2 HF Try.results76 (HF.resBox rfl (HS.out.box 1 rfl) (by kernel_rfl)) (HF.res rfl) ?_
 replace HS : Bx (St w0 (HD.asr ⟨qa, qc, qb, qe, ((ps.getD k default).d.crash (xs.getD k 0) (ys.getD k 0))⟩ :: boxA bk 1 52 (.agg #[.slice a1 3 c1]) :: boxA bt 1 52 (.agg #[.slice a2 3 c2]) :: boxA b2 3 44 (.agg #[.slice qa (((ps.getD k default).d.crash (xs.getD k 0) (ys.getD k 0)).fCells.length) qc, .slice qb (((ps.getD k default).d.crash (xs.getD k 0) (ys.getD k 0)).fWaits.length) qe, .bool (((ps.getD k default).d.crash (xs.getD k 0) (ys.getD k 0)).fGone)]) :: boxA b1 3 44 (.agg #[.slice ((ps.getD k default).a0) ((ps.getD k default).d.fCells.length) ((ps.getD k default).c0), .slice ((ps.getD k default).a1) ((ps.getD k default).d.fWaits.length) ((ps.getD k default).c1), .bool ((ps.getD k default).d.fGone)]) :: X) _) := ⟨(((HS.out).pick 4 rfl).pick 4 rfl).pick 2 rfl⟩
 exact .inr ⟨⟨qa, qc, qb, qe, ((ps.getD k default).d.crash (xs.getD k 0) (ys.getD k 0))⟩, rfl, rfl, ((HS.out.erase 4).erase 3)⟩

theorem raidCrash_any (a0 : Option Addr) (c0 : Nat) (ps : List HD) (w0 : World) (hl : ps.length ≤ 1048576) (hf : fitsL ps) (hp : rdsP a0 ps w0) (a1 : Option Addr) (n1 c1 : Nat) (xs : List Int) (a2 : Option Addr) (n2 c2 : Nat) (ys : List Int) (hn1 : n1 ≤ 3) (hn2 : n2 ≤ 3) (hx : Rd encI 1 w0 a1 n1 xs) (hy : Rd encI 1 w0 a2 n2 ys) : Calls Try.prog 23 #[.agg #[.slice a0 ps.length c0], .slice a1 n1 c1, .slice a2 n2 c2] w0 fun e w' => (e = .returned (.agg #[.slice none 0 0]) ∧ Below w0.heap.size w0 w') ∨ (okR (dsOf ps) = true ∧ ∃ (ao : Option Addr) (cp : Nat) (qs : List HD), eachTo (fun k d => some (d.crash (xs.getD k 0) (ys.getD k 0))) (dsOf ps) 3 = some (dsOf qs) ∧ e = .returned (.agg #[.slice ao qs.length cp]) ∧ St w0 [rowA HD.cells 3 44 (.slice ao qs.length cp) qs, sepA (qs.map HD.asr)] w') := by
 have HS := Bx.mk (St.start w0)
 refine wc_enter Try.func23 rfl Try.ntmps23 [(0, .agg #[.slice a0 ps.length c0]), (1, .slice a1 n1 c1), (2, .slice a2 n2 c2)] ⟨rfl, rfl, rfl, trivial⟩ rfl ?_; intro a HF
 refine wp_sr ?_
 refine wl_box rfl HF rfl (HF.ev rfl) (Z := [.slice a0 ps.length c0]) rfl rfl rfl rfl HS.out ?_; clear HF HS a; intro a w1 b1 HF HS; replace HS := Bx.mk HS
 refine wl_box rfl HF rfl (HF.ev rfl) (Z := [.slice a1 n1 c1]) rfl rfl rfl rfl HS.out ?_; clear HF HS a; intro a w2 b2 HF HS; replace HS := Bx.mk HS
 refine wl_box rfl HF rfl (HF.ev rfl) (Z := [.slice a2 n2 c2]) rfl rfl rfl rfl HS.out ?_; clear HF HS a; intro a w3 b3 HF HS; replace HS := Bx.mk HS
 refine wl_alloc rfl HF rfl rfl rfl (Z := [.slice none 0 0]) (by kernel_rfl) rfl HS.out ?_; clear HF HS a; intro a w4 b4 HF HS; replace HS := Bx.mk HS
 refine wl_ne ?_
 refine wp_seq ?_
 refine wp_sr ?_
 refine wl_y rfl HF rfl rfl (yl_loadR (cs := [.slice a0 ps.length c0]) rfl (HF.ev rfl) ((HS.out.box 3 rfl).sub 0 1) (by kernel_rfl)) ?_; clear HF a; intro a HF
 refine wl_callB rfl HF rfl (enter_of Try.func45 (by kernel_rfl) rfl) (args := #[.agg #[.slice a0 ps.length c0]]) rfl (v := .bool (okR (dsOf ps))) (implRaidOk_any a0 c0 ps _ hl hf.at (hp.1.below HS.out.bel) (fun k hk => (hp.at k hk).below HS.out.bel)) rfl rfl HS.out ?_; clear HF HS a; intro w5 a HS HF; replace HS := Bx.mk HS
 refine wl_y rfl HF rfl rfl (yl_not rfl (HF.ev rfl)) ?_; clear HF a; intro a HF
 refine wl_mv HF rfl rfl rfl rfl rfl ?_; clear HF a; intro a HF
 refine HF.cases 12 rfl (fun cc1 HF1 => ?_) (fun cc1 HF1 => ?_)
 ·clear HF; have HF := HF1; clear HF1
  have hok : okR (dsOf ps) = false := by simpa using cc1
  refine wl_skip HF rfl rfl rfl rfl rfl rfl ?_; clear HF a; intro a HF
  refine wl_skip HF rfl rfl rfl rfl rfl rfl ?_; clear HF a; intro a HF
  refine wl_skip HF rfl rfl rfl rfl rfl rfl ?_; clear HF a; intro a HF
  refine wl_y rfl HF rfl rfl (yl_pick_t rfl (HF.ev rfl) (HF.ev rfl)) ?_; clear HF a; intro a HF
  refine wl_mv HF rfl rfl rfl rfl rfl ?_; clear HF a; intro a HF
  refine wl_skip HF rfl rfl rfl rfl rfl rfl ?_; clear HF a; intro a HF
  refine wl_skip HF rfl rfl rfl rfl rfl rfl ?_; clear HF a; intro a HF
  refine wl_skip HF rfl rfl rfl rfl rfl rfl ?_; clear HF a; intro a HF
  refine wl_y rfl HF rfl rfl (yl_pick_t rfl (HF.ev rfl) (HF.ev rfl)) ?_; clear HF a; intro a HF
  refine wl_mv HF rfl rfl rfl rfl rfl ?_; clear HF a; intro a HF
  refine wl_skip HF rfl rfl rfl rfl rfl rfl ?_; clear HF a; intro a HF
  refine wl_skip HF rfl rfl rfl rfl rfl rfl ?_; clear HF a; intro a HF
  refine wl_skip HF rfl rfl rfl rfl rfl rfl ?_; clear HF a; intro a HF
  refine wl_y rfl HF rfl rfl (yl_pick_t rfl (HF.ev rfl) (HF.ev rfl)) ?_; clear HF a; intro a HF
  refine wl_ne ?_
  refine wc_true HF rfl ?_
  refine wp_sr ?_
  refine wl_y rfl HF rfl rfl (yl_build HF rfl (ps := []) rfl (cs := #[.slice none 0 0]) (by kernel_rfl)) ?_; clear HF a; intro a HF
  refine wl_storeBox rfl HF rfl rfl (HF.ev rfl) (HF.ev rfl) HS.out 0 rfl (cells_lit [.slice none 0 0] rfl rfl) (by kernel_rfl) ?_; clear HS; intro w6 HS; replace HS := Bx.mk HS
  have HS : Bx (St w0 ([boxA b4 1 25 (.agg #[.slice none 0 0]), boxA b3 1 52 (.agg #[.slice a2 n2 c2]), boxA b2 1 52 (.agg #[.slice a1 n1 c1]), boxA b1 1 25 (.agg #[.slice a0 ps.length c0])]) _) := HS
  refine wl_ne ?_
  refine wp_ret ?_
  refine ex_then_ret ?_
  refine bp_ret1 HF Try.results23 (HF.resBox rfl (HS.out.box 0 rfl) (by kernel_rfl)) ?_
  exact .inl ⟨rfl, HS.out.bel⟩
 ·clear HF; have HF := HF1; clear HF1
  have hok : okR (dsOf ps) = true := by simpa using cc1
  refine wl_yg HF rfl rfl rfl rfl rfl (yl_load (v := .slice a1 n1 c1) rfl (HF.ev rfl) (((HS.out.box 2 rfl).cell 0).trans rfl) (by kernel_rfl)) ?_; clear HF a; intro a HF
  refine wl_yg HF rfl rfl rfl rfl rfl (yl_lenL (e := 3) (size := 1) rfl (HF.ev rfl) (by kernel_rfl)) ?_; clear HF a; intro a HF
  refine wl_yg HF rfl rfl rfl rfl rfl (yl_neqI rfl (HF.ev rfl) (HF.ev rfl)) ?_; clear HF a; intro a HF
  refine wl_y rfl HF rfl rfl (yl_pick_f rfl (HF.ev rfl) (HF.ev rfl)) ?_; clear HF a; intro a HF
  refine wl_mv HF rfl rfl rfl rfl rfl ?_; clear HF a; intro a HF
  refine HF.cases 17 rfl (fun cc2 HF1 => ?_) (fun cc2 HF1 => ?_)
  ·clear HF; have HF := HF1; clear HF1
   have dcc2 := bne_iff_ne.1 cc2
   refine wl_skip HF rfl rfl rfl rfl rfl rfl ?_; clear HF a; intro a HF
   refine wl_skip HF rfl rfl rfl rfl rfl rfl ?_; clear HF a; intro a HF
   refine wl_skip HF rfl rfl rfl rfl rfl rfl ?_; clear HF a; intro a HF
   refine wl_y rfl HF rfl rfl (yl_pick_t rfl (HF.ev rfl) (HF.ev rfl)) ?_; clear HF a; intro a HF
   refine wl_mv HF rfl rfl rfl rfl rfl ?_; clear HF a; intro a HF
   refine wl_skip HF rfl rfl rfl rfl rfl rfl ?_; clear HF a; intro a HF
   refine wl_skip HF rfl rfl rfl rfl rfl rfl ?_; clear HF a; intro a HF
   refine wl_skip HF rfl rfl rfl rfl rfl rfl ?_; clear HF a; intro a HF
   refine wl_y rfl HF rfl rfl (yl_pick_t rfl (HF.ev rfl) (HF.ev rfl)) ?_; clear HF a; intro a HF
   refine wl_ne ?_
   refine wc_true HF rfl ?_
   refine wp_sr ?_
   refine wl_y rfl HF rfl rfl (yl_build HF rfl (ps := []) rfl (cs := #[.slice none 0 0]) (by kernel_rfl)) ?_; clear HF a; intro a HF
   refine wl_storeBox rfl HF rfl rfl (HF.ev rfl) (HF.ev rfl) HS.out 0 rfl (cells_lit [.slice none 0 0] rfl rfl) (by kernel_rfl) ?_; clear HS; intro w7 HS; replace HS := Bx.mk HS
   have HS : Bx (St w0 ([boxA b4 1 25 (.agg #[.slice none 0 0]), boxA b3 1 52 (.agg #[.slice a2 n2 c2]), boxA b2 1 52 (.agg #[.slice a1 n1 c1]), boxA b1 1 25 (.agg #[.slice a0 ps.length c0])]) _) := HS
   refine wl_ne ?_
   refine wp_ret ?_
   refine ex_then_ret ?_
   refine bp_ret1 HF Try.results23 (HF.resBox rfl (HS.out.box 0 rfl) (by kernel_rfl)) ?_
   exact .inl ⟨rfl, HS.out.bel⟩
  ·clear HF; have HF := HF1; clear HF1
   have dcc2 := bne_eq_false_iff_eq.1 cc2
   refine wl_yg HF rfl rfl rfl rfl rfl (yl_load (v := .slice a2 n2 c2) rfl (HF.ev rfl) (((HS.out.box 1 rfl).cell 0).trans rfl) (by kernel_rfl)) ?_; clear HF a; intro a HF
   refine wl_yg HF rfl rfl rfl rfl rfl (yl_lenL (e := 3) (size := 1) rfl (HF.ev rfl) (by kernel_rfl)) ?_; clear HF a; intro a HF
   refine wl_yg HF rfl rfl rfl rfl rfl (yl_neqI rfl (HF.ev rfl) (HF.ev rfl)) ?_; clear HF a; intro a HF
   refine wl_y rfl HF rfl rfl (yl_pick_f rfl (HF.ev rfl) (HF.ev rfl)) ?_; clear HF a; intro a HF
   refine wl_mv HF rfl rfl rfl rfl rfl ?_; clear HF a; intro a HF
   refine HF.cases 22 rfl (fun cc3 HF1 => ?_) (fun cc3 HF1 => ?_)
   ·clear HF; have HF := HF1; clear HF1
    have dcc3 := bne_iff_ne.1 cc3
    refine wl_skip HF rfl rfl rfl rfl rfl rfl ?_; clear HF a; intro a HF
    refine wl_skip HF rfl rfl rfl rfl rfl rfl ?_; clear HF a; intro a HF
    refine wl_skip HF rfl rfl rfl rfl rfl rfl ?_; clear HF a; intro a HF
    refine wl_y rfl HF rfl rfl (yl_pick_t rfl (HF.ev rfl) (HF.ev rfl)) ?_; clear HF a; intro a HF
    refine wl_ne ?_
    refine wc_true HF rfl ?_
    refine wp_sr ?_
    refine wl_y rfl HF rfl rfl (yl_build HF rfl (ps := []) rfl (cs := #[.slice none 0 0]) (by kernel_rfl)) ?_; clear HF a; intro a HF
    refine wl_storeBox rfl HF rfl rfl (HF.ev rfl) (HF.ev rfl) HS.out 0 rfl (cells_lit [.slice none 0 0] rfl rfl) (by kernel_rfl) ?_; clear HS; intro w8 HS; replace HS := Bx.mk HS
    have HS : Bx (St w0 ([boxA b4 1 25 (.agg #[.slice none 0 0]), boxA b3 1 52 (.agg #[.slice a2 n2 c2]), boxA b2 1 52 (.agg #[.slice a1 n1 c1]), boxA b1 1 25 (.agg #[.slice a0 ps.length c0])]) _) := HS
    refine wl_ne ?_
    refine wp_ret ?_
    refine ex_then_ret ?_
    refine bp_ret1 HF Try.results23 (HF.resBox rfl (HS.out.box 0 rfl) (by kernel_rfl)) ?_
    exact .inl ⟨rfl, HS.out.bel⟩
   ·clear HF; have HF := HF1; clear HF1
    have dcc3 := bne_eq_false_iff_eq.1 cc3
    refine wl_yg HF rfl rfl rfl rfl rfl (yl_load (v := .slice a1 n1 c1) rfl (HF.ev rfl) (((HS.out.box 2 rfl).cell 0).trans rfl) (by kernel_rfl)) ?_; clear HF a; intro a HF
    refine wl_callBg HF rfl rfl rfl rfl (enter_of Try.func75 (by kernel_rfl) rfl) (args := #[.slice a1 n1 c1]) rfl (v := .int .i64 (minTo xs (n1 - 1))) ((minInt_any a1 n1 c1 xs _ (by omega) (by omega) (hx.below HS.out.bel))) rfl rfl HS.out ?_; clear HF HS a; intro w9 a HS HF; replace HS := Bx.mk HS
    refine wl_yg HF rfl rfl rfl rfl rfl (yl_lssI rfl (HF.ev rfl) (HF.ev rfl)) ?_; clear HF a; intro a HF
    refine wl_y rfl HF rfl rfl (yl_pick_f rfl (HF.ev rfl) (HF.ev rfl)) ?_; clear HF a; intro a HF
    refine wl_ne ?_
    refine HF.cases 26 rfl (fun cc4 HF1 => ?_) (fun cc4 HF1 => ?_)
    ·clear HF; have HF := HF1; clear HF1
     have dcc4 := of_decide_eq_true cc4
     refine wc_true HF rfl ?_
     refine wp_sr ?_
     refine wl_y rfl HF rfl rfl (yl_build HF rfl (ps := []) rfl (cs := #[.slice none 0 0]) (by kernel_rfl)) ?_; clear HF a; intro a HF
     refine wl_storeBox rfl HF rfl rfl (HF.ev rfl) (HF.ev rfl) HS.out 0 rfl (cells_lit [.slice none 0 0] rfl rfl) (by kernel_rfl) ?_; clear HS; intro w10 HS; replace HS := Bx.mk HS
     have HS : Bx (St w0 ([boxA b4 1 25 (.agg #[.slice none 0 0]), boxA b3 1 52 (.agg #[.slice a2 n2 c2]), boxA b2 1 52 (.agg #[.slice a1 n1 c1]), boxA b1 1 25 (.agg #[.slice a0 ps.length c0])]) _) := HS
     refine wl_ne ?_
     refine wp_ret ?_
     refine ex_then_ret ?_
     refine bp_ret1 HF Try.results23 (HF.resBox rfl (HS.out.box 0 rfl) (by kernel_rfl)) ?_
     exact .inl ⟨rfl, HS.out.bel⟩
    ·clear HF; have HF := HF1; clear HF1
     have dcc4 := of_decide_eq_false cc4
     refine wc_false HF rfl ?_
     refine wp_skip ?_
     refine ex_then ?_
     refine wp_sr ?_
     refine wl_y rfl HF rfl rfl (yl_loadR (cs := [.slice a0 ps.length c0]) rfl (HF.ev rfl) ((HS.out.box 3 rfl).sub 0 1) (by kernel_rfl)) ?_; clear HF a; intro a HF
     refine wl_y rfl HF rfl rfl (yl_makeFunc HF rfl (cs := #[.pointer (some ⟨b2, 0, none⟩), .pointer (some ⟨b3, 0, none⟩)]) rfl) ?_; clear HF a; intro a HF
     replace HS : Bx (St w0 ([boxA b2 1 52 (.agg #[.slice a1 n1 c1]), boxA b3 1 52 (.agg #[.slice a2 n2 c2]), boxA b4 1 25 (.agg #[.slice none 0 0]), boxA b1 1 25 (.agg #[.slice a0 ps.length c0])]) _) := ⟨((HS.out).pick 1 rfl).pick 2 rfl⟩
     obtain rfl : n1 = 3 := (by omega); obtain rfl : n2 = 3 := (by omega); have h3 := okR_three hok
     refine wl_call rfl HF rfl (enter_of Try.func47 (by kernel_rfl) rfl) (args := #[.agg #[.slice a0 ps.length c0], .func (.func 76) #[] #[.pointer (some ⟨b2, 0, none⟩), .pointer (some ⟨b3, 0, none⟩)]]) rfl (each_any w0 _ a0 c0 ps 76 #[.pointer (some ⟨b2, 0, none⟩), .pointer (some ⟨b3, 0, none⟩)] (fun k d => some (d.crash (xs.getD k 0) (ys.getD k 0))) (fun _ => [boxA b2 1 52 (.agg #[.slice a1 3 c1]), boxA b3 1 52 (.agg #[.slice a2 3 c2])]) [boxA b4 1 25 (.agg #[.slice none 0 0]), boxA b1 1 25 (.agg #[.slice a0 ps.length c0])] hl (enter_of Try.func76 (by kernel_rfl) rfl) hp.1 (fun k hk w X _ hS => rcrash1_any w0 w b2 b3 a1 c1 xs a2 c2 ys hx hy ps k (by omega) (h3.2 k hk) (hf.at k) (hp.at k hk) (by have := minTo_le xs (3 - 1) k (by omega); omega) X hS) HS.out) rfl rfl ?_
     rintro _ w11 (⟨hev, _, _⟩ | ⟨ao, cp, qs, hev, rfl, hs⟩)
     ·obtain ⟨zs, hz⟩ := eachTo_some (f := fun k (d : DiskD) => some (d.crash (xs.getD k 0) (ys.getD k 0))) (ds := dsOf ps) (n := ps.length) (fun k _ => rfl); rw [hz] at hev; cases hev
     refine ⟨_, rfl, ?_⟩; replace HS := Bx.mk hs; clear hs HF; clear a; intro a HF
     replace HS : Bx (St w0 ([rowA HD.cells 3 44 (.slice ao qs.length cp) qs, sepA (qs.map HD.asr), boxA b2 1 52 (.agg #[.slice a1 3 c1]), boxA b3 1 52 (.agg #[.slice a2 3 c2]), boxA b4 1 25 (.agg #[.slice none 0 0]), boxA b1 1 25 (.agg #[.slice a0 ps.length c0])]) _) := ⟨HS.out⟩
     refine wl_mv HF rfl rfl rfl rfl rfl ?_; clear HF a; intro a HF
     refine wl_y rfl HF rfl rfl (yl_extract rfl (HF.ev rfl) rfl) ?_; clear HF a; intro a HF
     refine wl_y rfl HF rfl rfl (yl_extract rfl (HF.ev rfl) rfl) ?_; clear HF a; intro a HF
     refine wl_alloc rfl HF rfl rfl rfl (Z := [.slice none 0 0]) (by kernel_rfl) rfl HS.out ?_; clear HF HS a; intro a w12 b5 HF HS; replace HS := Bx.mk HS
     refine wl_storeBox rfl HF rfl rfl (HF.ev rfl) (HF.ev rfl) HS.out 0 rfl (cells_lit [.slice ao qs.length cp] rfl rfl) (by kernel_rfl) ?_; clear HS; intro w13 HS; replace HS := Bx.mk HS
     have HS : Bx (St w0 ([boxA b5 1 25 (.agg #[.slice ao qs.length cp]), rowA HD.cells 3 44 (.slice ao qs.length cp) qs, sepA (qs.map HD.asr), boxA b2 1 52 (.agg #[.slice a1 3 c1]), boxA b3 1 52 (.agg #[.slice a2 3 c2]), boxA b4 1 25 (.agg #[.slice none 0 0]), boxA b1 1 25 (.agg #[.slice a0 ps.length c0])]) _) := HS
     refine wl_as HF rfl rfl rfl rfl rfl ?_; clear HF a; intro a HF
     refine wl_ne ?_
     refine wp_sr ?_
     refine wl_y rfl HF rfl rfl (yl_loadR (cs := [.slice ao qs.length cp]) rfl (HF.ev rfl) ((HS.out.box 0 rfl).sub 0 1) (by kernel_rfl)) ?_; clear HF a; intro a HF
     refine wl_storeBox rfl HF rfl rfl (HF.ev rfl) (HF.ev rfl) HS.out 5 rfl (cells_lit [.slice ao qs.length cp] rfl rfl) (by kernel_rfl) ?_; clear HS; intro w14 HS; replace HS := Bx.mk HS
     have HS : Bx (St w0 ([boxA b5 1 25 (.agg #[.slice ao qs.length cp]), rowA HD.cells 3 44 (.slice ao qs.length cp) qs, sepA (qs.map HD.asr), boxA b2 1 52 (.agg #[.slice a1 3 c1]), boxA b3 1 52 (.agg #[.slice a2 3 c2]), boxA b4 1 25 (.agg #[.slice ao qs.length cp]), boxA b1 1 25 (.agg #[.slice a0 ps.length c0])]) _) := HS
     refine wl_ne ?_
     refine wp_ret ?_
     refine bp_ret1 HF Try.results23 (HF.resBox rfl (HS.out.box 5 rfl) (by kernel_rfl)) ?_
     replace HS : Bx (St w0 ([rowA HD.cells 3 44 (.slice ao qs.length cp) qs, sepA (qs.map HD.asr), boxA b5 1 25 (.agg #[.slice ao qs.length cp]), boxA b2 1 52 (.agg #[.slice a1 3 c1]), boxA b3 1 52 (.agg #[.slice a2 3 c2]), boxA b4 1 25 (.agg #[.slice ao qs.length cp]), boxA b1 1 25 (.agg #[.slice a0 ps.length c0])]) _) := ⟨((HS.out).pick 2 rfl).pick 2 rfl⟩
     rw [h3.1] at hev
     exact .inr ⟨hok, _, _, qs, hev, rfl, (((((HS.out.erase 6).erase 5).erase 4).erase 3).erase 2)⟩

end Go.Proofs.Ytfijfjjleelphaa

/- The plain law of a crash. -/
namespace Go.Proofs.Ytfijfjjleelphaa
set_option maxHeartbeats 1000000
set_option maxRecDepth 100000
open Go.RowKit
theorem settle_other {g : Nat → ByteArray → ByteArray} {d : DiskD} {m : Nat} (h : ∀ j, j < d.fWaits.length → (d.fWaits.getD j default).fAt.toNat ≠ m) : ∀ k, k ≤ d.fWaits.length → (settleTo g d k).getD m ByteArray.empty = d.fCells.getD m ByteArray.empty
  | 0, _ => rfl
  | k + 1, hk => by
    have ih := settle_other (g := g) h k (by omega)
    have hne := h k (by omega)
    unfold settleTo
    rw [cells_set_ne (Ne.symm hne)]
    exact ih
theorem stepPut_what {row : Int} {col : Nat → ByteArray} {wn : Nat → Bool} {i : Nat} {d d' : DiskD} (h : stepPut row col wn i d = some d') : d' = d ∨ d' = d.putD row (col i) := by
  unfold stepPut at h
  cases h1 : (d.fGone || !wn i)
  · rw [h1] at h
    cases h2 : d.can row (col i)
    · rw [h2] at h; cases h
    · rw [h2] at h; exact .inr (by simpa using h.symm)
  · rw [h1] at h; exact .inl (by simpa using h.symm)
theorem crash_ok {d : DiskD} (h : d.ok = true) (mask torn : Int) : (d.crash mask torn).ok = true := by
  have hs := settle_le h mask torn
  have h0 := h
  unfold DiskD.ok at h ⊢
  simp only [Bool.and_eq_true, decide_eq_true_eq, Bool.not_eq_true'] at h ⊢
  obtain ⟨h1, h2, h3, h4, h5⟩ := h
  refine ⟨(settleTo_len _ _ _).trans h1, Nat.zero_le _, ?_, allB_mk fun k hk => ?_, rfl⟩
  · show (d.fGone && decide (0 < 0)) = false
    simp
  · unfold cellB
    rw [show ((d.crash mask torn).fCells.getD k ByteArray.empty) = (settleTo (crashG mask torn d) d d.fWaits.length).getD k ByteArray.empty from rfl, decide_eq_true (hs _ k), Bool.true_and]
    show (!(d.fGone && _)) = true
    cases hg : d.fGone
    · rfl
    · have hw0 : d.fWaits.length = 0 := by
        rw [hg, Bool.true_and] at h3
        have := of_decide_eq_false h3
        omega
      have := allB_at h4 (k := k) (by have := settleTo_len (crashG mask torn d) d d.fWaits.length; have hk : k < (settleTo (crashG mask torn d) d d.fWaits.length).length := hk; omega)
      unfold cellB at this
      rw [Bool.and_eq_true, hg] at this
      rw [hw0]; exact this.2
/-- What was flushed is read behind a crash of the write of another row. -/
theorem crash_law {ds es gs zs : List DiskD} {m : Nat} {row : Int} {t t2 : ByteArray} {xs ys : List Int} (h : writeF ds (m : Int) t = some es) (h2 : writeF (es.map DiskD.flush) row t2 = some gs) (hne : row ≠ (m : Int)) (hl : lostN ds 3 ≤ 1) (hz : eachTo (fun k d => some (d.crash (xs.getD k 0) (ys.getD k 0))) gs 3 = some zs) : okR zs = true ∧ readR zs (ptrOf (m : Int) 1 0 t) = (t, true) := by
  obtain ⟨k1, k2, k3, k4, k5, k6, k7, k8, k9⟩ := write_cols h
  obtain ⟨j1, j2, j3, j4, j5, j6, j7, j8, j9⟩ := write_cols h2
  obtain ⟨p1, p2, p3, p4⟩ := ptr_written k2 k3
  have hb := inB_bounds k2
  have hb2 := inB_bounds j2
  have hzl := eachTo_len hz
  have hza : ∀ i, i < 3 → zs.getD i default = (gs.getD i default).crash (xs.getD i 0) (ys.getD i 0) := fun i hi => (Option.some.inj (eachTo_at2 hz hi)).symm
  have hgo := (okR_at j4).2
  have hzo : okR zs = true := okR_of hzl fun i hi => by rw [hza i hi]; exact crash_ok (hgo i hi) _ _
  have hst : ∀ i, i < 3 → gs.getD i default = (es.getD i default).flush ∨ gs.getD i default = (es.getD i default).flush.putD row (colOf t2 i) := fun i hi => by
    have h9 := h2
    rw [writeF_yes j1 j2 j3] at h9
    have := stepPut_what (eachTo_at2 h9 hi)
    rw [map_get (by omega)] at this
    exact this
  have hgn : ∀ i, i < 3 → (zs.getD i default).fGone = (es.getD i default).fGone := fun i hi => by
    rw [hza i hi]
    show (gs.getD i default).fGone = _
    rw [j8 i hi, map_get (by omega)]; rfl
  refine ⟨hzo, readR_cols hzo p1 p2 p3 (fun i hi => ?_) (by rw [lostN_three, hgn 0 (by omega), hgn 1 (by omega), hgn 2 (by omega), ← lostN_three, k9]; exact hl)⟩
  rw [p4]
  have hm : (m : Int).toNat = m := by omega
  have hk7 := k7 i hi
  rw [hm] at hk7 ⊢
  rcases hk7 with hg | hlk
  · exact .inl (by rw [hgn i hi]; exact hg)
  · refine .inr ?_
    have hmb : m < 64 := by omega
    rw [hza i hi, look_still (d := (gs.getD i default).crash (xs.getD i 0) (ys.getD i 0)) rfl]
    show (settleTo _ (gs.getD i default) (gs.getD i default).fWaits.length).getD m ByteArray.empty = _
    have hfl : (es.getD i default).flush.fCells.getD m ByteArray.empty = colOf t i := by
      rw [← look_still (d := (es.getD i default).flush) rfl, flush_look2 ((okR_at k4).2 i hi) hmb, hlk]
    have hcl : (gs.getD i default).fCells = (es.getD i default).flush.fCells := by
      rcases hst i hi with e | e <;> rw [e]
      rfl
    rw [settle_other (fun j hj => ?_) _ (Nat.le_refl _), hcl, hfl]
    rcases hst i hi with e | e
    · rw [e] at hj; exact absurd hj (Nat.not_lt_zero _)
    · rw [e] at hj ⊢
      have hw : ((es.getD i default).flush.putD row (colOf t2 i)).fWaits = [(⟨row, colOf t2 i⟩ : WaitD)] := rfl
      rw [hw] at hj ⊢
      obtain rfl : j = 0 := by simpa using hj
      show row.toNat ≠ m
      omega
end Go.Proofs.Ytfijfjjleelphaa

/- Drawing numbers and texts. -/
namespace Go.Proofs.Ytfijfjjleelphaa
set_option maxHeartbeats 1000000
set_option maxRecDepth 100000
open Go.RowKit

theorem u8_b (b : UInt8) : 0 ≤ (b.toNat : Int) ∧ (b.toNat : Int) ≤ 255 := by have := b.toNat_lt; omega

theorem pick_any (w0 w : World) (rb : Nat) (ab : Option Addr) (n cb : Nat) (bs : List UInt8) (hn : n ≤ 2000) (hR : Rd encB 1 w0 ab n bs) (B : Nat) (hB : B ≤ 1000000) (m : Int) (hm : m ≤ 1000000) (F : List Asr) (hS : St w0 (rdA rb ab n cb B :: F) w) : Calls Try.prog 110 #[.pointer (some ⟨rb, 0, none⟩), .int .i64 m] w fun e w' => ∃ v : Int, e = .returned (.int .i64 v) ∧ 0 ≤ v ∧ (v < m ∨ v = 0) ∧ St w0 (rdA rb ab n cb (B + 1) :: F) w' := by
 obtain ⟨p, hpB, h0⟩ := hS.rdOpen
 have HS := Bx.mk h0; clear h0 hS
 have hbl : bs.length = n := hR.len
 obtain ⟨g, off, r0⟩ := hR.opn; have RB := Bx.mk r0; clear r0 hR
 refine wc_enter Try.func110 rfl Try.ntmps110 [(0, .pointer (some ⟨rb, 0, none⟩)), (1, .int .i64 m)] ⟨rfl, rfl, trivial⟩ rfl ?_; intro a HF
 refine wp_sr ?_
 refine wl_as HF rfl rfl rfl rfl rfl ?_; clear HF a; intro a HF
 refine wl_ne ?_
 refine wp_sr ?_
 refine wl_mv HF rfl rfl rfl rfl rfl ?_; clear HF a; intro a HF
 refine wl_mv HF rfl rfl rfl rfl rfl ?_; clear HF a; intro a HF
 refine wl_y rfl HF rfl rfl (yl_nilCheck rfl (HF.ev rfl)) ?_; clear HF a; intro a HF
 refine wl_y rfl HF rfl rfl (yl_fieldAddr (j := 1) rfl (HF.ev rfl) (by kernel_rfl)) ?_; clear HF a; intro a HF
 refine wl_y rfl HF rfl rfl (yl_load (v := .int .i64 (p : Int)) rfl (HF.ev rfl) (((HS.out.box 0 rfl).cell 1).trans rfl) (by kernel_rfl)) ?_; clear HF a; intro a HF
 refine wl_y rfl HF rfl rfl (yl_addI rfl (HF.ev rfl) (HF.ev rfl) (i64w (by omega))) ?_; clear HF a; intro a HF
 refine wl_y rfl HF rfl rfl (yl_nilCheck rfl (HF.ev rfl)) ?_; clear HF a; intro a HF
 refine wl_y rfl HF rfl rfl (yl_fieldAddr (j := 1) rfl (HF.ev rfl) (by kernel_rfl)) ?_; clear HF a; intro a HF
 refine wl_storeF rfl rfl rfl (HF.ev rfl) (HF.ev rfl) (by kernel_rfl) HS.out 0 rfl rfl rfl ?_; clear HS; intro w1 HS; replace HS := Bx.mk HS
 have HS : Bx (St w0 (boxA rb 2 137 (.agg #[.slice ab n cb, .int .i64 ((p : Int) + 1)]) :: F) _) := HS
 refine wl_ne ?_
 refine wp_seq ?_
 refine wp_sr ?_
 refine wl_mv HF rfl rfl rfl rfl rfl ?_; clear HF a; intro a HF
 refine wl_y rfl HF rfl rfl (yl_lssI rfl (HF.ev rfl) (HF.ev rfl)) ?_; clear HF a; intro a HF
 refine wl_mv HF rfl rfl rfl rfl rfl ?_; clear HF a; intro a HF
 refine HF.cases 17 rfl (fun cc1 HF1 => ?_) (fun cc1 HF1 => ?_)
 ·clear HF; have HF := HF1; clear HF1
  have dcc1 := of_decide_eq_true cc1
  refine wl_skip HF rfl rfl rfl rfl rfl rfl ?_; clear HF a; intro a HF
  refine wl_skip HF rfl rfl rfl rfl rfl rfl ?_; clear HF a; intro a HF
  refine wl_skip HF rfl rfl rfl rfl rfl rfl ?_; clear HF a; intro a HF
  refine wl_skip HF rfl rfl rfl rfl rfl rfl ?_; clear HF a; intro a HF
  refine wl_skip HF rfl rfl rfl rfl rfl rfl ?_; clear HF a; intro a HF
  refine wl_skip HF rfl rfl rfl rfl rfl rfl ?_; clear HF a; intro a HF
  refine wl_y rfl HF rfl rfl (yl_pick_t rfl (HF.ev rfl) (HF.ev rfl)) ?_; clear HF a; intro a HF
  refine wl_ne ?_
  refine wc_true HF rfl ?_
  refine wp_sr ?_
  refine wl_as HF rfl rfl rfl rfl rfl ?_; clear HF a; intro a HF
  refine wl_ne ?_
  refine wp_ret ?_
  refine ex_then_ret ?_
  refine bp_ret1 HF Try.results110 (HF.res rfl) ?_
  exact ⟨_, rfl, by omega, by omega, St.rdMk (p := p + 1) (by omega) HS.out⟩
 ·clear HF; have HF := HF1; clear HF1
  have dcc1 := of_decide_eq_false cc1
  refine wl_yg HF rfl rfl rfl rfl rfl (yl_move rfl (HF.ev rfl)) ?_; clear HF a; intro a HF
  refine wl_yg HF rfl rfl rfl rfl rfl (yl_nilCheck rfl (HF.ev rfl)) ?_; clear HF a; intro a HF
  refine wl_yg HF rfl rfl rfl rfl rfl (yl_fieldAddr (j := 0) rfl (HF.ev rfl) (by kernel_rfl)) ?_; clear HF a; intro a HF
  refine wl_yg HF rfl rfl rfl rfl rfl (yl_load (v := .slice ab n cb) rfl (HF.ev rfl) (((HS.out.box 0 rfl).cell 0).trans rfl) (by kernel_rfl)) ?_; clear HF a; intro a HF
  refine wl_yg HF rfl rfl rfl rfl rfl (yl_lenL (e := 5) (size := 1) rfl (HF.ev rfl) (by kernel_rfl)) ?_; clear HF a; intro a HF
  refine wl_yg HF rfl rfl rfl rfl rfl (yl_eqlI rfl (HF.ev rfl) (HF.ev rfl)) ?_; clear HF a; intro a HF
  refine wl_y rfl HF rfl rfl (yl_pick_f rfl (HF.ev rfl) (HF.ev rfl)) ?_; clear HF a; intro a HF
  refine wl_ne ?_
  refine HF.cases 24 rfl (fun cc2 HF1 => ?_) (fun cc2 HF1 => ?_)
  ·clear HF; have HF := HF1; clear HF1
   have dcc2 := eq_of_beq cc2
   refine wc_true HF rfl ?_
   refine wp_sr ?_
   refine wl_as HF rfl rfl rfl rfl rfl ?_; clear HF a; intro a HF
   refine wl_ne ?_
   refine wp_ret ?_
   refine ex_then_ret ?_
   refine bp_ret1 HF Try.results110 (HF.res rfl) ?_
   exact ⟨_, rfl, by omega, by omega, St.rdMk (p := p + 1) (by omega) HS.out⟩
  ·clear HF; have HF := HF1; clear HF1
   have dcc2 := ne_of_beq_false cc2
   refine wc_false HF rfl ?_
   refine wp_skip ?_
   refine ex_then ?_
   refine wp_sr ?_
   refine wl_mv HF rfl rfl rfl rfl rfl ?_; clear HF a; intro a HF
   refine wl_y rfl HF rfl rfl (yl_nilCheck rfl (HF.ev rfl)) ?_; clear HF a; intro a HF
   refine wl_y rfl HF rfl rfl (yl_fieldAddr (j := 1) rfl (HF.ev rfl) (by kernel_rfl)) ?_; clear HF a; intro a HF
   refine wl_y rfl HF rfl rfl (yl_load (v := .int .i64 ((p : Int) + 1)) rfl (HF.ev rfl) (((HS.out.box 0 rfl).cell 1).trans rfl) (by kernel_rfl)) ?_; clear HF a; intro a HF
   refine wl_y rfl HF rfl rfl (yl_subI (r := (p : Int)) rfl (HF.ev rfl) (HF.ev rfl) ((i64w (by omega)).trans (by omega))) ?_; clear HF a; intro a HF
   refine wl_as HF rfl rfl rfl rfl rfl ?_; clear HF a; intro a HF
   refine wl_ne ?_
   refine wp_seq ?_
   refine wp_sr ?_
   refine wl_mv HF rfl rfl rfl rfl rfl ?_; clear HF a; intro a HF
   refine wl_mv HF rfl rfl rfl rfl rfl ?_; clear HF a; intro a HF
   refine wl_y rfl HF rfl rfl (yl_nilCheck rfl (HF.ev rfl)) ?_; clear HF a; intro a HF
   refine wl_y rfl HF rfl rfl (yl_fieldAddr (j := 0) rfl (HF.ev rfl) (by kernel_rfl)) ?_; clear HF a; intro a HF
   refine wl_y rfl HF rfl rfl (yl_load (v := .slice ab n cb) rfl (HF.ev rfl) (((HS.out.box 0 rfl).cell 0).trans rfl) (by kernel_rfl)) ?_; clear HF a; intro a HF
   refine wl_y rfl HF rfl rfl (yl_lenL (e := 5) (size := 1) rfl (HF.ev rfl) (by kernel_rfl)) ?_; clear HF a; intro a HF
   refine wl_y rfl HF rfl rfl (yl_lssI rfl (HF.ev rfl) (HF.ev rfl)) ?_; clear HF a; intro a HF
   refine wl_ne ?_
   refine HF.cases 36 rfl (fun cc3 HF1 => ?_) (fun cc3 HF1 => ?_)
   ·clear HF; have HF := HF1; clear HF1
    have dcc3 := of_decide_eq_true cc3
    refine wc_true HF rfl ?_
    refine wp_seq ?_
    have hb1 := u8_b (bs.getD p 0)
    refine wp_region_lit ?_
    refine wl_mv HF rfl rfl rfl rfl rfl ?_; clear HF a; intro a HF
    refine wl_y rfl HF rfl rfl (yl_nilCheck rfl (HF.ev rfl)) ?_; clear HF a; intro a HF
    refine wl_y rfl HF rfl rfl (yl_fieldAddr (j := 0) rfl (HF.ev rfl) (by kernel_rfl)) ?_; clear HF a; intro a HF
    refine wl_y rfl HF rfl rfl (yl_load (v := .slice ab n cb) rfl (HF.ev rfl) (((HS.out.box 0 rfl).cell 0).trans rfl) (by kernel_rfl)) ?_; clear HF a; intro a HF
    refine wl_mv HF rfl rfl rfl rfl rfl ?_; clear HF a; intro a HF
    refine wl_y rfl HF rfl rfl (yl_indexAddrR (e := 5) (i := p) (size := 1) rfl (HF.ev rfl) (HF.ev rfl) (by kernel_rfl) rfl (by omega) (RB.out.ao p (by omega))) ?_; clear HF a; intro a HF
    refine wl_y rfl HF rfl rfl (yl_load (v := .int .u8 ((bs.getD p 0).toNat : Int)) rfl (HF.ev rfl) (RB.out.elem1 HS.out (get_getD (xs := bs) (j := p) (d := 0) (by omega)) rfl) (by kernel_rfl)) ?_; clear HF a; intro a HF
    refine wl_y rfl HF rfl rfl (yl_convU8 (n := ((bs.getD p 0).toNat : Int)) rfl (HF.ev rfl) (u8_b _) (by kernel_rfl) (by kernel_rfl)) ?_; clear HF a; intro a HF
    refine wl_mv HF rfl rfl rfl rfl rfl ?_; clear HF a; intro a HF
    refine wl_y rfl HF rfl rfl (yl_remI rfl (HF.ev rfl) (HF.ev rfl) (by omega) (rem_pos (by omega) (by omega))) ?_; clear HF a; intro a HF
    refine wl_as HF rfl rfl rfl rfl rfl ?_; clear HF a; intro a HF
    refine wl_ne ?_
    refine wp_ret ?_
    refine ex_then_ret ?_
    refine bp_ret1 HF Try.results110 (HF.res rfl) ?_
    have e8 := Int.emod_nonneg (((bs.getD p 0).toNat : Int)) (show m ≠ 0 by omega); have e9 := Int.emod_lt_of_pos (((bs.getD p 0).toNat : Int)) (show 0 < m by omega)
    exact ⟨_, rfl, by omega, by omega, St.rdMk (p := p + 1) (by omega) HS.out⟩
   ·clear HF; have HF := HF1; clear HF1
    have dcc3 := of_decide_eq_false cc3
    refine wc_false HF rfl ?_
    refine wp_skip ?_
    refine ex_then ?_
    refine wp_seq ?_
    have e1 := Int.emod_nonneg (p : Int) (show (n : Int) ≠ 0 by omega); have e2 := Int.emod_lt_of_pos (p : Int) (show (0 : Int) < (n : Int) by omega)
    have e3 := Int.emod_nonneg ((p : Int) * 7 + 3) (show (n : Int) ≠ 0 by omega); have e4 := Int.emod_lt_of_pos ((p : Int) * 7 + 3) (show (0 : Int) < (n : Int) by omega)
    have e5 := Int.ediv_nonneg (show (0 : Int) ≤ (p : Int) by omega) (show (0 : Int) ≤ (n : Int) by omega); have e6 := Int.ediv_le_self (a := (p : Int)) (n : Int) (by omega)
    obtain ⟨i1, hi1⟩ : ∃ i1 : Nat, (p : Int) % (n : Int) = (i1 : Int) := ⟨((p : Int) % (n : Int)).toNat, by omega⟩; obtain ⟨i2, hi2⟩ : ∃ i2 : Nat, ((p : Int) * 7 + 3) % (n : Int) = (i2 : Int) := ⟨(((p : Int) * 7 + 3) % (n : Int)).toNat, by omega⟩
    have hb1 := u8_b (bs.getD i1 0); have hb2 := u8_b (bs.getD i2 0)
    refine wr_quiet (by kernel_rfl) (by kernel_rfl) HS.out ?_
    refine wq_y rfl HF rfl rfl (fun _ HS => (yl_move rfl (HF.ev rfl))) ?_; clear HF a; intro a HF
    refine wq_y rfl HF rfl rfl (fun _ HS => (yl_nilCheck rfl (HF.ev rfl))) ?_; clear HF a; intro a HF
    refine wq_y rfl HF rfl rfl (fun _ HS => (yl_fieldAddr (j := 0) rfl (HF.ev rfl) (by kernel_rfl))) ?_; clear HF a; intro a HF
    refine wq_y rfl HF rfl rfl (fun _ HS => (yl_load (v := .slice ab n cb) rfl (HF.ev rfl) (((HS.box 0 rfl).cell 0).trans rfl) (by kernel_rfl))) ?_; clear HF a; intro a HF
    refine wq_y rfl HF rfl rfl (fun _ HS => (yl_move rfl (HF.ev rfl))) ?_; clear HF a; intro a HF
    refine wq_y rfl HF rfl rfl (fun _ HS => (yl_move rfl (HF.ev rfl))) ?_; clear HF a; intro a HF
    refine wq_y rfl HF rfl rfl (fun _ HS => (yl_nilCheck rfl (HF.ev rfl))) ?_; clear HF a; intro a HF
    refine wq_y rfl HF rfl rfl (fun _ HS => (yl_fieldAddr (j := 0) rfl (HF.ev rfl) (by kernel_rfl))) ?_; clear HF a; intro a HF
    refine wq_y rfl HF rfl rfl (fun _ HS => (yl_load (v := .slice ab n cb) rfl (HF.ev rfl) (((HS.box 0 rfl).cell 0).trans rfl) (by kernel_rfl))) ?_; clear HF a; intro a HF
    refine wq_y rfl HF rfl rfl (fun _ HS => (yl_lenL (e := 5) (size := 1) rfl (HF.ev rfl) (by kernel_rfl))) ?_; clear HF a; intro a HF
    refine wq_y rfl HF rfl rfl (fun _ HS => (yl_remI rfl (HF.ev rfl) (HF.ev rfl) (by omega) (rem_pos (by omega) (by omega)))) ?_; clear HF a; intro a HF
    refine wq_y rfl HF rfl rfl (fun _ HS => (yl_indexAddrR (e := 5) (i := i1) (size := 1) rfl (HF.ev rfl) (HF.ev rfl) (by kernel_rfl) (by omega) (by omega) (RB.out.ao i1 (by omega)))) ?_; clear HF a; intro a HF
    refine wq_y rfl HF rfl rfl (fun _ HS => (yl_load (v := .int .u8 ((bs.getD i1 0).toNat : Int)) rfl (HF.ev rfl) (RB.out.elem1 HS (get_getD (xs := bs) (j := i1) (d := 0) (by omega)) rfl) (by kernel_rfl))) ?_; clear HF a; intro a HF
    refine wq_y rfl HF rfl rfl (fun _ HS => (yl_convU8 (n := ((bs.getD i1 0).toNat : Int)) rfl (HF.ev rfl) (u8_b _) (by kernel_rfl) (by kernel_rfl))) ?_; clear HF a; intro a HF
    refine wq_y rfl HF rfl rfl (fun _ HS => (yl_mulI rfl (HF.ev rfl) (HF.ev rfl) (i64w (by omega)))) ?_; clear HF a; intro a HF
    refine wq_y rfl HF rfl rfl (fun _ HS => (yl_move rfl (HF.ev rfl))) ?_; clear HF a; intro a HF
    refine wq_y rfl HF rfl rfl (fun _ HS => (yl_nilCheck rfl (HF.ev rfl))) ?_; clear HF a; intro a HF
    refine wq_y rfl HF rfl rfl (fun _ HS => (yl_fieldAddr (j := 0) rfl (HF.ev rfl) (by kernel_rfl))) ?_; clear HF a; intro a HF
    refine wq_y rfl HF rfl rfl (fun _ HS => (yl_load (v := .slice ab n cb) rfl (HF.ev rfl) (((HS.box 0 rfl).cell 0).trans rfl) (by kernel_rfl))) ?_; clear HF a; intro a HF
    refine wq_y rfl HF rfl rfl (fun _ HS => (yl_move rfl (HF.ev rfl))) ?_; clear HF a; intro a HF
    refine wq_y rfl HF rfl rfl (fun _ HS => (yl_mulI rfl (HF.ev rfl) (HF.ev rfl) (i64w (by omega)))) ?_; clear HF a; intro a HF
    refine wq_y rfl HF rfl rfl (fun _ HS => (yl_addI rfl (HF.ev rfl) (HF.ev rfl) (i64w (by omega)))) ?_; clear HF a; intro a HF
    refine wq_y rfl HF rfl rfl (fun _ HS => (yl_move rfl (HF.ev rfl))) ?_; clear HF a; intro a HF
    refine wq_y rfl HF rfl rfl (fun _ HS => (yl_nilCheck rfl (HF.ev rfl))) ?_; clear HF a; intro a HF
    refine wq_y rfl HF rfl rfl (fun _ HS => (yl_fieldAddr (j := 0) rfl (HF.ev rfl) (by kernel_rfl))) ?_; clear HF a; intro a HF
    refine wq_y rfl HF rfl rfl (fun _ HS => (yl_load (v := .slice ab n cb) rfl (HF.ev rfl) (((HS.box 0 rfl).cell 0).trans rfl) (by kernel_rfl))) ?_; clear HF a; intro a HF
    refine wq_y rfl HF rfl rfl (fun _ HS => (yl_lenL (e := 5) (size := 1) rfl (HF.ev rfl) (by kernel_rfl))) ?_; clear HF a; intro a HF
    refine wq_y rfl HF rfl rfl (fun _ HS => (yl_remI rfl (HF.ev rfl) (HF.ev rfl) (by omega) (rem_pos (by omega) (by omega)))) ?_; clear HF a; intro a HF
    refine wq_y rfl HF rfl rfl (fun _ HS => (yl_indexAddrR (e := 5) (i := i2) (size := 1) rfl (HF.ev rfl) (HF.ev rfl) (by kernel_rfl) (by omega) (by omega) (RB.out.ao i2 (by omega)))) ?_; clear HF a; intro a HF
    refine wq_y rfl HF rfl rfl (fun _ HS => (yl_load (v := .int .u8 ((bs.getD i2 0).toNat : Int)) rfl (HF.ev rfl) (RB.out.elem1 HS (get_getD (xs := bs) (j := i2) (d := 0) (by omega)) rfl) (by kernel_rfl))) ?_; clear HF a; intro a HF
    refine wq_y rfl HF rfl rfl (fun _ HS => (yl_convU8 (n := ((bs.getD i2 0).toNat : Int)) rfl (HF.ev rfl) (u8_b _) (by kernel_rfl) (by kernel_rfl))) ?_; clear HF a; intro a HF
    refine wq_y rfl HF rfl rfl (fun _ HS => (yl_mulI rfl (HF.ev rfl) (HF.ev rfl) (i64w (by omega)))) ?_; clear HF a; intro a HF
    refine wq_y rfl HF rfl rfl (fun _ HS => (yl_addI rfl (HF.ev rfl) (HF.ev rfl) (i64w (by omega)))) ?_; clear HF a; intro a HF
    refine wq_y rfl HF rfl rfl (fun _ HS => (yl_move rfl (HF.ev rfl))) ?_; clear HF a; intro a HF
    refine wq_y rfl HF rfl rfl (fun _ HS => (yl_mulI rfl (HF.ev rfl) (HF.ev rfl) (i64w (by omega)))) ?_; clear HF a; intro a HF
    refine wq_y rfl HF rfl rfl (fun _ HS => (yl_addI rfl (HF.ev rfl) (HF.ev rfl) (i64w (by omega)))) ?_; clear HF a; intro a HF
    refine wq_y rfl HF rfl rfl (fun _ HS => (yl_move rfl (HF.ev rfl))) ?_; clear HF a; intro a HF
    refine wq_y rfl HF rfl rfl (fun _ HS => (yl_move rfl (HF.ev rfl))) ?_; clear HF a; intro a HF
    refine wq_y rfl HF rfl rfl (fun _ HS => (yl_nilCheck rfl (HF.ev rfl))) ?_; clear HF a; intro a HF
    refine wq_y rfl HF rfl rfl (fun _ HS => (yl_fieldAddr (j := 0) rfl (HF.ev rfl) (by kernel_rfl))) ?_; clear HF a; intro a HF
    refine wq_y rfl HF rfl rfl (fun _ HS => (yl_load (v := .slice ab n cb) rfl (HF.ev rfl) (((HS.box 0 rfl).cell 0).trans rfl) (by kernel_rfl))) ?_; clear HF a; intro a HF
    refine wq_y rfl HF rfl rfl (fun _ HS => (yl_lenL (e := 5) (size := 1) rfl (HF.ev rfl) (by kernel_rfl))) ?_; clear HF a; intro a HF
    refine wq_y rfl HF rfl rfl (fun _ HS => (yl_quoI rfl (HF.ev rfl) (HF.ev rfl) (by omega) (quo_pos (by omega) (by omega) (by omega)))) ?_; clear HF a; intro a HF
    refine wq_y rfl HF rfl rfl (fun _ HS => (yl_mulI rfl (HF.ev rfl) (HF.ev rfl) (i64w (by omega)))) ?_; clear HF a; intro a HF
    refine wq_y rfl HF rfl rfl (fun _ HS => (yl_addI rfl (HF.ev rfl) (HF.ev rfl) (i64w (by omega)))) ?_; clear HF a; intro a HF
    refine wq_y rfl HF rfl rfl (fun _ HS => (yl_assign rfl (HF.ev rfl))) ?_; clear HF a; intro a HF
    refine wpQuiet_nil ?_; intro w2 HS; replace HS := Bx.mk HS
    refine ex_then ?_
    refine wp_seq ?_
    obtain ⟨xn, hxn⟩ : ∃ xn : Nat, ((((((bs.getD i1 0).toNat : Int) * 131) + (((bs.getD i2 0).toNat : Int) * 1117)) + ((p : Int) * 29)) + (((p : Int) / (n : Int)) * 53)) = (xn : Int) := ⟨((((((bs.getD i1 0).toNat : Int) * 131) + (((bs.getD i2 0).toNat : Int) * 1117)) + ((p : Int) * 29)) + (((p : Int) / (n : Int)) * 53)).toNat, by omega⟩; have hxb : xn < 1000000000000 := (by omega); rw [hxn] at HF
    refine wp_region_lit ?_
    refine wl_mv HF rfl rfl rfl rfl rfl ?_; clear HF a; intro a HF
    refine wl_mv HF rfl rfl rfl rfl rfl ?_; clear HF a; intro a HF
    refine wl_y rfl HF rfl rfl (yl_quoI rfl (HF.ev rfl) (HF.ev rfl) (by omega) (quo_pos (by omega) (by omega) (by omega))) ?_; clear HF a; intro a HF
    refine wl_y rfl HF rfl rfl (yl_xorI (m := xn) (n := (xn / 64)) rfl (HF.ev rfl) (HF.ev rfl) (by omega) (by omega)) ?_; clear HF a; intro a HF
    refine wl_as HF rfl rfl rfl rfl rfl ?_; clear HF a; intro a HF
    refine wl_ne ?_
    refine wp_sr ?_
    refine wl_mv HF rfl rfl rfl rfl rfl ?_; clear HF a; intro a HF
    refine wl_mv HF rfl rfl rfl rfl rfl ?_; clear HF a; intro a HF
    refine wl_y rfl HF rfl rfl (yl_remI rfl (HF.ev rfl) (HF.ev rfl) (by omega) (rem_pos (by omega) (by omega))) ?_; clear HF a; intro a HF
    refine wl_as HF rfl rfl rfl rfl rfl ?_; clear HF a; intro a HF
    refine wl_ne ?_
    refine wp_ret ?_
    refine bp_ret1 HF Try.results110 (HF.res rfl) ?_
    have e8 := Int.emod_nonneg (((xn ^^^ (xn / 64) : Nat) : Int)) (show m ≠ 0 by omega); have e9 := Int.emod_lt_of_pos (((xn ^^^ (xn / 64) : Nat) : Int)) (show 0 < m by omega)
    exact ⟨_, rfl, by omega, by omega, St.rdMk (p := p + 1) (by omega) HS.out⟩

theorem pickN (w0 w : World) (rb : Nat) (ab : Option Addr) (n cb : Nat) (bs : List UInt8) (hn : n ≤ 2000) (hR : Rd encB 1 w0 ab n bs) (B : Nat) (hB : B ≤ 950000) (m : Int) (hm : m ≤ 1000000) (F : List Asr) (hS : St w0 (rdA rb ab n cb B :: F) w) : Calls Try.prog 110 #[.pointer (some ⟨rb, 0, none⟩), .int .i64 m] w fun e w' => ∃ v : Nat, e = .returned (.int .i64 (v : Int)) ∧ ((v : Int) < m ∨ v = 0) ∧ St w0 (rdA rb ab n cb (B + 1) :: F) w' := by
  refine (pick_any w0 w rb ab n cb bs hn hR B (by omega) m hm F hS).mono ?_
  rintro e w' ⟨v, rfl, h0, h1, hs⟩
  obtain ⟨u, rfl⟩ := Int.eq_ofNat_of_zero_le h0
  exact ⟨u, rfl, by omega, hs⟩

end Go.Proofs.Ytfijfjjleelphaa

/- Drawing texts and rows. -/
namespace Go.Proofs.Ytfijfjjleelphaa
set_option maxHeartbeats 1000000
set_option maxRecDepth 100000
open Go.RowKit

theorem l91Row_any (w0 w : World) (rb : Nat) (ab : Option Addr) (n cb : Nat) (bs : List UInt8) (hn : n ≤ 2000) (hR : Rd encB 1 w0 ab n bs) (B : Nat) (hB : B ≤ 900000) (F : List Asr) (hS : St w0 (rdA rb ab n cb B :: F) w) : Calls Try.prog 42 #[.pointer (some ⟨rb, 0, none⟩)] w fun e w' => ∃ v : Int, e = .returned (.int .i64 v) ∧ -1 ≤ v ∧ v ≤ 64 ∧ St w0 (rdA rb ab n cb (B + 2) :: F) w' := by
 have HS := Bx.mk hS; clear hS
 refine wc_enter Try.func42 rfl Try.ntmps42 [(0, .pointer (some ⟨rb, 0, none⟩))] ⟨rfl, trivial⟩ rfl ?_; intro a HF
 refine wp_sr ?_
 refine wl_as HF rfl rfl rfl rfl rfl ?_; clear HF a; intro a HF
 refine wl_ne ?_
 refine wp_seq ?_
 refine wp_sr ?_
 refine wl_mv HF rfl rfl rfl rfl rfl ?_; clear HF a; intro a HF
 replace HS : Bx (St w0 (rdA rb ab n cb B :: F) _) := ⟨(HS.out).pick 0 rfl⟩
 refine wl_call rfl HF rfl (enter_of Try.func110 (by kernel_rfl) rfl) (args := #[.pointer (some ⟨rb, 0, none⟩), .int .i64 8]) rfl (pickN w0 _ rb ab n cb bs hn hR B (by omega) 8 (by omega) _ HS.out) rfl rfl ?_
 rintro _ w1 ⟨dn1, rfl, hu1, hs1⟩
 refine ⟨_, rfl, ?_⟩; replace HS := Bx.mk hs1; clear hs1 HF; clear a; intro a HF
 replace HS : Bx (St w0 (rdA rb ab n cb (B + 1) :: F) _) := ⟨HS.out⟩
 refine wl_y rfl HF rfl rfl (yl_eqlI rfl (HF.ev rfl) (HF.ev rfl)) ?_; clear HF a; intro a HF
 refine wl_ne ?_
 refine HF.cases 5 rfl (fun cc1 HF1 => ?_) (fun cc1 HF1 => ?_)
 ·clear HF; have HF := HF1; clear HF1
  have dcc1 := eq_of_beq cc1
  refine wc_true HF rfl ?_
  refine wp_seq ?_
  have hl6 : [(-1 : Int), 0, 3, 7, 64, 63].length = 6 := rfl; have hrow : ∀ k, k < 6 → -1 ≤ [(-1 : Int), 0, 3, 7, 64, 63].getD k 0 ∧ [(-1 : Int), 0, 3, 7, 64, 63].getD k 0 ≤ 64 := by decide
  refine wp_region_lit ?_
  refine wl_buildS (enc := encI) (e := 3) (size := 1) rfl HF rfl rfl rfl (ps := [(0, .int .i64 (-1)), (1, .int .i64 0), (2, .int .i64 3), (3, .int .i64 7), (4, .int .i64 64), (5, .int .i64 63)]) rfl (cells := [.int .i64 (-1), .int .i64 0, .int .i64 3, .int .i64 7, .int .i64 64, .int .i64 63]) (by kernel_rfl) [-1, 0, 3, 7, 64, 63] rfl rfl (by unfold maxLen; omega) rfl HS.out ?_; clear HF HS a; intro b2 a w2 HF HS; replace HS := Bx.mk HS
  refine wl_mv HF rfl rfl rfl rfl rfl ?_; clear HF a; intro a HF
  replace HS : Bx (St w0 (rdA rb ab n cb (B + 1) :: rowA encI 1 3 (.slice (some ⟨b2, 0, none⟩) 6 6) ([-1, 0, 3, 7, 64, 63]) :: F) _) := ⟨(HS.out).pick 1 rfl⟩
  refine wl_call rfl HF rfl (enter_of Try.func110 (by kernel_rfl) rfl) (args := #[.pointer (some ⟨rb, 0, none⟩), .int .i64 6]) rfl (pickN w0 _ rb ab n cb bs hn hR (B + 1) (by omega) 6 (by omega) _ HS.out) rfl rfl ?_
  rintro _ w3 ⟨dn3, rfl, hu3, hs1⟩
  refine ⟨_, rfl, ?_⟩; replace HS := Bx.mk hs1; clear hs1 HF; clear a; intro a HF
  replace HS : Bx (St w0 (rdA rb ab n cb (B + 1 + 1) :: rowA encI 1 3 (.slice (some ⟨b2, 0, none⟩) 6 6) ([-1, 0, 3, 7, 64, 63]) :: F) _) := ⟨HS.out⟩
  refine wl_y rfl HF rfl rfl (yl_indexAddr (e := 3) (i := dn3) (size := 1) rfl (HF.ev rfl) (HF.ev rfl) (by kernel_rfl) rfl (by omega)) ?_; clear HF a; intro a HF
  refine wl_y rfl HF rfl rfl (yl_load (v := .int .i64 (([-1, 0, 3, 7, 64, 63]).getD dn3 0)) rfl (HF.ev rfl) (HS.out.elem1 encI_len 1 rfl (get_getD (xs := [-1, 0, 3, 7, 64, 63]) (j := dn3) (d := 0) (by omega)) rfl) (by kernel_rfl)) ?_; clear HF a; intro a HF
  refine wl_as HF rfl rfl rfl rfl rfl ?_; clear HF a; intro a HF
  refine wl_ne ?_
  refine wp_ret ?_
  refine ex_then_ret ?_
  refine bp_ret1 HF Try.results42 (HF.res rfl) ?_
  replace HS : Bx (St w0 (rdA rb ab n cb (B + 1 + 1) :: rowA encI 1 3 (.slice (some ⟨b2, 0, none⟩) 6 6) ([-1, 0, 3, 7, 64, 63]) :: F) _) := ⟨(HS.out).pick 0 rfl⟩
  exact ⟨_, rfl, (hrow dn3 (by omega)).1, (hrow dn3 (by omega)).2, ((HS.out.rdLe (B' := B + 2) (by omega)).erase 1)⟩
 ·clear HF; have HF := HF1; clear HF1
  have dcc1 := ne_of_beq_false cc1
  refine wc_false HF rfl ?_
  refine wp_skip ?_
  refine ex_then ?_
  refine wp_sr ?_
  refine wl_mv HF rfl rfl rfl rfl rfl ?_; clear HF a; intro a HF
  replace HS : Bx (St w0 (rdA rb ab n cb (B + 1) :: F) _) := ⟨(HS.out).pick 0 rfl⟩
  refine wl_call rfl HF rfl (enter_of Try.func110 (by kernel_rfl) rfl) (args := #[.pointer (some ⟨rb, 0, none⟩), .int .i64 12]) rfl (pickN w0 _ rb ab n cb bs hn hR (B + 1) (by omega) 12 (by omega) _ HS.out) rfl rfl ?_
  rintro _ w4 ⟨dn4, rfl, hu4, hs1⟩
  refine ⟨_, rfl, ?_⟩; replace HS := Bx.mk hs1; clear hs1 HF; clear a; intro a HF
  replace HS : Bx (St w0 (rdA rb ab n cb (B + 1 + 1) :: F) _) := ⟨HS.out⟩
  refine wl_y rfl HF rfl rfl (yl_addI rfl (HF.ev rfl) (HF.ev rfl) (i64w (by omega))) ?_; clear HF a; intro a HF
  refine wl_as HF rfl rfl rfl rfl rfl ?_; clear HF a; intro a HF
  refine wl_ne ?_
  refine wp_ret ?_
  refine bp_ret1 HF Try.results42 (HF.res rfl) ?_
  replace HS : Bx (St w0 (rdA rb ab n cb (B + 1 + 1) :: F) _) := ⟨(HS.out).pick 0 rfl⟩
  exact ⟨_, rfl, by omega, by omega, (HS.out.rdLe (B' := B + 2) (by omega))⟩

theorem l91Text_any (w0 w : World) (rb : Nat) (ab : Option Addr) (n cb : Nat) (bs : List UInt8) (hn : n ≤ 2000) (hR : Rd encB 1 w0 ab n bs) (B : Nat) (hB : B ≤ 900000) (m : Nat) (hm : m ≤ 1000) (F : List Asr) (hS : St w0 (rdA rb ab n cb B :: F) w) : Calls Try.prog 111 #[.pointer (some ⟨rb, 0, none⟩), .int .i64 (m : Int)] w fun e w' => ∃ t : ByteArray, e = .returned (.string t) ∧ t.size ≤ m ∧ St w0 (rdA rb ab n cb (B + (2 + 2 * m)) :: F) w' := by
 have HS := Bx.mk hS; clear hS
 refine wc_enter Try.func111 rfl Try.ntmps111 [(0, .pointer (some ⟨rb, 0, none⟩)), (1, .int .i64 (m : Int))] ⟨rfl, rfl, trivial⟩ rfl ?_; intro a HF
 refine wp_sr ?_
 refine wl_as HF rfl rfl rfl rfl rfl ?_; clear HF a; intro a HF
 refine wl_ne ?_
 refine wp_sr ?_
 refine wl_empty (e := 5) (size := 1) rfl HF rfl rfl rfl (by kernel_rfl) HS.out ?_; clear HF HS a; intro a w1 b1 HF HS; replace HS := Bx.mk HS
 refine wl_as HF rfl rfl rfl rfl rfl ?_; clear HF a; intro a HF
 refine wl_ne ?_
 refine wp_sr ?_
 refine wl_mv HF rfl rfl rfl rfl rfl ?_; clear HF a; intro a HF
 refine wl_mv HF rfl rfl rfl rfl rfl ?_; clear HF a; intro a HF
 refine wl_y rfl HF rfl rfl (yl_addI rfl (HF.ev rfl) (HF.ev rfl) (i64w (by omega))) ?_; clear HF a; intro a HF
 replace HS : Bx (St w0 (rdA rb ab n cb B :: F) _) := ⟨(HS.out).pick 0 rfl⟩
 refine wl_call rfl HF rfl (enter_of Try.func110 (by kernel_rfl) rfl) (args := #[.pointer (some ⟨rb, 0, none⟩), .int .i64 ((m : Int) + 1)]) rfl (pickN w0 _ rb ab n cb bs hn hR B (by omega) ((m : Int) + 1) (by omega) _ HS.out) rfl rfl ?_
 rintro _ w2 ⟨dn2, rfl, hu2, hs1⟩
 refine ⟨_, rfl, ?_⟩; replace HS := Bx.mk hs1; clear hs1 HF; clear a; intro a HF
 replace HS : Bx (St w0 (rdA rb ab n cb (B + 1) :: F) _) := ⟨HS.out⟩
 refine wl_as HF rfl rfl rfl rfl rfl ?_; clear HF a; intro a HF
 refine wl_ne ?_
 refine wp_sr ?_
 refine wl_mv HF rfl rfl rfl rfl rfl ?_; clear HF a; intro a HF
 replace HS : Bx (St w0 (rdA rb ab n cb (B + 1) :: F) _) := ⟨(HS.out).pick 0 rfl⟩
 refine wl_call rfl HF rfl (enter_of Try.func110 (by kernel_rfl) rfl) (args := #[.pointer (some ⟨rb, 0, none⟩), .int .i64 4]) rfl (pickN w0 _ rb ab n cb bs hn hR (B + 1) (by omega) 4 (by omega) _ HS.out) rfl rfl ?_
 rintro _ w3 ⟨dn3, rfl, hu3, hs1⟩
 refine ⟨_, rfl, ?_⟩; replace HS := Bx.mk hs1; clear hs1 HF; clear a; intro a HF
 replace HS : Bx (St w0 (rdA rb ab n cb (B + 1 + 1) :: F) _) := ⟨HS.out⟩
 refine wl_as HF rfl rfl rfl rfl rfl ?_; clear HF a; intro a HF
 refine wl_ne ?_
 refine wp_seq ?_
 refine wp_block ?_
 replace HS := Bx.mk (HS.out.nilRow encB 1 5 (some ⟨b1, 0, none⟩)); replace HS := Bx.mk (show St w0 (rowA encB 1 5 (.slice (some ⟨b1, 0, none⟩) 0 0) ([]) :: rdA rb ab n cb (B + 2 + 2 * 0) :: F) _ from (HS.out.swap.rdLe (B' := B + 2 + 2 * 0) (by omega)).swap)
 refine wc_loop (ι := Nat) (fun k a w => ∃ (ao : Option Addr) (cp : Nat) (xs : List UInt8), (xs.length = k ∧ k ≤ dn2) ∧ Fr 72 a [(0, .pointer (some ⟨rb, 0, none⟩)), (1, .int .i64 (m : Int)), (4, .string (⟨#[]⟩ : ByteArray)), (5, .slice ao xs.length cp), (6, .int .i64 (dn2 : Int)), (7, .int .i64 (dn3 : Int))] ∧ St w0 (rowA encB 1 5 (.slice ao xs.length cp) xs :: rdA rb ab n cb (B + 2 + 2 * k) :: F) w) (fun k => dn2 - k) 0 ⟨_, _, [], ⟨rfl, Nat.zero_le _⟩, HF.less _ ⟨rfl, rfl, rfl, rfl, rfl, rfl, trivial⟩, HS.out⟩ ?_
 clear HF HS; clear a
 rintro k a w4 ⟨ao, cp, xs, ⟨hxl, hk⟩, HF, HS⟩
 replace HS := Bx.mk HS
 refine wp_seq ?_
 refine wp_sr ?_
 refine wl_mv HF rfl rfl rfl rfl rfl ?_; clear HF a; intro a HF
 refine wl_y rfl HF rfl rfl (yl_lenL (e := 5) (size := 1) rfl (HF.ev rfl) (by kernel_rfl)) ?_; clear HF a; intro a HF
 refine wl_mv HF rfl rfl rfl rfl rfl ?_; clear HF a; intro a HF
 refine wl_y rfl HF rfl rfl (yl_lssI rfl (HF.ev rfl) (HF.ev rfl)) ?_; clear HF a; intro a HF
 refine wl_ne ?_
 refine HF.cases 20 rfl (fun cc1 HF1 => ?_) (fun cc1 HF1 => ?_)
 ·clear HF; have HF := HF1; clear HF1
  have dcc1 := of_decide_eq_true cc1
  refine wc_true HF rfl ?_
  refine wp_skip ?_
  refine ex_then ?_
  refine wp_block ?_
  refine wp_sr ?_
  refine wl_mv HF rfl rfl rfl rfl rfl ?_; clear HF a; intro a HF
  refine wl_ne ?_
  refine wp_block ?_
  refine wp_sr ?_
  refine wl_y rfl HF rfl rfl (yl_eqlI rfl (HF.ev rfl) (HF.ev rfl)) ?_; clear HF a; intro a HF
  refine wl_as HF rfl rfl rfl rfl rfl ?_; clear HF a; intro a HF
  refine wl_ne ?_
  refine HF.cases 29 rfl (fun cc2 HF1 => ?_) (fun cc2 HF1 => ?_)
  ·clear HF; have HF := HF1; clear HF1
   have dcc2 := eq_of_beq cc2
   refine wc_true HF rfl ?_
   refine wp_region_lit ?_
   refine wl_mv HF rfl rfl rfl rfl rfl ?_; clear HF a; intro a HF
   refine wl_mv HF rfl rfl rfl rfl rfl ?_; clear HF a; intro a HF
   replace HS : Bx (St w0 (rdA rb ab n cb (B + 2 + 2 * k) :: rowA encB 1 5 (.slice ao xs.length cp) xs :: F) _) := ⟨(HS.out).pick 1 rfl⟩
   refine wl_call rfl HF rfl (enter_of Try.func110 (by kernel_rfl) rfl) (args := #[.pointer (some ⟨rb, 0, none⟩), .int .i64 256]) rfl (pickN w0 _ rb ab n cb bs hn hR (B + 2 + 2 * k) (by omega) 256 (by omega) _ HS.out) rfl rfl ?_
   rintro _ w5 ⟨dn4, rfl, hu4, hs1⟩
   refine ⟨_, rfl, ?_⟩; replace HS := Bx.mk hs1; clear hs1 HF; clear a; intro a HF
   replace HS : Bx (St w0 (rdA rb ab n cb (B + 2 + 2 * k + 1) :: rowA encB 1 5 (.slice ao xs.length cp) xs :: F) _) := ⟨HS.out⟩
   refine wl_y rfl HF rfl rfl (yl_toU8 (b := UInt8.ofNat (dn4 : Int).toNat) rfl (HF.ev rfl) (by omega) rfl (by kernel_rfl) (by kernel_rfl)) ?_; clear HF a; intro a HF
   refine wl_buildS (enc := encB) (e := 5) (size := 1) rfl HF rfl rfl rfl (ps := [(0, .int .u8 ((UInt8.ofNat (dn4 : Int).toNat).toNat : Int))]) rfl (cells := [.int .u8 ((UInt8.ofNat (dn4 : Int).toNat).toNat : Int)]) (by kernel_rfl) [(UInt8.ofNat (dn4 : Int).toNat)] rfl rfl (by unfold maxLen; omega) rfl HS.out ?_; clear HF HS a; intro b5 a w6 HF HS; replace HS := Bx.mk HS
   refine wl_appL rfl HF rfl rfl rfl (HF.ev rfl) (HF.ev rfl) elemB encB_len HS.out 2 (xs := xs) rfl (ys := [(UInt8.ofNat (dn4 : Int).toNat)]) (St.rdN HS.out encB_len 0 rfl) (cells_one_B _) (by unfold maxLen; simp only [List.length_cons, List.length_nil]; omega) (by simp only [List.length_cons, List.length_nil]; omega) ?_; clear HF HS a; intro ao6 cp7 w7 a HF HS; replace HS := Bx.mk HS
   replace HS : Bx (St w0 (rowA encB 1 5 (.slice (some ⟨b5, 0, none⟩) 1 1) ([(UInt8.ofNat (dn4 : Int).toNat)]) :: rdA rb ab n cb (B + 2 + 2 * k + 1) :: rowA encB 1 5 (.slice ao6 (xs.length + ([(UInt8.ofNat (dn4 : Int).toNat)]).length) cp7) (xs ++ ([(UInt8.ofNat (dn4 : Int).toNat)])) :: F) _) := ⟨HS.out⟩
   refine wl_as HF rfl rfl rfl rfl rfl ?_; clear HF a; intro a HF
   refine wpList_nil ?_
   refine ex_block ?_
   refine ex_block ?_
   refine ex_then ?_
   have hz : xs.length + ([(UInt8.ofNat (dn4 : Int).toNat)]).length = (xs ++ ([(UInt8.ofNat (dn4 : Int).toNat)])).length := (List.length_append ..).symm
   rw [hz] at HS HF
   replace HS : Bx (St w0 (rdA rb ab n cb (B + 2 + 2 * k + 1) :: rowA encB 1 5 (.slice ao6 ((xs ++ ([(UInt8.ofNat (dn4 : Int).toNat)])).length) cp7) (xs ++ ([(UInt8.ofNat (dn4 : Int).toNat)])) :: rowA encB 1 5 (.slice (some ⟨b5, 0, none⟩) 1 1) ([(UInt8.ofNat (dn4 : Int).toNat)]) :: F) _) := ⟨((HS.out).pick 2 rfl).pick 2 rfl⟩
   replace HS := Bx.mk (HS.out.rdLe (B' := B + 2 + 2 * (k + 1)) (by omega)).swap
   replace HS : Bx (St w0 (rowA encB 1 5 (.slice ao6 ((xs ++ ([(UInt8.ofNat (dn4 : Int).toNat)])).length) cp7) (xs ++ ([(UInt8.ofNat (dn4 : Int).toNat)])) :: rdA rb ab n cb (B + 2 + 2 * (k + 1)) :: rowA encB 1 5 (.slice (some ⟨b5, 0, none⟩) 1 1) ([(UInt8.ofNat (dn4 : Int).toNat)]) :: F) _) := ⟨HS.out⟩
   replace HS := Bx.mk ((HS.out.erase 2))
   exact ⟨k + 1, ⟨_, _, xs ++ ([(UInt8.ofNat (dn4 : Int).toNat)]), ⟨by simp [hxl], by omega⟩, HF.less _ ⟨rfl, rfl, rfl, rfl, rfl, rfl, trivial⟩, HS.out⟩, (by omega)⟩
  ·clear HF; have HF := HF1; clear HF1
   have dcc2 := ne_of_beq_false cc2
   refine wc_false HF rfl ?_
   refine wp_sr ?_
   refine wl_y rfl HF rfl rfl (yl_eqlI rfl (HF.ev rfl) (HF.ev rfl)) ?_; clear HF a; intro a HF
   refine wl_as HF rfl rfl rfl rfl rfl ?_; clear HF a; intro a HF
   refine wl_ne ?_
   refine HF.cases 37 rfl (fun cc3 HF1 => ?_) (fun cc3 HF1 => ?_)
   ·clear HF; have HF := HF1; clear HF1
    have dcc3 := eq_of_beq cc3
    refine wc_true HF rfl ?_
    have hl7 : [(97 : UInt8), (98 : UInt8), (126 : UInt8), (48 : UInt8), (58 : UInt8), (59 : UInt8), (61 : UInt8)].length = 7 := rfl
    refine wp_region_lit ?_
    refine wl_mv HF rfl rfl rfl rfl rfl ?_; clear HF a; intro a HF
    refine wl_buildS (enc := encB) (e := 5) (size := 1) rfl HF rfl rfl rfl (ps := [(0, .int .u8 97), (1, .int .u8 98), (2, .int .u8 126), (3, .int .u8 48), (4, .int .u8 58), (5, .int .u8 59), (6, .int .u8 61)]) rfl (cells := [.int .u8 97, .int .u8 98, .int .u8 126, .int .u8 48, .int .u8 58, .int .u8 59, .int .u8 61]) (by kernel_rfl) [(97 : UInt8), (98 : UInt8), (126 : UInt8), (48 : UInt8), (58 : UInt8), (59 : UInt8), (61 : UInt8)] rfl rfl (by unfold maxLen; omega) rfl HS.out ?_; clear HF HS a; intro b8 a w8 HF HS; replace HS := Bx.mk HS
    refine wl_convSl (e := 5) rfl HF rfl rfl rfl (HF.ev rfl) (by kernel_rfl) (by kernel_rfl) HS.out 0 rfl (by decide) ?_; clear HF HS a; intro w9 a HF HS; replace HS := Bx.mk HS
    replace HS : Bx (St w0 (romA encB 1 b8 ([(97 : UInt8), (98 : UInt8), (126 : UInt8), (48 : UInt8), (58 : UInt8), (59 : UInt8), (61 : UInt8)]) :: rowA encB 1 5 (.slice ao xs.length cp) xs :: rdA rb ab n cb (B + 2 + 2 * k) :: F) _) := ⟨HS.out⟩
    refine wl_mv HF rfl rfl rfl rfl rfl ?_; clear HF a; intro a HF
    replace HS : Bx (St w0 (rdA rb ab n cb (B + 2 + 2 * k) :: romA encB 1 b8 ([(97 : UInt8), (98 : UInt8), (126 : UInt8), (48 : UInt8), (58 : UInt8), (59 : UInt8), (61 : UInt8)]) :: rowA encB 1 5 (.slice ao xs.length cp) xs :: F) _) := ⟨(HS.out).pick 2 rfl⟩
    refine wl_call rfl HF rfl (enter_of Try.func110 (by kernel_rfl) rfl) (args := #[.pointer (some ⟨rb, 0, none⟩), .int .i64 7]) rfl (pickN w0 _ rb ab n cb bs hn hR (B + 2 + 2 * k) (by omega) 7 (by omega) _ HS.out) rfl rfl ?_
    rintro _ w10 ⟨dn9, rfl, hu9, hs1⟩
    refine ⟨_, rfl, ?_⟩; replace HS := Bx.mk hs1; clear hs1 HF; clear a; intro a HF
    replace HS : Bx (St w0 (rdA rb ab n cb (B + 2 + 2 * k + 1) :: romA encB 1 b8 ([(97 : UInt8), (98 : UInt8), (126 : UInt8), (48 : UInt8), (58 : UInt8), (59 : UInt8), (61 : UInt8)]) :: rowA encB 1 5 (.slice ao xs.length cp) xs :: F) _) := ⟨HS.out⟩
    refine wl_y rfl HF rfl rfl (yl_indexAddr (e := 5) (i := dn9) (size := 1) rfl (HF.ev rfl) (HF.ev rfl) (by kernel_rfl) rfl (by omega)) ?_; clear HF a; intro a HF
    refine wl_y rfl HF rfl rfl (yl_load (v := .int .u8 ((([(97 : UInt8), (98 : UInt8), (126 : UInt8), (48 : UInt8), (58 : UInt8), (59 : UInt8), (61 : UInt8)]).getD dn9 0).toNat : Int)) rfl (HF.ev rfl) (HS.out.rom1 encB_len 1 rfl (get_getD (xs := [(97 : UInt8), (98 : UInt8), (126 : UInt8), (48 : UInt8), (58 : UInt8), (59 : UInt8), (61 : UInt8)]) (j := dn9) (d := 0) (by omega)) rfl) (by kernel_rfl)) ?_; clear HF a; intro a HF
    refine wl_buildS (enc := encB) (e := 5) (size := 1) rfl HF rfl rfl rfl (ps := [(0, .int .u8 ((([(97 : UInt8), (98 : UInt8), (126 : UInt8), (48 : UInt8), (58 : UInt8), (59 : UInt8), (61 : UInt8)]).getD dn9 0).toNat : Int))]) rfl (cells := [.int .u8 ((([(97 : UInt8), (98 : UInt8), (126 : UInt8), (48 : UInt8), (58 : UInt8), (59 : UInt8), (61 : UInt8)]).getD dn9 0).toNat : Int)]) (by kernel_rfl) [(([(97 : UInt8), (98 : UInt8), (126 : UInt8), (48 : UInt8), (58 : UInt8), (59 : UInt8), (61 : UInt8)]).getD dn9 0)] rfl rfl (by unfold maxLen; omega) rfl HS.out ?_; clear HF HS a; intro b10 a w11 HF HS; replace HS := Bx.mk HS
    refine wl_appL rfl HF rfl rfl rfl (HF.ev rfl) (HF.ev rfl) elemB encB_len HS.out 3 (xs := xs) rfl (ys := [(([(97 : UInt8), (98 : UInt8), (126 : UInt8), (48 : UInt8), (58 : UInt8), (59 : UInt8), (61 : UInt8)]).getD dn9 0)]) (St.rdN HS.out encB_len 0 rfl) (cells_one_B _) (by unfold maxLen; simp only [List.length_cons, List.length_nil]; omega) (by simp only [List.length_cons, List.length_nil]; omega) ?_; clear HF HS a; intro ao11 cp12 w12 a HF HS; replace HS := Bx.mk HS
    replace HS : Bx (St w0 (rowA encB 1 5 (.slice (some ⟨b10, 0, none⟩) 1 1) ([(([(97 : UInt8), (98 : UInt8), (126 : UInt8), (48 : UInt8), (58 : UInt8), (59 : UInt8), (61 : UInt8)]).getD dn9 0)]) :: rdA rb ab n cb (B + 2 + 2 * k + 1) :: romA encB 1 b8 ([(97 : UInt8), (98 : UInt8), (126 : UInt8), (48 : UInt8), (58 : UInt8), (59 : UInt8), (61 : UInt8)]) :: rowA encB 1 5 (.slice ao11 (xs.length + ([(([(97 : UInt8), (98 : UInt8), (126 : UInt8), (48 : UInt8), (58 : UInt8), (59 : UInt8), (61 : UInt8)]).getD dn9 0)]).length) cp12) (xs ++ ([(([(97 : UInt8), (98 : UInt8), (126 : UInt8), (48 : UInt8), (58 : UInt8), (59 : UInt8), (61 : UInt8)]).getD dn9 0)])) :: F) _) := ⟨HS.out⟩
    refine wl_as HF rfl rfl rfl rfl rfl ?_; clear HF a; intro a HF
    refine wpList_nil ?_
    refine ex_block ?_
    refine ex_block ?_
    refine ex_then ?_
    have hz : xs.length + ([(([(97 : UInt8), (98 : UInt8), (126 : UInt8), (48 : UInt8), (58 : UInt8), (59 : UInt8), (61 : UInt8)]).getD dn9 0)]).length = (xs ++ ([(([(97 : UInt8), (98 : UInt8), (126 : UInt8), (48 : UInt8), (58 : UInt8), (59 : UInt8), (61 : UInt8)]).getD dn9 0)])).length := (List.length_append ..).symm
    rw [hz] at HS HF
    replace HS : Bx (St w0 (rdA rb ab n cb (B + 2 + 2 * k + 1) :: rowA encB 1 5 (.slice ao11 ((xs ++ ([(([(97 : UInt8), (98 : UInt8), (126 : UInt8), (48 : UInt8), (58 : UInt8), (59 : UInt8), (61 : UInt8)]).getD dn9 0)])).length) cp12) (xs ++ ([(([(97 : UInt8), (98 : UInt8), (126 : UInt8), (48 : UInt8), (58 : UInt8), (59 : UInt8), (61 : UInt8)]).getD dn9 0)])) :: rowA encB 1 5 (.slice (some ⟨b10, 0, none⟩) 1 1) ([(([(97 : UInt8), (98 : UInt8), (126 : UInt8), (48 : UInt8), (58 : UInt8), (59 : UInt8), (61 : UInt8)]).getD dn9 0)]) :: romA encB 1 b8 ([(97 : UInt8), (98 : UInt8), (126 : UInt8), (48 : UInt8), (58 : UInt8), (59 : UInt8), (61 : UInt8)]) :: F) _) := ⟨((HS.out).pick 3 rfl).pick 2 rfl⟩
    replace HS := Bx.mk (HS.out.rdLe (B' := B + 2 + 2 * (k + 1)) (by omega)).swap
    replace HS : Bx (St w0 (rowA encB 1 5 (.slice ao11 ((xs ++ ([(([(97 : UInt8), (98 : UInt8), (126 : UInt8), (48 : UInt8), (58 : UInt8), (59 : UInt8), (61 : UInt8)]).getD dn9 0)])).length) cp12) (xs ++ ([(([(97 : UInt8), (98 : UInt8), (126 : UInt8), (48 : UInt8), (58 : UInt8), (59 : UInt8), (61 : UInt8)]).getD dn9 0)])) :: rdA rb ab n cb (B + 2 + 2 * (k + 1)) :: rowA encB 1 5 (.slice (some ⟨b10, 0, none⟩) 1 1) ([(([(97 : UInt8), (98 : UInt8), (126 : UInt8), (48 : UInt8), (58 : UInt8), (59 : UInt8), (61 : UInt8)]).getD dn9 0)]) :: romA encB 1 b8 ([(97 : UInt8), (98 : UInt8), (126 : UInt8), (48 : UInt8), (58 : UInt8), (59 : UInt8), (61 : UInt8)]) :: F) _) := ⟨HS.out⟩
    replace HS := Bx.mk (((HS.out.erase 3).erase 2))
    exact ⟨k + 1, ⟨_, _, xs ++ ([(([(97 : UInt8), (98 : UInt8), (126 : UInt8), (48 : UInt8), (58 : UInt8), (59 : UInt8), (61 : UInt8)]).getD dn9 0)]), ⟨by simp [hxl], by omega⟩, HF.less _ ⟨rfl, rfl, rfl, rfl, rfl, rfl, trivial⟩, HS.out⟩, (by omega)⟩
   ·clear HF; have HF := HF1; clear HF1
    have dcc3 := ne_of_beq_false cc3
    refine wc_false HF rfl ?_
    refine wp_sr ?_
    refine wl_y rfl HF rfl rfl (yl_eqlI rfl (HF.ev rfl) (HF.ev rfl)) ?_; clear HF a; intro a HF
    refine wl_as HF rfl rfl rfl rfl rfl ?_; clear HF a; intro a HF
    refine wl_ne ?_
    refine HF.cases 48 rfl (fun cc4 HF1 => ?_) (fun cc4 HF1 => ?_)
    ·clear HF; have HF := HF1; clear HF1
     have dcc4 := eq_of_beq cc4
     refine wc_true HF rfl ?_
     refine wp_sr ?_
     refine wl_mv HF rfl rfl rfl rfl rfl ?_; clear HF a; intro a HF
     replace HS : Bx (St w0 (rdA rb ab n cb (B + 2 + 2 * k) :: rowA encB 1 5 (.slice ao xs.length cp) xs :: F) _) := ⟨(HS.out).pick 1 rfl⟩
     refine wl_call rfl HF rfl (enter_of Try.func110 (by kernel_rfl) rfl) (args := #[.pointer (some ⟨rb, 0, none⟩), .int .i64 3]) rfl (pickN w0 _ rb ab n cb bs hn hR (B + 2 + 2 * k) (by omega) 3 (by omega) _ HS.out) rfl rfl ?_
     rintro _ w13 ⟨dn13, rfl, hu13, hs1⟩
     refine ⟨_, rfl, ?_⟩; replace HS := Bx.mk hs1; clear hs1 HF; clear a; intro a HF
     replace HS : Bx (St w0 (rdA rb ab n cb (B + 2 + 2 * k + 1) :: rowA encB 1 5 (.slice ao xs.length cp) xs :: F) _) := ⟨HS.out⟩
     refine wl_y rfl HF rfl rfl (yl_addI rfl (HF.ev rfl) (HF.ev rfl) (i64w (by omega))) ?_; clear HF a; intro a HF
     refine wl_y rfl HF rfl rfl (yl_toU8 (b := UInt8.ofNat ((97 : Int) + (dn13 : Int)).toNat) rfl (HF.ev rfl) (by omega) rfl (by kernel_rfl) (by kernel_rfl)) ?_; clear HF a; intro a HF
     refine wl_as HF rfl rfl rfl rfl rfl ?_; clear HF a; intro a HF
     refine wl_ne ?_
     refine wp_sr ?_
     refine wl_mv HF rfl rfl rfl rfl rfl ?_; clear HF a; intro a HF
     replace HS : Bx (St w0 (rdA rb ab n cb (B + 2 + 2 * k + 1) :: rowA encB 1 5 (.slice ao xs.length cp) xs :: F) _) := ⟨(HS.out).pick 0 rfl⟩
     refine wl_call rfl HF rfl (enter_of Try.func110 (by kernel_rfl) rfl) (args := #[.pointer (some ⟨rb, 0, none⟩), .int .i64 6]) rfl (pickN w0 _ rb ab n cb bs hn hR (B + 2 + 2 * k + 1) (by omega) 6 (by omega) _ HS.out) rfl rfl ?_
     rintro _ w14 ⟨dn14, rfl, hu14, hs1⟩
     refine ⟨_, rfl, ?_⟩; replace HS := Bx.mk hs1; clear hs1 HF; clear a; intro a HF
     replace HS : Bx (St w0 (rdA rb ab n cb (B + 2 + 2 * k + 1 + 1) :: rowA encB 1 5 (.slice ao xs.length cp) xs :: F) _) := ⟨HS.out⟩
     refine wl_as HF rfl rfl rfl rfl rfl ?_; clear HF a; intro a HF
     refine wl_ne ?_
     refine wp_block ?_
     replace HS : Bx (St w0 (rowA encB 1 5 (.slice ao xs.length cp) xs :: rdA rb ab n cb (B + 2 + 2 * k + 1 + 1) :: F) _) := ⟨((HS.out).pick 0 rfl).pick 1 rfl⟩
     refine wc_loop (ι := Nat) (fun j a w => ∃ (ao2 : Option Addr) (cp2 : Nat) (ys : List UInt8), (ys.length = k + j ∧ ys.length ≤ dn2 ∧ j ≤ 6) ∧ Fr 72 a [(0, .pointer (some ⟨rb, 0, none⟩)), (1, .int .i64 (m : Int)), (4, .string (⟨#[]⟩ : ByteArray)), (5, .slice ao2 ys.length cp2), (6, .int .i64 (dn2 : Int)), (7, .int .i64 (dn3 : Int)), (8, .int .u8 ((UInt8.ofNat ((97 : Int) + (dn13 : Int)).toNat).toNat : Int)), (9, .int .i64 ((dn14 : Int) - (j : Int)))] ∧ St w0 (rowA encB 1 5 (.slice ao2 ys.length cp2) ys :: rdA rb ab n cb (B + 2 + 2 * k + 1 + 1) :: F) w) (fun j => 6 - j) 0 ⟨_, _, xs, ⟨by omega, by omega, by omega⟩, HF.less _ ⟨rfl, rfl, rfl, rfl, rfl, rfl, rfl, (by show some (Value.int .i64 _) = some (Value.int .i64 _); exact congrArg (fun z => some (Value.int .i64 z)) (by omega)), trivial⟩, HS.out⟩ ?_
     clear HF HS; clear a
     rintro j a w15 ⟨ao2, cp2, ys, ⟨hy, hyk, hj⟩, HF, HS⟩
     replace HS := Bx.mk HS
     refine wp_seq ?_
     refine wp_sr ?_
     refine wl_mv HF rfl rfl rfl rfl rfl ?_; clear HF a; intro a HF
     refine wl_y rfl HF rfl rfl (yl_geqI rfl (HF.ev rfl) (HF.ev rfl)) ?_; clear HF a; intro a HF
     refine wl_mv HF rfl rfl rfl rfl rfl ?_; clear HF a; intro a HF
     refine HF.cases 58 rfl (fun cc5 HF1 => ?_) (fun cc5 HF1 => ?_)
     ·clear HF; have HF := HF1; clear HF1
      have dcc5 := of_decide_eq_true cc5
      refine wl_yg HF rfl rfl rfl rfl rfl (yl_move rfl (HF.ev rfl)) ?_; clear HF a; intro a HF
      refine wl_yg HF rfl rfl rfl rfl rfl (yl_lenL (e := 5) (size := 1) rfl (HF.ev rfl) (by kernel_rfl)) ?_; clear HF a; intro a HF
      refine wl_yg HF rfl rfl rfl rfl rfl (yl_move rfl (HF.ev rfl)) ?_; clear HF a; intro a HF
      refine wl_yg HF rfl rfl rfl rfl rfl (yl_lssI rfl (HF.ev rfl) (HF.ev rfl)) ?_; clear HF a; intro a HF
      refine wl_y rfl HF rfl rfl (yl_pick_t rfl (HF.ev rfl) (HF.ev rfl)) ?_; clear HF a; intro a HF
      refine wl_ne ?_
      refine HF.cases 63 rfl (fun cc6 HF1 => ?_) (fun cc6 HF1 => ?_)
      ·clear HF; have HF := HF1; clear HF1
       have dcc6 := of_decide_eq_true cc6
       refine wc_true HF rfl ?_
       refine wp_skip ?_
       refine ex_then ?_
       refine wp_seq ?_
       refine wp_block ?_
       refine wp_region_lit ?_
       refine wl_mv HF rfl rfl rfl rfl rfl ?_; clear HF a; intro a HF
       refine wl_mv HF rfl rfl rfl rfl rfl ?_; clear HF a; intro a HF
       refine wl_buildS (enc := encB) (e := 5) (size := 1) rfl HF rfl rfl rfl (ps := [(0, .int .u8 ((UInt8.ofNat ((97 : Int) + (dn13 : Int)).toNat).toNat : Int))]) rfl (cells := [.int .u8 ((UInt8.ofNat ((97 : Int) + (dn13 : Int)).toNat).toNat : Int)]) (by kernel_rfl) [(UInt8.ofNat ((97 : Int) + (dn13 : Int)).toNat)] rfl rfl (by unfold maxLen; omega) rfl HS.out ?_; clear HF HS a; intro b15 a w16 HF HS; replace HS := Bx.mk HS
       refine wl_appL rfl HF rfl rfl rfl (HF.ev rfl) (HF.ev rfl) elemB encB_len HS.out 1 (xs := ys) rfl (ys := [(UInt8.ofNat ((97 : Int) + (dn13 : Int)).toNat)]) (St.rdN HS.out encB_len 0 rfl) (cells_one_B _) (by unfold maxLen; simp only [List.length_cons, List.length_nil]; omega) (by simp only [List.length_cons, List.length_nil]; omega) ?_; clear HF HS a; intro ao16 cp17 w17 a HF HS; replace HS := Bx.mk HS
       replace HS : Bx (St w0 (rowA encB 1 5 (.slice (some ⟨b15, 0, none⟩) 1 1) ([(UInt8.ofNat ((97 : Int) + (dn13 : Int)).toNat)]) :: rowA encB 1 5 (.slice ao16 (ys.length + ([(UInt8.ofNat ((97 : Int) + (dn13 : Int)).toNat)]).length) cp17) (ys ++ ([(UInt8.ofNat ((97 : Int) + (dn13 : Int)).toNat)])) :: rdA rb ab n cb (B + 2 + 2 * k + 1 + 1) :: F) _) := ⟨HS.out⟩
       refine wl_as HF rfl rfl rfl rfl rfl ?_; clear HF a; intro a HF
       refine wpList_nil ?_
       refine ex_block ?_
       refine ex_then ?_
       refine wp_region_lit ?_
       refine wl_mv HF rfl rfl rfl rfl rfl ?_; clear HF a; intro a HF
       refine wl_y rfl HF rfl rfl (yl_subI rfl (HF.ev rfl) (HF.ev rfl) (i64w (by omega))) ?_; clear HF a; intro a HF
       refine wl_as HF rfl rfl rfl rfl rfl ?_; clear HF a; intro a HF
       refine wl_ne ?_
       have hz : ys.length + ([(UInt8.ofNat ((97 : Int) + (dn13 : Int)).toNat)]).length = (ys ++ ([(UInt8.ofNat ((97 : Int) + (dn13 : Int)).toNat)])).length := (List.length_append ..).symm
       rw [hz] at HS HF
       replace HS : Bx (St w0 (rowA encB 1 5 (.slice ao16 ((ys ++ ([(UInt8.ofNat ((97 : Int) + (dn13 : Int)).toNat)])).length) cp17) (ys ++ ([(UInt8.ofNat ((97 : Int) + (dn13 : Int)).toNat)])) :: rdA rb ab n cb (B + 2 + 2 * k + 1 + 1) :: rowA encB 1 5 (.slice (some ⟨b15, 0, none⟩) 1 1) ([(UInt8.ofNat ((97 : Int) + (dn13 : Int)).toNat)]) :: F) _) := ⟨((HS.out).pick 2 rfl).pick 2 rfl⟩
       exact ⟨j + 1, ⟨_, _, ys ++ ([(UInt8.ofNat ((97 : Int) + (dn13 : Int)).toNat)]), ⟨by rw [← hz, hy]; simp only [List.length_cons, List.length_nil]; omega, by rw [← hz]; simp only [List.length_cons, List.length_nil]; omega, by omega⟩, HF.less _ ⟨rfl, rfl, rfl, rfl, rfl, rfl, rfl, (by show some (Value.int .i64 _) = some (Value.int .i64 _); exact congrArg (fun z => some (Value.int .i64 z)) (by omega)), trivial⟩, (HS.out.erase 2)⟩, (by omega)⟩
      ·clear HF; have HF := HF1; clear HF1
       have dcc6 := of_decide_eq_false cc6
       refine wc_false HF rfl ?_
       refine wp_exit ?_
       refine ex_then_exit ?_
       refine ex_then_exit ?_
       refine ex_block_hit ?_
       refine ex_block ?_
       refine ex_block ?_
       refine ex_then ?_
       replace HS : Bx (St w0 (rdA rb ab n cb (B + 2 + 2 * k + 1 + 1) :: rowA encB 1 5 (.slice ao2 ys.length cp2) ys :: F) _) := ⟨((HS.out).pick 0 rfl).pick 1 rfl⟩
       replace HS := Bx.mk (HS.out.rdLe (B' := B + 2 + 2 * (ys.length)) (by omega)).swap
       replace HS : Bx (St w0 (rowA encB 1 5 (.slice ao2 ys.length cp2) ys :: rdA rb ab n cb (B + 2 + 2 * (ys.length)) :: F) _) := ⟨HS.out⟩
       replace HS := Bx.mk (HS.out)
       exact ⟨ys.length, ⟨_, _, ys, ⟨rfl, by omega⟩, HF.less _ ⟨rfl, rfl, rfl, rfl, rfl, rfl, trivial⟩, HS.out⟩, (by omega)⟩
     ·clear HF; have HF := HF1; clear HF1
      have dcc5 := of_decide_eq_false cc5
      refine wl_skip HF rfl rfl rfl rfl rfl rfl ?_; clear HF a; intro a HF
      refine wl_skip HF rfl rfl rfl rfl rfl rfl ?_; clear HF a; intro a HF
      refine wl_skip HF rfl rfl rfl rfl rfl rfl ?_; clear HF a; intro a HF
      refine wl_skip HF rfl rfl rfl rfl rfl rfl ?_; clear HF a; intro a HF
      refine wl_y rfl HF rfl rfl (yl_pick_f rfl (HF.ev rfl) (HF.ev rfl)) ?_; clear HF a; intro a HF
      refine wl_ne ?_
      refine wc_false HF rfl ?_
      refine wp_exit ?_
      refine ex_then_exit ?_
      refine ex_then_exit ?_
      refine ex_block_hit ?_
      refine ex_block ?_
      refine ex_block ?_
      refine ex_then ?_
      replace HS : Bx (St w0 (rdA rb ab n cb (B + 2 + 2 * k + 1 + 1) :: rowA encB 1 5 (.slice ao2 ys.length cp2) ys :: F) _) := ⟨((HS.out).pick 0 rfl).pick 1 rfl⟩
      replace HS := Bx.mk (HS.out.rdLe (B' := B + 2 + 2 * (ys.length)) (by omega)).swap
      replace HS : Bx (St w0 (rowA encB 1 5 (.slice ao2 ys.length cp2) ys :: rdA rb ab n cb (B + 2 + 2 * (ys.length)) :: F) _) := ⟨HS.out⟩
      replace HS := Bx.mk (HS.out)
      exact ⟨ys.length, ⟨_, _, ys, ⟨rfl, by omega⟩, HF.less _ ⟨rfl, rfl, rfl, rfl, rfl, rfl, trivial⟩, HS.out⟩, (by omega)⟩
    ·clear HF; have HF := HF1; clear HF1
     have dcc4 := ne_of_beq_false cc4
     refine wc_false HF rfl ?_
     refine wp_region_lit ?_
     refine wl_mv HF rfl rfl rfl rfl rfl ?_; clear HF a; intro a HF
     refine wl_mv HF rfl rfl rfl rfl rfl ?_; clear HF a; intro a HF
     replace HS : Bx (St w0 (rdA rb ab n cb (B + 2 + 2 * k) :: rowA encB 1 5 (.slice ao xs.length cp) xs :: F) _) := ⟨(HS.out).pick 1 rfl⟩
     refine wl_call rfl HF rfl (enter_of Try.func110 (by kernel_rfl) rfl) (args := #[.pointer (some ⟨rb, 0, none⟩), .int .i64 2]) rfl (pickN w0 _ rb ab n cb bs hn hR (B + 2 + 2 * k) (by omega) 2 (by omega) _ HS.out) rfl rfl ?_
     rintro _ w18 ⟨dn18, rfl, hu18, hs1⟩
     refine ⟨_, rfl, ?_⟩; replace HS := Bx.mk hs1; clear hs1 HF; clear a; intro a HF
     replace HS : Bx (St w0 (rdA rb ab n cb (B + 2 + 2 * k + 1) :: rowA encB 1 5 (.slice ao xs.length cp) xs :: F) _) := ⟨HS.out⟩
     refine wl_y rfl HF rfl rfl (yl_mulI rfl (HF.ev rfl) (HF.ev rfl) (i64w (by omega))) ?_; clear HF a; intro a HF
     refine wl_y rfl HF rfl rfl (yl_toU8 (b := UInt8.ofNat ((dn18 : Int) * 97).toNat) rfl (HF.ev rfl) (by omega) rfl (by kernel_rfl) (by kernel_rfl)) ?_; clear HF a; intro a HF
     refine wl_buildS (enc := encB) (e := 5) (size := 1) rfl HF rfl rfl rfl (ps := [(0, .int .u8 ((UInt8.ofNat ((dn18 : Int) * 97).toNat).toNat : Int))]) rfl (cells := [.int .u8 ((UInt8.ofNat ((dn18 : Int) * 97).toNat).toNat : Int)]) (by kernel_rfl) [(UInt8.ofNat ((dn18 : Int) * 97).toNat)] rfl rfl (by unfold maxLen; omega) rfl HS.out ?_; clear HF HS a; intro b19 a w19 HF HS; replace HS := Bx.mk HS
     refine wl_appL rfl HF rfl rfl rfl (HF.ev rfl) (HF.ev rfl) elemB encB_len HS.out 2 (xs := xs) rfl (ys := [(UInt8.ofNat ((dn18 : Int) * 97).toNat)]) (St.rdN HS.out encB_len 0 rfl) (cells_one_B _) (by unfold maxLen; simp only [List.length_cons, List.length_nil]; omega) (by simp only [List.length_cons, List.length_nil]; omega) ?_; clear HF HS a; intro ao20 cp21 w20 a HF HS; replace HS := Bx.mk HS
     replace HS : Bx (St w0 (rowA encB 1 5 (.slice (some ⟨b19, 0, none⟩) 1 1) ([(UInt8.ofNat ((dn18 : Int) * 97).toNat)]) :: rdA rb ab n cb (B + 2 + 2 * k + 1) :: rowA encB 1 5 (.slice ao20 (xs.length + ([(UInt8.ofNat ((dn18 : Int) * 97).toNat)]).length) cp21) (xs ++ ([(UInt8.ofNat ((dn18 : Int) * 97).toNat)])) :: F) _) := ⟨HS.out⟩
     refine wl_as HF rfl rfl rfl rfl rfl ?_; clear HF a; intro a HF
     refine wpList_nil ?_
     refine ex_block ?_
     refine ex_block ?_
     refine ex_then ?_
     have hz : xs.length + ([(UInt8.ofNat ((dn18 : Int) * 97).toNat)]).length = (xs ++ ([(UInt8.ofNat ((dn18 : Int) * 97).toNat)])).length := (List.length_append ..).symm
     rw [hz] at HS HF
     replace HS : Bx (St w0 (rdA rb ab n cb (B + 2 + 2 * k + 1) :: rowA encB 1 5 (.slice ao20 ((xs ++ ([(UInt8.ofNat ((dn18 : Int) * 97).toNat)])).length) cp21) (xs ++ ([(UInt8.ofNat ((dn18 : Int) * 97).toNat)])) :: rowA encB 1 5 (.slice (some ⟨b19, 0, none⟩) 1 1) ([(UInt8.ofNat ((dn18 : Int) * 97).toNat)]) :: F) _) := ⟨((HS.out).pick 2 rfl).pick 2 rfl⟩
     replace HS := Bx.mk (HS.out.rdLe (B' := B + 2 + 2 * (k + 1)) (by omega)).swap
     replace HS : Bx (St w0 (rowA encB 1 5 (.slice ao20 ((xs ++ ([(UInt8.ofNat ((dn18 : Int) * 97).toNat)])).length) cp21) (xs ++ ([(UInt8.ofNat ((dn18 : Int) * 97).toNat)])) :: rdA rb ab n cb (B + 2 + 2 * (k + 1)) :: rowA encB 1 5 (.slice (some ⟨b19, 0, none⟩) 1 1) ([(UInt8.ofNat ((dn18 : Int) * 97).toNat)]) :: F) _) := ⟨HS.out⟩
     replace HS := Bx.mk ((HS.out.erase 2))
     exact ⟨k + 1, ⟨_, _, xs ++ ([(UInt8.ofNat ((dn18 : Int) * 97).toNat)]), ⟨by simp [hxl], by omega⟩, HF.less _ ⟨rfl, rfl, rfl, rfl, rfl, rfl, trivial⟩, HS.out⟩, (by omega)⟩
 ·clear HF; have HF := HF1; clear HF1
  have dcc1 := of_decide_eq_false cc1
  refine wc_false HF rfl ?_
  refine wp_exit ?_
  refine ex_then_exit ?_
  refine ex_then_exit ?_
  refine ex_block_hit ?_
  refine ex_then ?_
  refine wp_sr ?_
  refine wl_mv HF rfl rfl rfl rfl rfl ?_; clear HF a; intro a HF
  refine wl_y rfl HF rfl rfl (yl_convBS (e1 := 5) rfl (HF.ev rfl) (by kernel_rfl) (by kernel_rfl) (by kernel_rfl) (xs := xs) (St.rdOf HS.out encB_len 0 rfl)) ?_; clear HF a; intro a HF
  refine wl_as HF rfl rfl rfl rfl rfl ?_; clear HF a; intro a HF
  refine wl_ne ?_
  refine wp_ret ?_
  refine bp_ret1 HF Try.results111 (HF.res rfl) ?_
  replace HS : Bx (St w0 (rdA rb ab n cb (B + 2 + 2 * k) :: rowA encB 1 5 (.slice ao xs.length cp) xs :: F) _) := ⟨(HS.out).pick 1 rfl⟩
  exact ⟨_, rfl, by show xs.toArray.size ≤ m; rw [List.size_toArray]; omega, ((HS.out.rdLe (B' := B + (2 + 2 * m)) (by omega)).erase 1)⟩

theorem l91Block_any (w0 w : World) (rb : Nat) (ab : Option Addr) (n cb : Nat) (bs : List UInt8) (hn : n ≤ 2000) (hR : Rd encB 1 w0 ab n bs) (B : Nat) (hB : B ≤ 800000) (F : List Asr) (hS : St w0 (rdA rb ab n cb B :: F) w) : Calls Try.prog 43 #[.pointer (some ⟨rb, 0, none⟩)] w fun e w' => ∃ t : ByteArray, e = .returned (.string t) ∧ t.size ≤ 200 ∧ St w0 (rdA rb ab n cb (B + 60) :: F) w' := by
 have HS := Bx.mk hS; clear hS
 refine wc_enter Try.func43 rfl Try.ntmps43 [(0, .pointer (some ⟨rb, 0, none⟩))] ⟨rfl, trivial⟩ rfl ?_; intro a HF
 refine wp_sr ?_
 refine wl_as HF rfl rfl rfl rfl rfl ?_; clear HF a; intro a HF
 refine wl_ne ?_
 refine wp_seq ?_
 refine wp_sr ?_
 refine wl_mv HF rfl rfl rfl rfl rfl ?_; clear HF a; intro a HF
 replace HS : Bx (St w0 (rdA rb ab n cb B :: F) _) := ⟨(HS.out).pick 0 rfl⟩
 refine wl_call rfl HF rfl (enter_of Try.func110 (by kernel_rfl) rfl) (args := #[.pointer (some ⟨rb, 0, none⟩), .int .i64 30]) rfl (pickN w0 _ rb ab n cb bs hn hR B (by omega) 30 (by omega) _ HS.out) rfl rfl ?_
 rintro _ w1 ⟨dn1, rfl, hu1, hs1⟩
 refine ⟨_, rfl, ?_⟩; replace HS := Bx.mk hs1; clear hs1 HF; clear a; intro a HF
 replace HS : Bx (St w0 (rdA rb ab n cb (B + 1) :: F) _) := ⟨HS.out⟩
 refine wl_ne ?_
 refine wp_block ?_
 refine wp_sr ?_
 refine wl_y rfl HF rfl rfl (yl_eqlI rfl (HF.ev rfl) (HF.ev rfl)) ?_; clear HF a; intro a HF
 refine wl_as HF rfl rfl rfl rfl rfl ?_; clear HF a; intro a HF
 refine wl_ne ?_
 refine HF.cases 6 rfl (fun cc1 HF1 => ?_) (fun cc1 HF1 => ?_)
 ·clear HF; have HF := HF1; clear HF1
  have dcc1 := eq_of_beq cc1
  refine wc_true HF rfl ?_
  refine wp_sr ?_
  refine wl_as HF rfl rfl rfl rfl rfl ?_; clear HF a; intro a HF
  refine wl_ne ?_
  refine wp_ret ?_
  refine ex_block_ret ?_
  refine ex_then_ret ?_
  refine bp_ret1 HF Try.results43 (HF.res rfl) ?_
  replace HS : Bx (St w0 (rdA rb ab n cb (B + 1) :: F) _) := ⟨(HS.out).pick 0 rfl⟩
  exact ⟨_, rfl, by decide, (HS.out.rdLe (B' := B + 60) (by omega))⟩
 ·clear HF; have HF := HF1; clear HF1
  have dcc1 := ne_of_beq_false cc1
  refine wc_false HF rfl ?_
  refine wp_sr ?_
  refine wl_y rfl HF rfl rfl (yl_eqlI rfl (HF.ev rfl) (HF.ev rfl)) ?_; clear HF a; intro a HF
  refine wl_as HF rfl rfl rfl rfl rfl ?_; clear HF a; intro a HF
  refine wl_ne ?_
  refine HF.cases 8 rfl (fun cc2 HF1 => ?_) (fun cc2 HF1 => ?_)
  ·clear HF; have HF := HF1; clear HF1
   have dcc2 := eq_of_beq cc2
   refine wc_true HF rfl ?_
   refine wp_sr ?_
   refine wl_mv HF rfl rfl rfl rfl rfl ?_; clear HF a; intro a HF
   replace HS : Bx (St w0 (rdA rb ab n cb (B + 1) :: F) _) := ⟨(HS.out).pick 0 rfl⟩
   refine wl_call rfl HF rfl (enter_of Try.func110 (by kernel_rfl) rfl) (args := #[.pointer (some ⟨rb, 0, none⟩), .int .i64 2]) rfl (pickN w0 _ rb ab n cb bs hn hR (B + 1) (by omega) 2 (by omega) _ HS.out) rfl rfl ?_
   rintro _ w2 ⟨dn2, rfl, hu2, hs1⟩
   refine ⟨_, rfl, ?_⟩; replace HS := Bx.mk hs1; clear hs1 HF; clear a; intro a HF
   replace HS : Bx (St w0 (rdA rb ab n cb (B + 1 + 1) :: F) _) := ⟨HS.out⟩
   refine wl_y rfl HF rfl rfl (yl_addI rfl (HF.ev rfl) (HF.ev rfl) (i64w (by omega))) ?_; clear HF a; intro a HF
   refine wl_callB rfl HF rfl (enter_of Try.func117 (by kernel_rfl) rfl) (args := #[.string (⟨#[120]⟩ : ByteArray), .int .i64 ((128 : Int) + (dn2 : Int))]) rfl (v := .string (manyB (⟨#[120]⟩ : ByteArray) (128 + dn2))) ((l6Many_any (⟨#[120]⟩ : ByteArray) (128 + dn2) _ (by omega) (by show _ * 1 ≤ _; omega) (by decide))) rfl rfl HS.out ?_; clear HF HS a; intro w3 a HS HF; replace HS := Bx.mk HS
   refine wl_as HF rfl rfl rfl rfl rfl ?_; clear HF a; intro a HF
   refine wl_ne ?_
   refine wp_ret ?_
   refine ex_block_ret ?_
   refine ex_then_ret ?_
   refine bp_ret1 HF Try.results43 (HF.res rfl) ?_
   replace HS : Bx (St w0 (rdA rb ab n cb (B + 1 + 1) :: F) _) := ⟨(HS.out).pick 0 rfl⟩
   exact ⟨_, rfl, by rw [manyB_size]; show _ * 1 ≤ _; omega, (HS.out.rdLe (B' := B + 60) (by omega))⟩
  ·clear HF; have HF := HF1; clear HF1
   have dcc2 := ne_of_beq_false cc2
   refine wc_false HF rfl ?_
   refine wp_skip ?_
   refine ex_block ?_
   refine ex_then ?_
   refine wp_sr ?_
   refine wl_mv HF rfl rfl rfl rfl rfl ?_; clear HF a; intro a HF
   replace HS : Bx (St w0 (rdA rb ab n cb (B + 1) :: F) _) := ⟨(HS.out).pick 0 rfl⟩
   refine wl_call rfl HF rfl (enter_of Try.func111 (by kernel_rfl) rfl) (args := #[.pointer (some ⟨rb, 0, none⟩), .int .i64 24]) rfl (l91Text_any w0 _ rb ab n cb bs hn hR (B + 1) (by omega) 24 (by omega) _ HS.out) rfl rfl ?_
   rintro _ w4 ⟨dt3, rfl, ht3, hs1⟩
   refine ⟨_, rfl, ?_⟩; replace HS := Bx.mk hs1; clear hs1 HF; clear a; intro a HF
   replace HS : Bx (St w0 (rdA rb ab n cb (B + 1 + (2 + 2 * 24)) :: F) _) := ⟨HS.out⟩
   refine wl_as HF rfl rfl rfl rfl rfl ?_; clear HF a; intro a HF
   refine wl_ne ?_
   refine wp_seq ?_
   refine wp_sr ?_
   refine wl_mv HF rfl rfl rfl rfl rfl ?_; clear HF a; intro a HF
   refine wl_y rfl HF rfl rfl (yl_eqlS rfl (HF.ev rfl) (HF.ev rfl)) ?_; clear HF a; intro a HF
   refine wl_ne ?_
   refine HF.cases 17 rfl (fun cc3 HF1 => ?_) (fun cc3 HF1 => ?_)
   ·clear HF; have HF := HF1; clear HF1
    refine wc_true HF rfl ?_
    refine wp_sr ?_
    refine wl_as HF rfl rfl rfl rfl rfl ?_; clear HF a; intro a HF
    refine wl_ne ?_
    refine wp_ret ?_
    refine ex_then_ret ?_
    refine bp_ret1 HF Try.results43 (HF.res rfl) ?_
    replace HS : Bx (St w0 (rdA rb ab n cb (B + 1 + (2 + 2 * 24)) :: F) _) := ⟨(HS.out).pick 0 rfl⟩
    exact ⟨_, rfl, by decide, (HS.out.rdLe (B' := B + 60) (by omega))⟩
   ·clear HF; have HF := HF1; clear HF1
    refine wc_false HF rfl ?_
    refine wp_skip ?_
    refine ex_then ?_
    refine wp_sr ?_
    refine wl_mv HF rfl rfl rfl rfl rfl ?_; clear HF a; intro a HF
    refine wl_as HF rfl rfl rfl rfl rfl ?_; clear HF a; intro a HF
    refine wl_ne ?_
    refine wp_ret ?_
    refine bp_ret1 HF Try.results43 (HF.res rfl) ?_
    replace HS : Bx (St w0 (rdA rb ab n cb (B + 1 + (2 + 2 * 24)) :: F) _) := ⟨(HS.out).pick 0 rfl⟩
    exact ⟨_, rfl, by omega, (HS.out.rdLe (B' := B + 60) (by omega))⟩

theorem l6Open_any (w0 : World) (ab : Option Addr) (n cb : Nat) (hcap : n ≤ cb) (hn : n ≤ 1048576) : Calls Try.prog 40 #[.slice ab n cb] w0 fun e w' => ∃ (rb n' : Nat), e = .returned (.pointer (some ⟨rb, 0, none⟩)) ∧ n' ≤ 2000 ∧ n' ≤ n ∧ St w0 [rdA rb ab n' cb 0] w' := by
 have HS := Bx.mk (St.start w0)
 refine wc_enter Try.func40 rfl Try.ntmps40 [(0, .slice ab n cb)] ⟨rfl, trivial⟩ rfl ?_; intro a HF
 refine wp_sr ?_
 refine wl_as HF rfl rfl rfl rfl rfl ?_; clear HF a; intro a HF
 refine wl_ne ?_
 refine wp_seq ?_
 refine wp_sr ?_
 refine wl_mv HF rfl rfl rfl rfl rfl ?_; clear HF a; intro a HF
 refine wl_y rfl HF rfl rfl (yl_lenL (e := 5) (size := 1) rfl (HF.ev rfl) (by kernel_rfl)) ?_; clear HF a; intro a HF
 refine wl_y rfl HF rfl rfl (yl_gtrI rfl (HF.ev rfl) (HF.ev rfl)) ?_; clear HF a; intro a HF
 refine wl_ne ?_
 refine HF.cases 5 rfl (fun cc1 HF1 => ?_) (fun cc1 HF1 => ?_)
 ·clear HF; have HF := HF1; clear HF1
  have dcc1 := of_decide_eq_true cc1
  refine wc_true HF rfl ?_
  refine wp_region_lit ?_
  refine wl_mv HF rfl rfl rfl rfl rfl ?_; clear HF a; intro a HF
  refine wl_y rfl HF rfl rfl (yl_sliceHi (e := 5) (size := 1) (k := 2000) rfl (HF.ev rfl) (HF.ev rfl) (by kernel_rfl) (by omega) (by omega)) ?_; clear HF a; intro a HF
  refine wl_as HF rfl rfl rfl rfl rfl ?_; clear HF a; intro a HF
  refine wl_ne ?_
  refine wp_sr ?_
  refine wl_mv HF rfl rfl rfl rfl rfl ?_; clear HF a; intro a HF
  refine wl_y rfl HF rfl rfl (yl_build HF rfl (ps := [(0, .slice ab 2000 cb)]) rfl (cs := #[.slice ab 2000 cb, .int .i64 0]) (by kernel_rfl)) ?_; clear HF a; intro a HF
  refine wl_box rfl HF rfl (HF.ev rfl) (Z := [.slice ab 2000 cb, .int .i64 0]) rfl rfl rfl rfl HS.out ?_; clear HF HS a; intro a w1 b1 HF HS; replace HS := Bx.mk HS
  refine wl_as HF rfl rfl rfl rfl rfl ?_; clear HF a; intro a HF
  refine wl_ne ?_
  refine wp_ret ?_
  refine bp_ret1 HF Try.results40 (HF.res rfl) ?_
  exact ⟨_, 2000, rfl, by omega, by omega, St.rdMk (p := 0) (by omega) HS.out⟩
 ·clear HF; have HF := HF1; clear HF1
  have dcc1 := of_decide_eq_false cc1
  refine wc_false HF rfl ?_
  refine wp_skip ?_
  refine ex_then ?_
  refine wp_sr ?_
  refine wl_mv HF rfl rfl rfl rfl rfl ?_; clear HF a; intro a HF
  refine wl_y rfl HF rfl rfl (yl_build HF rfl (ps := [(0, .slice ab n cb)]) rfl (cs := #[.slice ab n cb, .int .i64 0]) (by kernel_rfl)) ?_; clear HF a; intro a HF
  refine wl_box rfl HF rfl (HF.ev rfl) (Z := [.slice ab n cb, .int .i64 0]) rfl rfl rfl rfl HS.out ?_; clear HF HS a; intro a w2 b2 HF HS; replace HS := Bx.mk HS
  refine wl_as HF rfl rfl rfl rfl rfl ?_; clear HF a; intro a HF
  refine wl_ne ?_
  refine wp_ret ?_
  refine bp_ret1 HF Try.results40 (HF.res rfl) ?_
  exact ⟨_, n, rfl, by omega, by omega, St.rdMk (p := 0) (by omega) HS.out⟩

end Go.Proofs.Ytfijfjjleelphaa
