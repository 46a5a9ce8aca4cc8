/- The cache, walked: CacheOk of both, clone, CachePlay of the program. -/
import Derived.Test.YtkgmilobmbeplaaCaD
import Derived.Test.YtkgmilobmbeplaaStepM
import Derived.Test.YtkgmilobmbeplaaOk
import Derived.Test.YtkgmilobmbeplaaCacheSl
namespace Go.Proofs.Ytkgmilobmbeplaa
open Go.RowKit

set_option maxHeartbeats 1000000 in
set_option maxRecDepth 100000 in
theorem l5InI_any (ao : Option Addr) (m cap : Nat) (xs : List Int) (n : Int) (w0 : World) (hl : xs.length ≤ 9223372036854775806) (hr : Rd encI 1 w0 ao m xs) : Calls Try.prog 103 #[.slice ao m cap, .int .i64 n] w0 fun e w' => e = .returned (.bool (inI xs n)) ∧ Below w0.heap.size w0 w' := by
  obtain rfl : m = xs.length := hr.1.symm
  obtain ⟨g0, o0, r0⟩ := hr.opn
  have R0 := Bx.mk r0
  clear r0
  have HS := Bx.mk (St.start w0)
  refine wc_enter Try.func103 rfl Try.ntmps103 [(0, .slice ao xs.length cap), (1, .int .i64 n)] ⟨rfl, rfl, trivial⟩ rfl ?_; intro a HF
  refine wp_seq ?_
  refine wp_region_lit ?_
  refine wl_y rfl HF rfl rfl (yl_assign rfl (HF.ev rfl)) ?_; clear HF; clear a; intro a HF
  refine wpList_nil ?_
  refine ex_then ?_
  refine wp_seq ?_
  refine wp_seq ?_
  refine wp_region_lit ?_
  refine wl_y rfl HF rfl rfl (yl_assign rfl (HF.ev rfl)) ?_; clear HF; clear a; intro a HF
  refine wpList_nil ?_
  refine ex_then ?_
  refine wp_block ?_
  refine wc_loop (ι := Nat) (fun k a w => (k ≤ xs.length ∧ inI (xs.take k) n = false) ∧ Fr 18 a [(0, .slice ao xs.length cap), (1, .int .i64 n), (5, .int .i64 (k : Int))] ∧ St w0 ([]) w) (fun k => xs.length - k) 0 ⟨⟨Nat.zero_le _, rfl⟩, HF.less _ ⟨rfl, rfl, rfl, trivial⟩, HS.out⟩ ?_
  clear HF HS; clear a
  rintro k a w1 ⟨⟨hk, hf⟩, HF, HS⟩
  replace HS := Bx.mk HS
  refine wp_seq ?_
  refine wp_seq ?_
  refine wp_region_lit ?_
  refine wl_y rfl HF rfl rfl (yl_move rfl (HF.ev rfl)) ?_; clear HF; clear a; intro a HF
  refine wl_y rfl HF rfl rfl (yl_move rfl (HF.ev rfl)) ?_; clear HF; clear a; intro a HF
  refine wl_y rfl HF rfl rfl (yl_lenL (e := 3) (size := 1) rfl (HF.ev rfl) (by kernel_rfl)) ?_; clear HF; clear a; intro a HF
  refine wl_y rfl HF rfl rfl (yl_lssI rfl (HF.ev rfl) (HF.ev rfl)) ?_; clear HF; clear a; intro a HF
  refine wpList_nil ?_
  refine ex_then ?_
  refine HF.cases 9 rfl (fun cc1 HF1 => ?_) (fun cc1 HF1 => ?_)
  · clear HF; have HF := HF1; clear HF1
    have cc1 := of_decide_eq_true cc1
    refine wc_true HF rfl ?_
    refine wp_skip ?_
    refine ex_then ?_
    refine wp_seq ?_
    refine wp_block ?_
    refine wp_seq ?_
    refine wp_region_lit ?_
    refine wl_y rfl HF rfl rfl (yl_move rfl (HF.ev rfl)) ?_; clear HF; clear a; intro a HF
    refine wl_y rfl HF rfl rfl (yl_move rfl (HF.ev rfl)) ?_; clear HF; clear a; intro a HF
    refine wl_y rfl HF rfl rfl (yl_indexAddrR (e := 3) (i := k) (size := 1) rfl (HF.ev rfl) (HF.ev rfl) (by kernel_rfl) rfl (by omega) (R0.out.ao k (by omega))) ?_; clear HF; clear a; intro a HF
    refine wl_y rfl HF rfl rfl (yl_load (v := .int .i64 (xs.getD k 0)) rfl (HF.ev rfl) (R0.out.elem1 HS.out (get_getD (xs := xs) (j := k) (d := 0) (by omega)) rfl) (by kernel_rfl)) ?_; clear HF; clear a; intro a HF
    refine wl_y rfl HF rfl rfl (yl_move rfl (HF.ev rfl)) ?_; clear HF; clear a; intro a HF
    refine wl_y rfl HF rfl rfl (yl_eqlI rfl (HF.ev rfl) (HF.ev rfl)) ?_; clear HF; clear a; intro a HF
    refine wpList_nil ?_
    refine ex_then ?_
    refine HF.cases 17 rfl (fun cc2 HF1 => ?_) (fun cc2 HF1 => ?_)
    · clear HF; have HF := HF1; clear HF1
      refine wc_true HF rfl ?_
      refine wp_seq ?_
      refine wp_region_lit ?_
      refine wl_y rfl HF rfl rfl (yl_assign rfl (HF.ev rfl)) ?_; clear HF; clear a; intro a HF
      refine wpList_nil ?_
      refine ex_then ?_
      refine wp_ret ?_
      refine ex_block_ret ?_
      refine ex_then_ret ?_
      refine ex_then_ret ?_
      refine ex_block_ret ?_
      refine ex_then_ret ?_
      refine bp_ret1 HF Try.results103 (HF.res rfl) ?_
      exact ⟨by rw [inI_here (by omega) cc2], HS.out.bel⟩
    · clear HF; have HF := HF1; clear HF1
      refine wc_false HF rfl ?_
      refine wp_skip ?_
      refine ex_block ?_
      refine ex_then ?_
      refine wp_region_lit ?_
      refine wl_y rfl HF rfl rfl (yl_move rfl (HF.ev rfl)) ?_; clear HF; clear a; intro a HF
      refine wl_y rfl HF rfl rfl (yl_addI rfl (HF.ev rfl) (HF.ev rfl) (i64w (by omega))) ?_; clear HF; clear a; intro a HF
      refine wl_y rfl HF rfl rfl (yl_assign rfl (HF.ev rfl)) ?_; clear HF; clear a; intro a HF
      refine wpList_nil ?_
      refine ex_then ?_
      exact ⟨k + 1, ⟨⟨by omega, inI_step (by omega) cc2 hf⟩, HF.less _ ⟨rfl, rfl, rfl, trivial⟩, HS.out⟩, (by omega)⟩
  · clear HF; have HF := HF1; clear HF1
    have cc1 := of_decide_eq_false cc1
    refine wc_false HF rfl ?_
    refine wp_exit ?_
    refine ex_then_exit ?_
    refine ex_then_exit ?_
    refine ex_block_hit ?_
    refine ex_then ?_
    refine wp_seq ?_
    refine wp_region_lit ?_
    refine wl_y rfl HF rfl rfl (yl_assign rfl (HF.ev rfl)) ?_; clear HF; clear a; intro a HF
    refine wpList_nil ?_
    refine ex_then ?_
    refine wp_ret ?_
    refine bp_ret1 HF Try.results103 (HF.res rfl) ?_
    exact ⟨by rw [inI_end (by omega) hf], HS.out.bel⟩

set_option maxHeartbeats 1000000 in
set_option maxRecDepth 100000 in
theorem implCacheOk_any (v : Value) (c : CacheD) (w0 : World) (hr : CacheD.Reads w0 v c) (hf : c.Fit) : Calls Try.prog 61 #[v] w0 fun e w' => e = .returned (.bool c.ok) ∧ Below w0.heap.size w0 w' := by
  obtain ⟨a2, c2, a3, c3, a4, c4, a5, c5, rfl, r2, r3, r4, r5⟩ := hr
  have hf2 := hf.f2; have hf3 := hf.f3; have hf4 := hf.f4; have hf5 := hf.f5
  have hal := all_len c
  have R2 := Bx.mk r2; clear r2
  have R3 := Bx.mk r3; clear r3
  have R4 := Bx.mk r4; clear r4
  have R5 := Bx.mk r5; clear r5
  have HS := Bx.mk (St.start w0)
  refine wc_enter Try.func61 rfl Try.ntmps61 [(0, .agg #[.int .i64 c.fRoom, .int .i64 c.fGoal, .slice a2 c.fOnce.length c2, .slice a3 c.fOften.length c3, .slice a4 c.fPast.length c4, .slice a5 c.fFormer.length c5])] ⟨rfl, trivial⟩ rfl ?_; intro a HF
  refine wp_seq ?_
  refine wp_region_lit ?_
  refine wl_box rfl HF rfl (HF.ev rfl) (Z := [.int .i64 c.fRoom, .int .i64 c.fGoal, .slice a2 c.fOnce.length c2, .slice a3 c.fOften.length c3, .slice a4 c.fPast.length c4, .slice a5 c.fFormer.length c5]) rfl rfl rfl rfl HS.out ?_; clear HF HS; clear a; intro a w1 b1 HF HS; replace HS := Bx.mk HS
  refine wl_y rfl HF rfl rfl (yl_assign rfl (HF.ev rfl)) ?_; clear HF; clear a; intro a HF
  refine wpList_nil ?_
  refine ex_then ?_
  refine wp_seq ?_
  refine wp_region_lit ?_
  refine wl_y rfl HF rfl rfl (yl_fieldAddr (j := 2) rfl (HF.ev rfl) (by kernel_rfl)) ?_; clear HF; clear a; intro a HF
  refine wl_y rfl HF rfl rfl (yl_load (v := .slice a2 c.fOnce.length c2) rfl (HF.ev rfl) (((HS.out.box 0 rfl).cell 2).trans rfl) (by kernel_rfl)) ?_; clear HF; clear a; intro a HF
  refine wl_y rfl HF rfl rfl (yl_fieldAddr (j := 3) rfl (HF.ev rfl) (by kernel_rfl)) ?_; clear HF; clear a; intro a HF
  refine wl_y rfl HF rfl rfl (yl_load (v := .slice a3 c.fOften.length c3) rfl (HF.ev rfl) (((HS.out.box 0 rfl).cell 3).trans rfl) (by kernel_rfl)) ?_; clear HF; clear a; intro a HF
  refine wl_y rfl HF rfl rfl (yl_fieldAddr (j := 4) rfl (HF.ev rfl) (by kernel_rfl)) ?_; clear HF; clear a; intro a HF
  refine wl_y rfl HF rfl rfl (yl_load (v := .slice a4 c.fPast.length c4) rfl (HF.ev rfl) (((HS.out.box 0 rfl).cell 4).trans rfl) (by kernel_rfl)) ?_; clear HF; clear a; intro a HF
  refine wl_y rfl HF rfl rfl (yl_fieldAddr (j := 5) rfl (HF.ev rfl) (by kernel_rfl)) ?_; clear HF; clear a; intro a HF
  refine wl_y rfl HF rfl rfl (yl_load (v := .slice a5 c.fFormer.length c5) rfl (HF.ev rfl) (((HS.out.box 0 rfl).cell 5).trans rfl) (by kernel_rfl)) ?_; clear HF; clear a; intro a HF
  refine wl_buildS (enc := encP) (e := 44) (size := 1) rfl HF rfl rfl rfl (ps := [(0, .slice a2 c.fOnce.length c2), (1, .slice a3 c.fOften.length c3), (2, .slice a4 c.fPast.length c4), (3, .slice a5 c.fFormer.length c5)]) rfl (cells := [.slice a2 c.fOnce.length c2, .slice a3 c.fOften.length c3, .slice a4 c.fPast.length c4, .slice a5 c.fFormer.length c5]) (by kernel_rfl) [(a2, c2, c.fOnce), (a3, c3, c.fOften), (a4, c4, c.fPast), (a5, c5, c.fFormer)] rfl rfl (by unfold maxLen; omega) rfl HS.out ?_; clear HF HS; clear a; intro b2 a w2 HF HS; replace HS := Bx.mk HS
  replace HS : Bx (St w0 ([rowA encP 1 44 (.slice (some ⟨b2, 0, none⟩) 4 4) ([(a2, c2, c.fOnce), (a3, c3, c.fOften), (a4, c4, c.fPast), (a5, c5, c.fFormer)]), boxA b1 6 48 (.agg #[.int .i64 c.fRoom, .int .i64 c.fGoal, .slice a2 c.fOnce.length c2, .slice a3 c.fOften.length c3, .slice a4 c.fPast.length c4, .slice a5 c.fFormer.length c5])]) _) := ⟨(HS.out).pick 0 rfl⟩
  have hcat : catL [(a2, c2, c.fOnce), (a3, c3, c.fOften), (a4, c4, c.fPast), (a5, c5, c.fFormer)] = c.all := by simp [catL, CacheD.all]
  refine wl_call rfl HF rfl (enter_of Try.func107 (by kernel_rfl) rfl) (args := #[.slice (some ⟨b2, 0, none⟩) 4 4]) rfl (concat_any w0 _ _ [(a2, c2, c.fOnce), (a3, c3, c.fOften), (a4, c4, c.fPast), (a5, c5, c.fFormer)] _ (by simp) (by rw [hcat, all_len]; omega) (by intro p hp; simp only [List.mem_cons, List.not_mem_nil, or_false] at hp; rcases hp with rfl | rfl | rfl | rfl <;> first | exact R2.out | exact R3.out | exact R4.out | exact R5.out) HS.out) rfl rfl ?_
  rintro _ w3 ⟨ao, cp, rfl, hs1⟩
  rw [hcat] at hs1; refine ⟨.slice ao c.all.length cp, by rw [hcat], ?_⟩; replace HS := Bx.mk hs1; clear hs1 HF hcat; clear a; intro a HF
  replace HS : Bx (St w0 ([rowA encI 1 3 (.slice ao c.all.length cp) c.all, boxA b1 6 48 (.agg #[.int .i64 c.fRoom, .int .i64 c.fGoal, .slice a2 c.fOnce.length c2, .slice a3 c.fOften.length c3, .slice a4 c.fPast.length c4, .slice a5 c.fFormer.length c5])]) _) := ⟨HS.out⟩
  refine wl_y rfl HF rfl rfl (yl_assign rfl (HF.ev rfl)) ?_; clear HF; clear a; intro a HF
  refine wpList_nil ?_
  refine ex_then ?_
  refine wp_seq ?_
  refine wp_seq ?_
  refine wp_region_lit ?_
  refine wl_y rfl HF rfl rfl (yl_fieldAddr (j := 0) rfl (HF.ev rfl) (by kernel_rfl)) ?_; clear HF; clear a; intro a HF
  refine wl_y rfl HF rfl rfl (yl_load (v := .int .i64 c.fRoom) rfl (HF.ev rfl) (((HS.out.box 1 rfl).cell 0).trans rfl) (by kernel_rfl)) ?_; clear HF; clear a; intro a HF
  refine wl_callB rfl HF rfl (enter_of Try.func47 (by kernel_rfl) rfl) (args := #[.int .i64 c.fRoom, .int .i64 1, .int .i64 8]) rfl (v := .bool (inB c.fRoom 1 8)) (((within_any c.fRoom 1 8 _).mono fun _ _ h => ⟨h.1, h.2 ▸ Below.refl _ _⟩)) rfl rfl HS.out ?_; clear HF HS; clear a; intro w4 a HS HF; replace HS := Bx.mk HS
  refine wl_y rfl HF rfl rfl (yl_not rfl (HF.ev rfl)) ?_; clear HF; clear a; intro a HF
  refine wl_y rfl HF rfl rfl (yl_move rfl (HF.ev rfl)) ?_; clear HF; clear a; intro a HF
  refine HF.cases 20 rfl (fun cc1 HF1 => ?_) (fun cc1 HF1 => ?_)
  · clear HF; have HF := HF1; clear HF1
    have q1 : inB c.fRoom 1 8 = false := by simpa using cc1
    have q1b := trivial
    refine wl_skip HF rfl rfl rfl rfl rfl rfl ?_; clear HF; clear a; intro a HF
    refine wl_skip HF rfl rfl rfl rfl rfl rfl ?_; clear HF; clear a; intro a HF
    refine wl_skip HF rfl rfl rfl rfl rfl rfl ?_; clear HF; clear a; intro a HF
    refine wl_skip HF rfl rfl rfl rfl rfl rfl ?_; clear HF; clear a; intro a HF
    refine wl_skip HF rfl rfl rfl rfl rfl rfl ?_; clear HF; clear a; intro a HF
    refine wl_skip HF rfl rfl rfl rfl rfl rfl ?_; clear HF; clear a; intro a HF
    refine wl_y rfl HF rfl rfl (yl_pick_t rfl (HF.ev rfl) (HF.ev rfl)) ?_; clear HF; clear a; intro a HF
    refine wl_y rfl HF rfl rfl (yl_move rfl (HF.ev rfl)) ?_; clear HF; clear a; intro a HF
    refine wl_skip HF rfl rfl rfl rfl rfl rfl ?_; clear HF; clear a; intro a HF
    refine wl_skip HF rfl rfl rfl rfl rfl rfl ?_; clear HF; clear a; intro a HF
    refine wl_skip HF rfl rfl rfl rfl rfl rfl ?_; clear HF; clear a; intro a HF
    refine wl_skip HF rfl rfl rfl rfl rfl rfl ?_; clear HF; clear a; intro a HF
    refine wl_skip HF rfl rfl rfl rfl rfl rfl ?_; clear HF; clear a; intro a HF
    refine wl_skip HF rfl rfl rfl rfl rfl rfl ?_; clear HF; clear a; intro a HF
    refine wl_skip HF rfl rfl rfl rfl rfl rfl ?_; clear HF; clear a; intro a HF
    refine wl_skip HF rfl rfl rfl rfl rfl rfl ?_; clear HF; clear a; intro a HF
    refine wl_skip HF rfl rfl rfl rfl rfl rfl ?_; clear HF; clear a; intro a HF
    refine wl_skip HF rfl rfl rfl rfl rfl rfl ?_; clear HF; clear a; intro a HF
    refine wl_y rfl HF rfl rfl (yl_pick_t rfl (HF.ev rfl) (HF.ev rfl)) ?_; clear HF; clear a; intro a HF
    refine wl_y rfl HF rfl rfl (yl_move rfl (HF.ev rfl)) ?_; clear HF; clear a; intro a HF
    refine wl_skip HF rfl rfl rfl rfl rfl rfl ?_; clear HF; clear a; intro a HF
    refine wl_skip HF rfl rfl rfl rfl rfl rfl ?_; clear HF; clear a; intro a HF
    refine wl_skip HF rfl rfl rfl rfl rfl rfl ?_; clear HF; clear a; intro a HF
    refine wl_skip HF rfl rfl rfl rfl rfl rfl ?_; clear HF; clear a; intro a HF
    refine wl_skip HF rfl rfl rfl rfl rfl rfl ?_; clear HF; clear a; intro a HF
    refine wl_skip HF rfl rfl rfl rfl rfl rfl ?_; clear HF; clear a; intro a HF
    refine wl_skip HF rfl rfl rfl rfl rfl rfl ?_; clear HF; clear a; intro a HF
    refine wl_skip HF rfl rfl rfl rfl rfl rfl ?_; clear HF; clear a; intro a HF
    refine wl_skip HF rfl rfl rfl rfl rfl rfl ?_; clear HF; clear a; intro a HF
    refine wl_skip HF rfl rfl rfl rfl rfl rfl ?_; clear HF; clear a; intro a HF
    refine wl_y rfl HF rfl rfl (yl_pick_t rfl (HF.ev rfl) (HF.ev rfl)) ?_; clear HF; clear a; intro a HF
    refine wl_y rfl HF rfl rfl (yl_move rfl (HF.ev rfl)) ?_; clear HF; clear a; intro a HF
    refine wl_skip HF rfl rfl rfl rfl rfl rfl ?_; clear HF; clear a; intro a HF
    refine wl_skip HF rfl rfl rfl rfl rfl rfl ?_; clear HF; clear a; intro a HF
    refine wl_skip HF rfl rfl rfl rfl rfl rfl ?_; clear HF; clear a; intro a HF
    refine wl_skip HF rfl rfl rfl rfl rfl rfl ?_; clear HF; clear a; intro a HF
    refine wl_skip HF rfl rfl rfl rfl rfl rfl ?_; clear HF; clear a; intro a HF
    refine wl_skip HF rfl rfl rfl rfl rfl rfl ?_; clear HF; clear a; intro a HF
    refine wl_y rfl HF rfl rfl (yl_pick_t rfl (HF.ev rfl) (HF.ev rfl)) ?_; clear HF; clear a; intro a HF
    refine wpList_nil ?_
    refine ex_then ?_
    refine wc_true HF rfl ?_
    refine wp_seq ?_
    refine wp_region_lit ?_
    refine wl_y rfl HF rfl rfl (yl_assign rfl (HF.ev rfl)) ?_; clear HF; clear a; intro a HF
    refine wpList_nil ?_
    refine ex_then ?_
    refine wp_ret ?_
    refine ex_then_ret ?_
    refine bp_ret1 HF Try.results61 (HF.res rfl) ?_
    have hok : c.ok = false := by unfold CacheD.ok; rw [q1]; rfl
    exact ⟨by rw [hok], HS.out.bel⟩
  · clear HF; have HF := HF1; clear HF1
    have q1 : inB c.fRoom 1 8 = true := by simpa using cc1
    have q1b := inB_true q1
    refine wl_yg HF rfl rfl rfl rfl rfl (yl_fieldAddr (j := 1) rfl (HF.ev rfl) (by kernel_rfl)) ?_; clear HF; clear a; intro a HF
    refine wl_yg HF rfl rfl rfl rfl rfl (yl_load (v := .int .i64 c.fGoal) rfl (HF.ev rfl) (((HS.out.box 1 rfl).cell 1).trans rfl) (by kernel_rfl)) ?_; clear HF; clear a; intro a HF
    refine wl_yg HF rfl rfl rfl rfl rfl (yl_fieldAddr (j := 0) rfl (HF.ev rfl) (by kernel_rfl)) ?_; clear HF; clear a; intro a HF
    refine wl_yg HF rfl rfl rfl rfl rfl (yl_load (v := .int .i64 c.fRoom) rfl (HF.ev rfl) (((HS.out.box 1 rfl).cell 0).trans rfl) (by kernel_rfl)) ?_; clear HF; clear a; intro a HF
    refine wl_callBg HF rfl rfl rfl rfl (enter_of Try.func47 (by kernel_rfl) rfl) (args := #[.int .i64 c.fGoal, .int .i64 0, .int .i64 c.fRoom]) rfl (v := .bool (inB c.fGoal 0 c.fRoom)) (((within_any c.fGoal 0 c.fRoom _).mono fun _ _ h => ⟨h.1, h.2 ▸ Below.refl _ _⟩)) rfl rfl HS.out ?_; clear HF HS; clear a; intro w5 a HS HF; replace HS := Bx.mk HS
    refine wl_yg HF rfl rfl rfl rfl rfl (yl_not rfl (HF.ev rfl)) ?_; clear HF; clear a; intro a HF
    refine wl_y rfl HF rfl rfl (yl_pick_f rfl (HF.ev rfl) (HF.ev rfl)) ?_; clear HF; clear a; intro a HF
    refine wl_y rfl HF rfl rfl (yl_move rfl (HF.ev rfl)) ?_; clear HF; clear a; intro a HF
    refine HF.cases 28 rfl (fun cc2 HF1 => ?_) (fun cc2 HF1 => ?_)
    · clear HF; have HF := HF1; clear HF1
      have q2 : inB c.fGoal 0 c.fRoom = false := by simpa using cc2
      refine wl_skip HF rfl rfl rfl rfl rfl rfl ?_; clear HF; clear a; intro a HF
      refine wl_skip HF rfl rfl rfl rfl rfl rfl ?_; clear HF; clear a; intro a HF
      refine wl_skip HF rfl rfl rfl rfl rfl rfl ?_; clear HF; clear a; intro a HF
      refine wl_skip HF rfl rfl rfl rfl rfl rfl ?_; clear HF; clear a; intro a HF
      refine wl_skip HF rfl rfl rfl rfl rfl rfl ?_; clear HF; clear a; intro a HF
      refine wl_skip HF rfl rfl rfl rfl rfl rfl ?_; clear HF; clear a; intro a HF
      refine wl_skip HF rfl rfl rfl rfl rfl rfl ?_; clear HF; clear a; intro a HF
      refine wl_skip HF rfl rfl rfl rfl rfl rfl ?_; clear HF; clear a; intro a HF
      refine wl_skip HF rfl rfl rfl rfl rfl rfl ?_; clear HF; clear a; intro a HF
      refine wl_skip HF rfl rfl rfl rfl rfl rfl ?_; clear HF; clear a; intro a HF
      refine wl_y rfl HF rfl rfl (yl_pick_t rfl (HF.ev rfl) (HF.ev rfl)) ?_; clear HF; clear a; intro a HF
      refine wl_y rfl HF rfl rfl (yl_move rfl (HF.ev rfl)) ?_; clear HF; clear a; intro a HF
      refine wl_skip HF rfl rfl rfl rfl rfl rfl ?_; clear HF; clear a; intro a HF
      refine wl_skip HF rfl rfl rfl rfl rfl rfl ?_; clear HF; clear a; intro a HF
      refine wl_skip HF rfl rfl rfl rfl rfl rfl ?_; clear HF; clear a; intro a HF
      refine wl_skip HF rfl rfl rfl rfl rfl rfl ?_; clear HF; clear a; intro a HF
      refine wl_skip HF rfl rfl rfl rfl rfl rfl ?_; clear HF; clear a; intro a HF
      refine wl_skip HF rfl rfl rfl rfl rfl rfl ?_; clear HF; clear a; intro a HF
      refine wl_skip HF rfl rfl rfl rfl rfl rfl ?_; clear HF; clear a; intro a HF
      refine wl_skip HF rfl rfl rfl rfl rfl rfl ?_; clear HF; clear a; intro a HF
      refine wl_skip HF rfl rfl rfl rfl rfl rfl ?_; clear HF; clear a; intro a HF
      refine wl_skip HF rfl rfl rfl rfl rfl rfl ?_; clear HF; clear a; intro a HF
      refine wl_y rfl HF rfl rfl (yl_pick_t rfl (HF.ev rfl) (HF.ev rfl)) ?_; clear HF; clear a; intro a HF
      refine wl_y rfl HF rfl rfl (yl_move rfl (HF.ev rfl)) ?_; clear HF; clear a; intro a HF
      refine wl_skip HF rfl rfl rfl rfl rfl rfl ?_; clear HF; clear a; intro a HF
      refine wl_skip HF rfl rfl rfl rfl rfl rfl ?_; clear HF; clear a; intro a HF
      refine wl_skip HF rfl rfl rfl rfl rfl rfl ?_; clear HF; clear a; intro a HF
      refine wl_skip HF rfl rfl rfl rfl rfl rfl ?_; clear HF; clear a; intro a HF
      refine wl_skip HF rfl rfl rfl rfl rfl rfl ?_; clear HF; clear a; intro a HF
      refine wl_skip HF rfl rfl rfl rfl rfl rfl ?_; clear HF; clear a; intro a HF
      refine wl_y rfl HF rfl rfl (yl_pick_t rfl (HF.ev rfl) (HF.ev rfl)) ?_; clear HF; clear a; intro a HF
      refine wpList_nil ?_
      refine ex_then ?_
      refine wc_true HF rfl ?_
      refine wp_seq ?_
      refine wp_region_lit ?_
      refine wl_y rfl HF rfl rfl (yl_assign rfl (HF.ev rfl)) ?_; clear HF; clear a; intro a HF
      refine wpList_nil ?_
      refine ex_then ?_
      refine wp_ret ?_
      refine ex_then_ret ?_
      refine bp_ret1 HF Try.results61 (HF.res rfl) ?_
      have hok : c.ok = false := by unfold CacheD.ok; rw [q1, q2]; rfl
      exact ⟨by rw [hok], HS.out.bel⟩
    · clear HF; have HF := HF1; clear HF1
      have q2 : inB c.fGoal 0 c.fRoom = true := by simpa using cc2
      refine wl_yg HF rfl rfl rfl rfl rfl (yl_fieldAddr (j := 2) rfl (HF.ev rfl) (by kernel_rfl)) ?_; clear HF; clear a; intro a HF
      refine wl_yg HF rfl rfl rfl rfl rfl (yl_load (v := .slice a2 c.fOnce.length c2) rfl (HF.ev rfl) (((HS.out.box 1 rfl).cell 2).trans rfl) (by kernel_rfl)) ?_; clear HF; clear a; intro a HF
      refine wl_yg HF rfl rfl rfl rfl rfl (yl_lenL (e := 3) (size := 1) rfl (HF.ev rfl) (by kernel_rfl)) ?_; clear HF; clear a; intro a HF
      refine wl_yg HF rfl rfl rfl rfl rfl (yl_fieldAddr (j := 3) rfl (HF.ev rfl) (by kernel_rfl)) ?_; clear HF; clear a; intro a HF
      refine wl_yg HF rfl rfl rfl rfl rfl (yl_load (v := .slice a3 c.fOften.length c3) rfl (HF.ev rfl) (((HS.out.box 1 rfl).cell 3).trans rfl) (by kernel_rfl)) ?_; clear HF; clear a; intro a HF
      refine wl_yg HF rfl rfl rfl rfl rfl (yl_lenL (e := 3) (size := 1) rfl (HF.ev rfl) (by kernel_rfl)) ?_; clear HF; clear a; intro a HF
      refine wl_yg HF rfl rfl rfl rfl rfl (yl_addI rfl (HF.ev rfl) (HF.ev rfl) (i64w (by omega))) ?_; clear HF; clear a; intro a HF
      refine wl_yg HF rfl rfl rfl rfl rfl (yl_fieldAddr (j := 0) rfl (HF.ev rfl) (by kernel_rfl)) ?_; clear HF; clear a; intro a HF
      refine wl_yg HF rfl rfl rfl rfl rfl (yl_load (v := .int .i64 c.fRoom) rfl (HF.ev rfl) (((HS.out.box 1 rfl).cell 0).trans rfl) (by kernel_rfl)) ?_; clear HF; clear a; intro a HF
      refine wl_yg HF rfl rfl rfl rfl rfl (yl_gtrI rfl (HF.ev rfl) (HF.ev rfl)) ?_; clear HF; clear a; intro a HF
      refine wl_y rfl HF rfl rfl (yl_pick_f rfl (HF.ev rfl) (HF.ev rfl)) ?_; clear HF; clear a; intro a HF
      refine wl_y rfl HF rfl rfl (yl_move rfl (HF.ev rfl)) ?_; clear HF; clear a; intro a HF
      refine HF.cases 40 rfl (fun cc3 HF1 => ?_) (fun cc3 HF1 => ?_)
      · clear HF; have HF := HF1; clear HF1
        have q3 : decide ((c.fOnce.length : Int) + c.fOften.length ≤ c.fRoom) = false := decide_eq_false (by have := of_decide_eq_true cc3; omega)
        refine wl_skip HF rfl rfl rfl rfl rfl rfl ?_; clear HF; clear a; intro a HF
        refine wl_skip HF rfl rfl rfl rfl rfl rfl ?_; clear HF; clear a; intro a HF
        refine wl_skip HF rfl rfl rfl rfl rfl rfl ?_; clear HF; clear a; intro a HF
        refine wl_skip HF rfl rfl rfl rfl rfl rfl ?_; clear HF; clear a; intro a HF
        refine wl_skip HF rfl rfl rfl rfl rfl rfl ?_; clear HF; clear a; intro a HF
        refine wl_skip HF rfl rfl rfl rfl rfl rfl ?_; clear HF; clear a; intro a HF
        refine wl_skip HF rfl rfl rfl rfl rfl rfl ?_; clear HF; clear a; intro a HF
        refine wl_skip HF rfl rfl rfl rfl rfl rfl ?_; clear HF; clear a; intro a HF
        refine wl_skip HF rfl rfl rfl rfl rfl rfl ?_; clear HF; clear a; intro a HF
        refine wl_skip HF rfl rfl rfl rfl rfl rfl ?_; clear HF; clear a; intro a HF
        refine wl_y rfl HF rfl rfl (yl_pick_t rfl (HF.ev rfl) (HF.ev rfl)) ?_; clear HF; clear a; intro a HF
        refine wl_y rfl HF rfl rfl (yl_move rfl (HF.ev rfl)) ?_; clear HF; clear a; intro a HF
        refine wl_skip HF rfl rfl rfl rfl rfl rfl ?_; clear HF; clear a; intro a HF
        refine wl_skip HF rfl rfl rfl rfl rfl rfl ?_; clear HF; clear a; intro a HF
        refine wl_skip HF rfl rfl rfl rfl rfl rfl ?_; clear HF; clear a; intro a HF
        refine wl_skip HF rfl rfl rfl rfl rfl rfl ?_; clear HF; clear a; intro a HF
        refine wl_skip HF rfl rfl rfl rfl rfl rfl ?_; clear HF; clear a; intro a HF
        refine wl_skip HF rfl rfl rfl rfl rfl rfl ?_; clear HF; clear a; intro a HF
        refine wl_y rfl HF rfl rfl (yl_pick_t rfl (HF.ev rfl) (HF.ev rfl)) ?_; clear HF; clear a; intro a HF
        refine wpList_nil ?_
        refine ex_then ?_
        refine wc_true HF rfl ?_
        refine wp_seq ?_
        refine wp_region_lit ?_
        refine wl_y rfl HF rfl rfl (yl_assign rfl (HF.ev rfl)) ?_; clear HF; clear a; intro a HF
        refine wpList_nil ?_
        refine ex_then ?_
        refine wp_ret ?_
        refine ex_then_ret ?_
        refine bp_ret1 HF Try.results61 (HF.res rfl) ?_
        have hok : c.ok = false := by unfold CacheD.ok; rw [q1, q2, q3]; rfl
        exact ⟨by rw [hok], HS.out.bel⟩
      · clear HF; have HF := HF1; clear HF1
        have q3 : decide ((c.fOnce.length : Int) + c.fOften.length ≤ c.fRoom) = true := decide_eq_true (by have := of_decide_eq_false cc3; omega)
        refine wl_yg HF rfl rfl rfl rfl rfl (yl_fieldAddr (j := 2) rfl (HF.ev rfl) (by kernel_rfl)) ?_; clear HF; clear a; intro a HF
        refine wl_yg HF rfl rfl rfl rfl rfl (yl_load (v := .slice a2 c.fOnce.length c2) rfl (HF.ev rfl) (((HS.out.box 1 rfl).cell 2).trans rfl) (by kernel_rfl)) ?_; clear HF; clear a; intro a HF
        refine wl_yg HF rfl rfl rfl rfl rfl (yl_lenL (e := 3) (size := 1) rfl (HF.ev rfl) (by kernel_rfl)) ?_; clear HF; clear a; intro a HF
        refine wl_yg HF rfl rfl rfl rfl rfl (yl_fieldAddr (j := 4) rfl (HF.ev rfl) (by kernel_rfl)) ?_; clear HF; clear a; intro a HF
        refine wl_yg HF rfl rfl rfl rfl rfl (yl_load (v := .slice a4 c.fPast.length c4) rfl (HF.ev rfl) (((HS.out.box 1 rfl).cell 4).trans rfl) (by kernel_rfl)) ?_; clear HF; clear a; intro a HF
        refine wl_yg HF rfl rfl rfl rfl rfl (yl_lenL (e := 3) (size := 1) rfl (HF.ev rfl) (by kernel_rfl)) ?_; clear HF; clear a; intro a HF
        refine wl_yg HF rfl rfl rfl rfl rfl (yl_addI rfl (HF.ev rfl) (HF.ev rfl) (i64w (by omega))) ?_; clear HF; clear a; intro a HF
        refine wl_yg HF rfl rfl rfl rfl rfl (yl_fieldAddr (j := 0) rfl (HF.ev rfl) (by kernel_rfl)) ?_; clear HF; clear a; intro a HF
        refine wl_yg HF rfl rfl rfl rfl rfl (yl_load (v := .int .i64 c.fRoom) rfl (HF.ev rfl) (((HS.out.box 1 rfl).cell 0).trans rfl) (by kernel_rfl)) ?_; clear HF; clear a; intro a HF
        refine wl_yg HF rfl rfl rfl rfl rfl (yl_gtrI rfl (HF.ev rfl) (HF.ev rfl)) ?_; clear HF; clear a; intro a HF
        refine wl_y rfl HF rfl rfl (yl_pick_f rfl (HF.ev rfl) (HF.ev rfl)) ?_; clear HF; clear a; intro a HF
        refine wl_y rfl HF rfl rfl (yl_move rfl (HF.ev rfl)) ?_; clear HF; clear a; intro a HF
        refine HF.cases 52 rfl (fun cc4 HF1 => ?_) (fun cc4 HF1 => ?_)
        · clear HF; have HF := HF1; clear HF1
          have q4 : decide ((c.fOnce.length : Int) + c.fPast.length ≤ c.fRoom) = false := decide_eq_false (by have := of_decide_eq_true cc4; omega)
          refine wl_skip HF rfl rfl rfl rfl rfl rfl ?_; clear HF; clear a; intro a HF
          refine wl_skip HF rfl rfl rfl rfl rfl rfl ?_; clear HF; clear a; intro a HF
          refine wl_skip HF rfl rfl rfl rfl rfl rfl ?_; clear HF; clear a; intro a HF
          refine wl_skip HF rfl rfl rfl rfl rfl rfl ?_; clear HF; clear a; intro a HF
          refine wl_skip HF rfl rfl rfl rfl rfl rfl ?_; clear HF; clear a; intro a HF
          refine wl_skip HF rfl rfl rfl rfl rfl rfl ?_; clear HF; clear a; intro a HF
          refine wl_y rfl HF rfl rfl (yl_pick_t rfl (HF.ev rfl) (HF.ev rfl)) ?_; clear HF; clear a; intro a HF
          refine wpList_nil ?_
          refine ex_then ?_
          refine wc_true HF rfl ?_
          refine wp_seq ?_
          refine wp_region_lit ?_
          refine wl_y rfl HF rfl rfl (yl_assign rfl (HF.ev rfl)) ?_; clear HF; clear a; intro a HF
          refine wpList_nil ?_
          refine ex_then ?_
          refine wp_ret ?_
          refine ex_then_ret ?_
          refine bp_ret1 HF Try.results61 (HF.res rfl) ?_
          have hok : c.ok = false := by unfold CacheD.ok; rw [q1, q2, q3, q4]; rfl
          exact ⟨by rw [hok], HS.out.bel⟩
        · clear HF; have HF := HF1; clear HF1
          have q4 : decide ((c.fOnce.length : Int) + c.fPast.length ≤ c.fRoom) = true := decide_eq_true (by have := of_decide_eq_false cc4; omega)
          refine wl_yg HF rfl rfl rfl rfl rfl (yl_move rfl (HF.ev rfl)) ?_; clear HF; clear a; intro a HF
          refine wl_yg HF rfl rfl rfl rfl rfl (yl_lenL (e := 3) (size := 1) rfl (HF.ev rfl) (by kernel_rfl)) ?_; clear HF; clear a; intro a HF
          refine wl_yg HF rfl rfl rfl rfl rfl (yl_fieldAddr (j := 0) rfl (HF.ev rfl) (by kernel_rfl)) ?_; clear HF; clear a; intro a HF
          refine wl_yg HF rfl rfl rfl rfl rfl (yl_load (v := .int .i64 c.fRoom) rfl (HF.ev rfl) (((HS.out.box 1 rfl).cell 0).trans rfl) (by kernel_rfl)) ?_; clear HF; clear a; intro a HF
          refine wl_yg HF rfl rfl rfl rfl rfl (yl_mulI rfl (HF.ev rfl) (HF.ev rfl) (i64w (by omega))) ?_; clear HF; clear a; intro a HF
          refine wl_yg HF rfl rfl rfl rfl rfl (yl_gtrI rfl (HF.ev rfl) (HF.ev rfl)) ?_; clear HF; clear a; intro a HF
          refine wl_y rfl HF rfl rfl (yl_pick_f rfl (HF.ev rfl) (HF.ev rfl)) ?_; clear HF; clear a; intro a HF
          refine wpList_nil ?_
          refine ex_then ?_
          refine HF.cases 59 rfl (fun cc5 HF1 => ?_) (fun cc5 HF1 => ?_)
          · clear HF; have HF := HF1; clear HF1
            have q5 : decide ((c.all.length : Int) ≤ 2 * c.fRoom) = false := decide_eq_false (by have := of_decide_eq_true cc5; omega)
            refine wc_true HF rfl ?_
            refine wp_seq ?_
            refine wp_region_lit ?_
            refine wl_y rfl HF rfl rfl (yl_assign rfl (HF.ev rfl)) ?_; clear HF; clear a; intro a HF
            refine wpList_nil ?_
            refine ex_then ?_
            refine wp_ret ?_
            refine ex_then_ret ?_
            refine bp_ret1 HF Try.results61 (HF.res rfl) ?_
            have hok : c.ok = false := by unfold CacheD.ok; rw [q1, q2, q3, q4, q5]; rfl
            exact ⟨by rw [hok], HS.out.bel⟩
          · clear HF; have HF := HF1; clear HF1
            have q5 : decide ((c.all.length : Int) ≤ 2 * c.fRoom) = true := decide_eq_true (by have := of_decide_eq_false cc5; omega)
            refine wc_false HF rfl ?_
            refine wp_skip ?_
            refine ex_then ?_
            refine wp_seq ?_
            refine wp_seq ?_
            refine wp_region_lit ?_
            refine wl_y rfl HF rfl rfl (yl_move rfl (HF.ev rfl)) ?_; clear HF; clear a; intro a HF
            refine wl_y rfl HF rfl rfl (yl_lenL (e := 3) (size := 1) rfl (HF.ev rfl) (by kernel_rfl)) ?_; clear HF; clear a; intro a HF
            refine wl_y rfl HF rfl rfl (yl_move rfl (HF.ev rfl)) ?_; clear HF; clear a; intro a HF
            refine wpList_nil ?_
            refine ex_then ?_
            refine wp_block ?_
            refine wc_loop (ι := Nat) (fun k a w => (k ≤ c.all.length ∧ okTo c.all k = true) ∧ Fr 78 a [(1, .pointer (some ⟨b1, 0, none⟩)), (3, .slice ao c.all.length cp), (60, .slice ao c.all.length cp), (61, .int .i64 (c.all.length : Int)), (62, .int .i64 (k : Int))] ∧ St w0 ([rowA encI 1 3 (.slice ao c.all.length cp) c.all, boxA b1 6 48 (.agg #[.int .i64 c.fRoom, .int .i64 c.fGoal, .slice a2 c.fOnce.length c2, .slice a3 c.fOften.length c3, .slice a4 c.fPast.length c4, .slice a5 c.fFormer.length c5])]) w) (fun k => c.all.length - k) 0 ⟨⟨Nat.zero_le _, rfl⟩, HF.less _ ⟨rfl, rfl, rfl, rfl, rfl, trivial⟩, HS.out⟩ ?_
            clear HF HS; clear a
            rintro k a w6 ⟨⟨hk, hf⟩, HF, HS⟩
            replace HS := Bx.mk HS
            refine wp_seq ?_
            refine wp_region_lit ?_
            refine wl_y rfl HF rfl rfl (yl_lssI rfl (HF.ev rfl) (HF.ev rfl)) ?_; clear HF; clear a; intro a HF
            refine wpList_nil ?_
            refine ex_then ?_
            refine wp_seq ?_
            refine HF.cases 63 rfl (fun cc6 HF1 => ?_) (fun cc6 HF1 => ?_)
            · clear HF; have HF := HF1; clear HF1
              have cc6 := of_decide_eq_true cc6
              refine wc_true HF rfl ?_
              refine wp_skip ?_
              refine ex_then ?_
              refine wp_seq ?_
              refine wp_block ?_
              refine wp_seq ?_
              obtain ⟨g, rfl, _, _, _, _⟩ := HS.out.rowOpen 0 rfl (by omega)
              refine wp_region_lit ?_
              refine wl_y rfl HF rfl rfl (yl_move rfl (HF.ev rfl)) ?_; clear HF; clear a; intro a HF
              refine wl_y rfl HF rfl rfl (yl_indexAddr (e := 3) (i := k) (size := 1) rfl (HF.ev rfl) (HF.ev rfl) (by kernel_rfl) rfl (by omega)) ?_; clear HF; clear a; intro a HF
              refine wl_y rfl HF rfl rfl (yl_load (v := .int .i64 (c.all.getD k 0)) rfl (HF.ev rfl) (HS.out.elem1 encI_len 0 rfl (get_getD (xs := c.all) (j := k) (d := 0) (by omega)) rfl) (by kernel_rfl)) ?_; clear HF; clear a; intro a HF
              refine wl_y rfl HF rfl rfl (yl_assign rfl (HF.ev rfl)) ?_; clear HF; clear a; intro a HF
              refine wl_y rfl HF rfl rfl (yl_assign rfl (HF.ev rfl)) ?_; clear HF; clear a; intro a HF
              refine wpList_nil ?_
              refine ex_then ?_
              refine wp_seq ?_
              refine wp_region_lit ?_
              refine wl_y rfl HF rfl rfl (yl_move rfl (HF.ev rfl)) ?_; clear HF; clear a; intro a HF
              refine wl_callB rfl HF rfl (enter_of Try.func63 (by kernel_rfl) rfl) (args := #[.int .i64 (c.all.getD k 0)]) rfl (v := .bool (inB (c.all.getD k 0) 8 63)) (((isRow_any (c.all.getD k 0) _).mono fun _ _ h => ⟨h.1, h.2 ▸ Below.refl _ _⟩)) rfl rfl HS.out ?_; clear HF HS; clear a; intro w7 a HS HF; replace HS := Bx.mk HS
              refine wl_y rfl HF rfl rfl (yl_not rfl (HF.ev rfl)) ?_; clear HF; clear a; intro a HF
              refine wl_y rfl HF rfl rfl (yl_move rfl (HF.ev rfl)) ?_; clear HF; clear a; intro a HF
              refine HF.cases 70 rfl (fun cc7 HF1 => ?_) (fun cc7 HF1 => ?_)
              · clear HF; have HF := HF1; clear HF1
                have p1 : inB (c.all.getD k 0) 8 63 = false := by simpa using cc7
                refine wl_skip HF rfl rfl rfl rfl rfl rfl ?_; clear HF; clear a; intro a HF
                refine wl_skip HF rfl rfl rfl rfl rfl rfl ?_; clear HF; clear a; intro a HF
                refine wl_skip HF rfl rfl rfl rfl rfl rfl ?_; clear HF; clear a; intro a HF
                refine wl_skip HF rfl rfl rfl rfl rfl rfl ?_; clear HF; clear a; intro a HF
                refine wl_skip HF rfl rfl rfl rfl rfl rfl ?_; clear HF; clear a; intro a HF
                refine wl_y rfl HF rfl rfl (yl_pick_t rfl (HF.ev rfl) (HF.ev rfl)) ?_; clear HF; clear a; intro a HF
                refine wpList_nil ?_
                refine ex_then ?_
                refine wc_true HF rfl ?_
                refine wp_seq ?_
                refine wp_region_lit ?_
                refine wl_y rfl HF rfl rfl (yl_assign rfl (HF.ev rfl)) ?_; clear HF; clear a; intro a HF
                refine wpList_nil ?_
                refine ex_then ?_
                refine wp_ret ?_
                refine ex_block_ret ?_
                refine ex_then_ret ?_
                refine ex_then_ret ?_
                refine ex_block_ret ?_
                refine ex_then_ret ?_
                refine bp_ret1 HF Try.results61 (HF.res rfl) ?_
                have hk1 : okTo c.all (k + 1) = false := by unfold okTo; rw [hf, p1]; rfl
                have hko := okTo_false hk1 (show k + 1 ≤ c.all.length by omega)
                have hok : c.ok = false := by unfold CacheD.ok; rw [q1, q2, q3, q4, q5, hko]; first | rfl | simp
                exact ⟨by rw [hok], HS.out.bel⟩
              · clear HF; have HF := HF1; clear HF1
                have p1 : inB (c.all.getD k 0) 8 63 = true := by simpa using cc7
                refine wl_yg HF rfl rfl rfl rfl rfl (yl_move rfl (HF.ev rfl)) ?_; clear HF; clear a; intro a HF
                refine wl_yg HF rfl rfl rfl rfl rfl (yl_move rfl (HF.ev rfl)) ?_; clear HF; clear a; intro a HF
                refine wl_yg HF rfl rfl rfl rfl rfl (yl_sliceHi (e := 3) (size := 1) (k := k) rfl (HF.ev rfl) (HF.ev rfl) (by kernel_rfl) (by omega) (Nat.le_trans (by omega) (St.capLe HS.out 0 rfl))) ?_; clear HF; clear a; intro a HF
                refine wl_yg HF rfl rfl rfl rfl rfl (yl_move rfl (HF.ev rfl)) ?_; clear HF; clear a; intro a HF
                refine wl_callBg HF rfl rfl rfl rfl (enter_of Try.func108 (by kernel_rfl) rfl) (args := #[.slice (some ⟨g, 0, none⟩) k cp, .int .i64 (c.all.getD k 0)]) rfl (v := .bool (inI (c.all.take k) (c.all.getD k 0))) (containsI_any _ _ _ _ (c.all.take k) (c.all.getD k 0) (by first | omega | (simp; omega)) (Rd.take (St.rdOf HS.out encI_len 0 rfl) (k := k) (by omega))) rfl rfl HS.out ?_; clear HF HS; clear a; intro w8 a HS HF; replace HS := Bx.mk HS
                refine wl_y rfl HF rfl rfl (yl_pick_f rfl (HF.ev rfl) (HF.ev rfl)) ?_; clear HF; clear a; intro a HF
                refine wpList_nil ?_
                refine ex_then ?_
                refine HF.cases 76 rfl (fun cc8 HF1 => ?_) (fun cc8 HF1 => ?_)
                · clear HF; have HF := HF1; clear HF1
                  have p2 : inI (c.all.take k) (c.all.getD k 0) = true := cc8
                  refine wc_true HF rfl ?_
                  refine wp_seq ?_
                  refine wp_region_lit ?_
                  refine wl_y rfl HF rfl rfl (yl_assign rfl (HF.ev rfl)) ?_; clear HF; clear a; intro a HF
                  refine wpList_nil ?_
                  refine ex_then ?_
                  refine wp_ret ?_
                  refine ex_block_ret ?_
                  refine ex_then_ret ?_
                  refine ex_then_ret ?_
                  refine ex_block_ret ?_
                  refine ex_then_ret ?_
                  refine bp_ret1 HF Try.results61 (HF.res rfl) ?_
                  have hk1 : okTo c.all (k + 1) = false := by unfold okTo; rw [hf, p1, p2]; rfl
                  have hko := okTo_false hk1 (show k + 1 ≤ c.all.length by omega)
                  have hok : c.ok = false := by unfold CacheD.ok; rw [q1, q2, q3, q4, q5, hko]; first | rfl | simp
                  exact ⟨by rw [hok], HS.out.bel⟩
                · clear HF; have HF := HF1; clear HF1
                  have p2 : inI (c.all.take k) (c.all.getD k 0) = false := cc8
                  refine wc_false HF rfl ?_
                  refine wp_skip ?_
                  refine ex_block ?_
                  refine ex_then ?_
                  refine wp_region_lit ?_
                  refine wl_y rfl HF rfl rfl (yl_addI rfl (HF.ev rfl) (HF.ev rfl) (i64w (by omega))) ?_; clear HF; clear a; intro a HF
                  refine wl_y rfl HF rfl rfl (yl_move rfl (HF.ev rfl)) ?_; clear HF; clear a; intro a HF
                  refine wpList_nil ?_
                  refine ex_then ?_
                  exact ⟨k + 1, ⟨⟨by omega, by unfold okTo; rw [hf, p1, p2]; rfl⟩, HF.less _ ⟨rfl, rfl, rfl, rfl, rfl, trivial⟩, HS.out⟩, (by omega)⟩
            · clear HF; have HF := HF1; clear HF1
              have cc6 := of_decide_eq_false cc6
              refine wc_false HF rfl ?_
              refine wp_exit ?_
              refine ex_then_exit ?_
              refine ex_then_exit ?_
              refine ex_block_hit ?_
              refine ex_then ?_
              refine wp_seq ?_
              refine wp_region_lit ?_
              refine wl_y rfl HF rfl rfl (yl_assign rfl (HF.ev rfl)) ?_; clear HF; clear a; intro a HF
              refine wpList_nil ?_
              refine ex_then ?_
              refine wp_ret ?_
              refine bp_ret1 HF Try.results61 (HF.res rfl) ?_
              have hkl : k = c.all.length := by omega
              rw [hkl] at hf
              have hok : c.ok = true := by unfold CacheD.ok; rw [q1, q2, q3, q4, q5, hf]; rfl
              exact ⟨by rw [hok], HS.out.bel⟩

set_option maxHeartbeats 1000000 in
set_option maxRecDepth 100000 in
theorem specCacheOk_any (v : Value) (c : CacheD) (w0 : World) (hr : CacheD.Reads w0 v c) (hf : c.Fit) : Calls Try.prog 57 #[v] w0 fun e w' => e = .returned (.bool c.ok) ∧ Below w0.heap.size w0 w' := by
  obtain ⟨a2, c2, a3, c3, a4, c4, a5, c5, rfl, r2, r3, r4, r5⟩ := hr
  have hf2 := hf.f2; have hf3 := hf.f3; have hf4 := hf.f4; have hf5 := hf.f5
  have hal := all_len c
  have R2 := Bx.mk r2; clear r2
  have R3 := Bx.mk r3; clear r3
  have R4 := Bx.mk r4; clear r4
  have R5 := Bx.mk r5; clear r5
  have HS := Bx.mk (St.start w0)
  refine wc_enter Try.func57 rfl Try.ntmps57 [(0, .agg #[.int .i64 c.fRoom, .int .i64 c.fGoal, .slice a2 c.fOnce.length c2, .slice a3 c.fOften.length c3, .slice a4 c.fPast.length c4, .slice a5 c.fFormer.length c5])] ⟨rfl, trivial⟩ rfl ?_; intro a HF
  refine wp_seq ?_
  refine wp_region_lit ?_
  refine wl_box rfl HF rfl (HF.ev rfl) (Z := [.int .i64 c.fRoom, .int .i64 c.fGoal, .slice a2 c.fOnce.length c2, .slice a3 c.fOften.length c3, .slice a4 c.fPast.length c4, .slice a5 c.fFormer.length c5]) rfl rfl rfl rfl HS.out ?_; clear HF HS; clear a; intro a w1 b1 HF HS; replace HS := Bx.mk HS
  refine wl_y rfl HF rfl rfl (yl_assign rfl (HF.ev rfl)) ?_; clear HF; clear a; intro a HF
  refine wpList_nil ?_
  refine ex_then ?_
  refine wp_seq ?_
  refine wp_seq ?_
  refine wp_region_lit ?_
  refine wl_y rfl HF rfl rfl (yl_fieldAddr (j := 0) rfl (HF.ev rfl) (by kernel_rfl)) ?_; clear HF; clear a; intro a HF
  refine wl_y rfl HF rfl rfl (yl_load (v := .int .i64 c.fRoom) rfl (HF.ev rfl) (((HS.out.box 0 rfl).cell 0).trans rfl) (by kernel_rfl)) ?_; clear HF; clear a; intro a HF
  refine wl_callB rfl HF rfl (enter_of Try.func45 (by kernel_rfl) rfl) (args := #[.int .i64 c.fRoom, .int .i64 1, .int .i64 8]) rfl (v := .bool (inB c.fRoom 1 8)) (((l6In_any c.fRoom 1 8 _).mono fun _ _ h => ⟨h.1, h.2 ▸ Below.refl _ _⟩)) rfl rfl HS.out ?_; clear HF HS; clear a; intro w2 a HS HF; replace HS := Bx.mk HS
  refine wl_y rfl HF rfl rfl (yl_not rfl (HF.ev rfl)) ?_; clear HF; clear a; intro a HF
  refine wl_y rfl HF rfl rfl (yl_move rfl (HF.ev rfl)) ?_; clear HF; clear a; intro a HF
  refine HF.cases 9 rfl (fun cc1 HF1 => ?_) (fun cc1 HF1 => ?_)
  · clear HF; have HF := HF1; clear HF1
    have q1 : inB c.fRoom 1 8 = false := by simpa using cc1
    have q1b := trivial
    refine wl_skip HF rfl rfl rfl rfl rfl rfl ?_; clear HF; clear a; intro a HF
    refine wl_skip HF rfl rfl rfl rfl rfl rfl ?_; clear HF; clear a; intro a HF
    refine wl_skip HF rfl rfl rfl rfl rfl rfl ?_; clear HF; clear a; intro a HF
    refine wl_skip HF rfl rfl rfl rfl rfl rfl ?_; clear HF; clear a; intro a HF
    refine wl_skip HF rfl rfl rfl rfl rfl rfl ?_; clear HF; clear a; intro a HF
    refine wl_skip HF rfl rfl rfl rfl rfl rfl ?_; clear HF; clear a; intro a HF
    refine wl_y rfl HF rfl rfl (yl_pick_t rfl (HF.ev rfl) (HF.ev rfl)) ?_; clear HF; clear a; intro a HF
    refine wl_y rfl HF rfl rfl (yl_move rfl (HF.ev rfl)) ?_; clear HF; clear a; intro a HF
    refine wl_skip HF rfl rfl rfl rfl rfl rfl ?_; clear HF; clear a; intro a HF
    refine wl_skip HF rfl rfl rfl rfl rfl rfl ?_; clear HF; clear a; intro a HF
    refine wl_skip HF rfl rfl rfl rfl rfl rfl ?_; clear HF; clear a; intro a HF
    refine wl_skip HF rfl rfl rfl rfl rfl rfl ?_; clear HF; clear a; intro a HF
    refine wl_skip HF rfl rfl rfl rfl rfl rfl ?_; clear HF; clear a; intro a HF
    refine wl_skip HF rfl rfl rfl rfl rfl rfl ?_; clear HF; clear a; intro a HF
    refine wl_skip HF rfl rfl rfl rfl rfl rfl ?_; clear HF; clear a; intro a HF
    refine wl_skip HF rfl rfl rfl rfl rfl rfl ?_; clear HF; clear a; intro a HF
    refine wl_skip HF rfl rfl rfl rfl rfl rfl ?_; clear HF; clear a; intro a HF
    refine wl_skip HF rfl rfl rfl rfl rfl rfl ?_; clear HF; clear a; intro a HF
    refine wl_y rfl HF rfl rfl (yl_pick_t rfl (HF.ev rfl) (HF.ev rfl)) ?_; clear HF; clear a; intro a HF
    refine wl_y rfl HF rfl rfl (yl_move rfl (HF.ev rfl)) ?_; clear HF; clear a; intro a HF
    refine wl_skip HF rfl rfl rfl rfl rfl rfl ?_; clear HF; clear a; intro a HF
    refine wl_skip HF rfl rfl rfl rfl rfl rfl ?_; clear HF; clear a; intro a HF
    refine wl_skip HF rfl rfl rfl rfl rfl rfl ?_; clear HF; clear a; intro a HF
    refine wl_skip HF rfl rfl rfl rfl rfl rfl ?_; clear HF; clear a; intro a HF
    refine wl_skip HF rfl rfl rfl rfl rfl rfl ?_; clear HF; clear a; intro a HF
    refine wl_skip HF rfl rfl rfl rfl rfl rfl ?_; clear HF; clear a; intro a HF
    refine wl_skip HF rfl rfl rfl rfl rfl rfl ?_; clear HF; clear a; intro a HF
    refine wl_skip HF rfl rfl rfl rfl rfl rfl ?_; clear HF; clear a; intro a HF
    refine wl_skip HF rfl rfl rfl rfl rfl rfl ?_; clear HF; clear a; intro a HF
    refine wl_skip HF rfl rfl rfl rfl rfl rfl ?_; clear HF; clear a; intro a HF
    refine wl_y rfl HF rfl rfl (yl_pick_t rfl (HF.ev rfl) (HF.ev rfl)) ?_; clear HF; clear a; intro a HF
    refine wpList_nil ?_
    refine ex_then ?_
    refine wc_true HF rfl ?_
    refine wp_seq ?_
    refine wp_region_lit ?_
    refine wl_y rfl HF rfl rfl (yl_assign rfl (HF.ev rfl)) ?_; clear HF; clear a; intro a HF
    refine wpList_nil ?_
    refine ex_then ?_
    refine wp_ret ?_
    refine ex_then_ret ?_
    refine bp_ret1 HF Try.results57 (HF.res rfl) ?_
    have hok : c.ok = false := by unfold CacheD.ok; rw [q1]; rfl
    exact ⟨by rw [hok], HS.out.bel⟩
  · clear HF; have HF := HF1; clear HF1
    have q1 : inB c.fRoom 1 8 = true := by simpa using cc1
    have q1b := inB_true q1
    refine wl_yg HF rfl rfl rfl rfl rfl (yl_fieldAddr (j := 1) rfl (HF.ev rfl) (by kernel_rfl)) ?_; clear HF; clear a; intro a HF
    refine wl_yg HF rfl rfl rfl rfl rfl (yl_load (v := .int .i64 c.fGoal) rfl (HF.ev rfl) (((HS.out.box 0 rfl).cell 1).trans rfl) (by kernel_rfl)) ?_; clear HF; clear a; intro a HF
    refine wl_yg HF rfl rfl rfl rfl rfl (yl_fieldAddr (j := 0) rfl (HF.ev rfl) (by kernel_rfl)) ?_; clear HF; clear a; intro a HF
    refine wl_yg HF rfl rfl rfl rfl rfl (yl_load (v := .int .i64 c.fRoom) rfl (HF.ev rfl) (((HS.out.box 0 rfl).cell 0).trans rfl) (by kernel_rfl)) ?_; clear HF; clear a; intro a HF
    refine wl_callBg HF rfl rfl rfl rfl (enter_of Try.func45 (by kernel_rfl) rfl) (args := #[.int .i64 c.fGoal, .int .i64 0, .int .i64 c.fRoom]) rfl (v := .bool (inB c.fGoal 0 c.fRoom)) (((l6In_any c.fGoal 0 c.fRoom _).mono fun _ _ h => ⟨h.1, h.2 ▸ Below.refl _ _⟩)) rfl rfl HS.out ?_; clear HF HS; clear a; intro w3 a HS HF; replace HS := Bx.mk HS
    refine wl_yg HF rfl rfl rfl rfl rfl (yl_not rfl (HF.ev rfl)) ?_; clear HF; clear a; intro a HF
    refine wl_y rfl HF rfl rfl (yl_pick_f rfl (HF.ev rfl) (HF.ev rfl)) ?_; clear HF; clear a; intro a HF
    refine wl_y rfl HF rfl rfl (yl_move rfl (HF.ev rfl)) ?_; clear HF; clear a; intro a HF
    refine HF.cases 17 rfl (fun cc2 HF1 => ?_) (fun cc2 HF1 => ?_)
    · clear HF; have HF := HF1; clear HF1
      have q2 : inB c.fGoal 0 c.fRoom = false := by simpa using cc2
      refine wl_skip HF rfl rfl rfl rfl rfl rfl ?_; clear HF; clear a; intro a HF
      refine wl_skip HF rfl rfl rfl rfl rfl rfl ?_; clear HF; clear a; intro a HF
      refine wl_skip HF rfl rfl rfl rfl rfl rfl ?_; clear HF; clear a; intro a HF
      refine wl_skip HF rfl rfl rfl rfl rfl rfl ?_; clear HF; clear a; intro a HF
      refine wl_skip HF rfl rfl rfl rfl rfl rfl ?_; clear HF; clear a; intro a HF
      refine wl_skip HF rfl rfl rfl rfl rfl rfl ?_; clear HF; clear a; intro a HF
      refine wl_skip HF rfl rfl rfl rfl rfl rfl ?_; clear HF; clear a; intro a HF
      refine wl_skip HF rfl rfl rfl rfl rfl rfl ?_; clear HF; clear a; intro a HF
      refine wl_skip HF rfl rfl rfl rfl rfl rfl ?_; clear HF; clear a; intro a HF
      refine wl_skip HF rfl rfl rfl rfl rfl rfl ?_; clear HF; clear a; intro a HF
      refine wl_y rfl HF rfl rfl (yl_pick_t rfl (HF.ev rfl) (HF.ev rfl)) ?_; clear HF; clear a; intro a HF
      refine wl_y rfl HF rfl rfl (yl_move rfl (HF.ev rfl)) ?_; clear HF; clear a; intro a HF
      refine wl_skip HF rfl rfl rfl rfl rfl rfl ?_; clear HF; clear a; intro a HF
      refine wl_skip HF rfl rfl rfl rfl rfl rfl ?_; clear HF; clear a; intro a HF
      refine wl_skip HF rfl rfl rfl rfl rfl rfl ?_; clear HF; clear a; intro a HF
      refine wl_skip HF rfl rfl rfl rfl rfl rfl ?_; clear HF; clear a; intro a HF
      refine wl_skip HF rfl rfl rfl rfl rfl rfl ?_; clear HF; clear a; intro a HF
      refine wl_skip HF rfl rfl rfl rfl rfl rfl ?_; clear HF; clear a; intro a HF
      refine wl_skip HF rfl rfl rfl rfl rfl rfl ?_; clear HF; clear a; intro a HF
      refine wl_skip HF rfl rfl rfl rfl rfl rfl ?_; clear HF; clear a; intro a HF
      refine wl_skip HF rfl rfl rfl rfl rfl rfl ?_; clear HF; clear a; intro a HF
      refine wl_skip HF rfl rfl rfl rfl rfl rfl ?_; clear HF; clear a; intro a HF
      refine wl_y rfl HF rfl rfl (yl_pick_t rfl (HF.ev rfl) (HF.ev rfl)) ?_; clear HF; clear a; intro a HF
      refine wpList_nil ?_
      refine ex_then ?_
      refine wc_true HF rfl ?_
      refine wp_seq ?_
      refine wp_region_lit ?_
      refine wl_y rfl HF rfl rfl (yl_assign rfl (HF.ev rfl)) ?_; clear HF; clear a; intro a HF
      refine wpList_nil ?_
      refine ex_then ?_
      refine wp_ret ?_
      refine ex_then_ret ?_
      refine bp_ret1 HF Try.results57 (HF.res rfl) ?_
      have hok : c.ok = false := by unfold CacheD.ok; rw [q1, q2]; rfl
      exact ⟨by rw [hok], HS.out.bel⟩
    · clear HF; have HF := HF1; clear HF1
      have q2 : inB c.fGoal 0 c.fRoom = true := by simpa using cc2
      refine wl_yg HF rfl rfl rfl rfl rfl (yl_fieldAddr (j := 2) rfl (HF.ev rfl) (by kernel_rfl)) ?_; clear HF; clear a; intro a HF
      refine wl_yg HF rfl rfl rfl rfl rfl (yl_load (v := .slice a2 c.fOnce.length c2) rfl (HF.ev rfl) (((HS.out.box 0 rfl).cell 2).trans rfl) (by kernel_rfl)) ?_; clear HF; clear a; intro a HF
      refine wl_yg HF rfl rfl rfl rfl rfl (yl_lenL (e := 3) (size := 1) rfl (HF.ev rfl) (by kernel_rfl)) ?_; clear HF; clear a; intro a HF
      refine wl_yg HF rfl rfl rfl rfl rfl (yl_fieldAddr (j := 3) rfl (HF.ev rfl) (by kernel_rfl)) ?_; clear HF; clear a; intro a HF
      refine wl_yg HF rfl rfl rfl rfl rfl (yl_load (v := .slice a3 c.fOften.length c3) rfl (HF.ev rfl) (((HS.out.box 0 rfl).cell 3).trans rfl) (by kernel_rfl)) ?_; clear HF; clear a; intro a HF
      refine wl_yg HF rfl rfl rfl rfl rfl (yl_lenL (e := 3) (size := 1) rfl (HF.ev rfl) (by kernel_rfl)) ?_; clear HF; clear a; intro a HF
      refine wl_yg HF rfl rfl rfl rfl rfl (yl_addI rfl (HF.ev rfl) (HF.ev rfl) (i64w (by omega))) ?_; clear HF; clear a; intro a HF
      refine wl_yg HF rfl rfl rfl rfl rfl (yl_fieldAddr (j := 0) rfl (HF.ev rfl) (by kernel_rfl)) ?_; clear HF; clear a; intro a HF
      refine wl_yg HF rfl rfl rfl rfl rfl (yl_load (v := .int .i64 c.fRoom) rfl (HF.ev rfl) (((HS.out.box 0 rfl).cell 0).trans rfl) (by kernel_rfl)) ?_; clear HF; clear a; intro a HF
      refine wl_yg HF rfl rfl rfl rfl rfl (yl_gtrI rfl (HF.ev rfl) (HF.ev rfl)) ?_; clear HF; clear a; intro a HF
      refine wl_y rfl HF rfl rfl (yl_pick_f rfl (HF.ev rfl) (HF.ev rfl)) ?_; clear HF; clear a; intro a HF
      refine wl_y rfl HF rfl rfl (yl_move rfl (HF.ev rfl)) ?_; clear HF; clear a; intro a HF
      refine HF.cases 29 rfl (fun cc3 HF1 => ?_) (fun cc3 HF1 => ?_)
      · clear HF; have HF := HF1; clear HF1
        have q3 : decide ((c.fOnce.length : Int) + c.fOften.length ≤ c.fRoom) = false := decide_eq_false (by have := of_decide_eq_true cc3; omega)
        refine wl_skip HF rfl rfl rfl rfl rfl rfl ?_; clear HF; clear a; intro a HF
        refine wl_skip HF rfl rfl rfl rfl rfl rfl ?_; clear HF; clear a; intro a HF
        refine wl_skip HF rfl rfl rfl rfl rfl rfl ?_; clear HF; clear a; intro a HF
        refine wl_skip HF rfl rfl rfl rfl rfl rfl ?_; clear HF; clear a; intro a HF
        refine wl_skip HF rfl rfl rfl rfl rfl rfl ?_; clear HF; clear a; intro a HF
        refine wl_skip HF rfl rfl rfl rfl rfl rfl ?_; clear HF; clear a; intro a HF
        refine wl_skip HF rfl rfl rfl rfl rfl rfl ?_; clear HF; clear a; intro a HF
        refine wl_skip HF rfl rfl rfl rfl rfl rfl ?_; clear HF; clear a; intro a HF
        refine wl_skip HF rfl rfl rfl rfl rfl rfl ?_; clear HF; clear a; intro a HF
        refine wl_skip HF rfl rfl rfl rfl rfl rfl ?_; clear HF; clear a; intro a HF
        refine wl_y rfl HF rfl rfl (yl_pick_t rfl (HF.ev rfl) (HF.ev rfl)) ?_; clear HF; clear a; intro a HF
        refine wpList_nil ?_
        refine ex_then ?_
        refine wc_true HF rfl ?_
        refine wp_seq ?_
        refine wp_region_lit ?_
        refine wl_y rfl HF rfl rfl (yl_assign rfl (HF.ev rfl)) ?_; clear HF; clear a; intro a HF
        refine wpList_nil ?_
        refine ex_then ?_
        refine wp_ret ?_
        refine ex_then_ret ?_
        refine bp_ret1 HF Try.results57 (HF.res rfl) ?_
        have hok : c.ok = false := by unfold CacheD.ok; rw [q1, q2, q3]; rfl
        exact ⟨by rw [hok], HS.out.bel⟩
      · clear HF; have HF := HF1; clear HF1
        have q3 : decide ((c.fOnce.length : Int) + c.fOften.length ≤ c.fRoom) = true := decide_eq_true (by have := of_decide_eq_false cc3; omega)
        refine wl_yg HF rfl rfl rfl rfl rfl (yl_fieldAddr (j := 2) rfl (HF.ev rfl) (by kernel_rfl)) ?_; clear HF; clear a; intro a HF
        refine wl_yg HF rfl rfl rfl rfl rfl (yl_load (v := .slice a2 c.fOnce.length c2) rfl (HF.ev rfl) (((HS.out.box 0 rfl).cell 2).trans rfl) (by kernel_rfl)) ?_; clear HF; clear a; intro a HF
        refine wl_yg HF rfl rfl rfl rfl rfl (yl_lenL (e := 3) (size := 1) rfl (HF.ev rfl) (by kernel_rfl)) ?_; clear HF; clear a; intro a HF
        refine wl_yg HF rfl rfl rfl rfl rfl (yl_fieldAddr (j := 4) rfl (HF.ev rfl) (by kernel_rfl)) ?_; clear HF; clear a; intro a HF
        refine wl_yg HF rfl rfl rfl rfl rfl (yl_load (v := .slice a4 c.fPast.length c4) rfl (HF.ev rfl) (((HS.out.box 0 rfl).cell 4).trans rfl) (by kernel_rfl)) ?_; clear HF; clear a; intro a HF
        refine wl_yg HF rfl rfl rfl rfl rfl (yl_lenL (e := 3) (size := 1) rfl (HF.ev rfl) (by kernel_rfl)) ?_; clear HF; clear a; intro a HF
        refine wl_yg HF rfl rfl rfl rfl rfl (yl_addI rfl (HF.ev rfl) (HF.ev rfl) (i64w (by omega))) ?_; clear HF; clear a; intro a HF
        refine wl_yg HF rfl rfl rfl rfl rfl (yl_fieldAddr (j := 0) rfl (HF.ev rfl) (by kernel_rfl)) ?_; clear HF; clear a; intro a HF
        refine wl_yg HF rfl rfl rfl rfl rfl (yl_load (v := .int .i64 c.fRoom) rfl (HF.ev rfl) (((HS.out.box 0 rfl).cell 0).trans rfl) (by kernel_rfl)) ?_; clear HF; clear a; intro a HF
        refine wl_yg HF rfl rfl rfl rfl rfl (yl_gtrI rfl (HF.ev rfl) (HF.ev rfl)) ?_; clear HF; clear a; intro a HF
        refine wl_y rfl HF rfl rfl (yl_pick_f rfl (HF.ev rfl) (HF.ev rfl)) ?_; clear HF; clear a; intro a HF
        refine wpList_nil ?_
        refine ex_then ?_
        refine HF.cases 40 rfl (fun cc4 HF1 => ?_) (fun cc4 HF1 => ?_)
        · clear HF; have HF := HF1; clear HF1
          have q4 : decide ((c.fOnce.length : Int) + c.fPast.length ≤ c.fRoom) = false := decide_eq_false (by have := of_decide_eq_true cc4; omega)
          refine wc_true HF rfl ?_
          refine wp_seq ?_
          refine wp_region_lit ?_
          refine wl_y rfl HF rfl rfl (yl_assign rfl (HF.ev rfl)) ?_; clear HF; clear a; intro a HF
          refine wpList_nil ?_
          refine ex_then ?_
          refine wp_ret ?_
          refine ex_then_ret ?_
          refine bp_ret1 HF Try.results57 (HF.res rfl) ?_
          have hok : c.ok = false := by unfold CacheD.ok; rw [q1, q2, q3, q4]; rfl
          exact ⟨by rw [hok], HS.out.bel⟩
        · clear HF; have HF := HF1; clear HF1
          have q4 : decide ((c.fOnce.length : Int) + c.fPast.length ≤ c.fRoom) = true := decide_eq_true (by have := of_decide_eq_false cc4; omega)
          refine wc_false HF rfl ?_
          refine wp_skip ?_
          refine ex_then ?_
          refine wp_seq ?_
          refine wr_heldS (s := [boxA b1 6 48 (.agg #[.int .i64 c.fRoom, .int .i64 c.fGoal, .slice a2 c.fOnce.length c2, .slice a3 c.fOften.length c3, .slice a4 c.fPast.length c4, .slice a5 c.fFormer.length c5])]) (by kernel_rfl) (St.drew (HS.out)) ?_
          have HS2 := Bx.mk HS.out.drew; replace HS := Bx.mk (show St w0 ([boxA b1 6 48 (.agg #[.int .i64 c.fRoom, .int .i64 c.fGoal, .slice a2 c.fOnce.length c2, .slice a3 c.fOften.length c3, .slice a4 c.fPast.length c4, .slice a5 c.fFormer.length c5])]) _ from HS.out.drew)
          generalize World.drew _ = w4 at HS HS2 ⊢
          refine wh_y 1 rfl (by kernel_rfl) (by kernel_rfl) (by kernel_rfl) (fun _ _ _ h => h) rfl HF rfl rfl (fun _ HS => (yl_fieldAddr (j := 2) rfl (HF.ev rfl) (by kernel_rfl))) HS.out ?_; clear HF; clear a; intro a HF
          refine wh_y 2 rfl (by kernel_rfl) (by kernel_rfl) (by kernel_rfl) (fun _ _ _ h => h) rfl HF rfl rfl (fun _ HS => (yl_load (v := .slice a2 c.fOnce.length c2) rfl (HF.ev rfl) (((HS.box 0 rfl).cell 2).trans rfl) (by kernel_rfl))) HS.out ?_; clear HF; clear a; intro a HF
          refine wh_y 4 rfl (by kernel_rfl) (by kernel_rfl) (by kernel_rfl) (fun _ _ _ h => h) rfl HF rfl rfl (fun _ HS => (yl_fieldAddr (j := 3) rfl (HF.ev rfl) (by kernel_rfl))) HS.out ?_; clear HF; clear a; intro a HF
          refine wh_y 5 rfl (by kernel_rfl) (by kernel_rfl) (by kernel_rfl) (fun _ _ _ h => h) rfl HF rfl rfl (fun _ HS => (yl_load (v := .slice a3 c.fOften.length c3) rfl (HF.ev rfl) (((HS.box 0 rfl).cell 3).trans rfl) (by kernel_rfl))) HS.out ?_; clear HF; clear a; intro a HF
          refine wh_y 7 rfl (by kernel_rfl) (by kernel_rfl) (by kernel_rfl) (fun _ _ _ h => h) rfl HF rfl rfl (fun _ HS => (yl_fieldAddr (j := 4) rfl (HF.ev rfl) (by kernel_rfl))) HS.out ?_; clear HF; clear a; intro a HF
          refine wh_y 8 rfl (by kernel_rfl) (by kernel_rfl) (by kernel_rfl) (fun _ _ _ h => h) rfl HF rfl rfl (fun _ HS => (yl_load (v := .slice a4 c.fPast.length c4) rfl (HF.ev rfl) (((HS.box 0 rfl).cell 4).trans rfl) (by kernel_rfl))) HS.out ?_; clear HF; clear a; intro a HF
          refine wh_y 10 rfl (by kernel_rfl) (by kernel_rfl) (by kernel_rfl) (fun _ _ _ h => h) rfl HF rfl rfl (fun _ HS => (yl_fieldAddr (j := 5) rfl (HF.ev rfl) (by kernel_rfl))) HS.out ?_; clear HF; clear a; intro a HF
          refine wh_y 11 rfl (by kernel_rfl) (by kernel_rfl) (by kernel_rfl) (fun _ _ _ h => h) rfl HF rfl rfl (fun _ HS => (yl_load (v := .slice a5 c.fFormer.length c5) rfl (HF.ev rfl) (((HS.box 0 rfl).cell 5).trans rfl) (by kernel_rfl))) HS.out ?_; clear HF; clear a; intro a HF
          refine wh_one 0 (by kernel_rfl) ?_
          refine wo_empty (e := 3) (size := 1) rfl rfl HF rfl rfl rfl (by kernel_rfl) HS2.out HS.out ?_; clear HF HS HS2; clear a; intro a w5 b2 HF HS2 HS; replace HS := Bx.mk HS; replace HS2 := Bx.mk HS2; refine ⟨HS.out, ?_⟩
          refine wh_one 3 (by kernel_rfl) ?_
          replace HS2 := Bx.mk (HS2.out.nilRow encI 1 3 (some ⟨b2, 0, none⟩))
          refine wo_appL rfl rfl HF rfl rfl rfl (HF.ev rfl) (HF.ev rfl) elemI encI_len HS2.out 0 (xs := []) rfl (ys := c.fOnce) (R2.out.below HS2.out.bel) (cells_one_I _) (by unfold maxLen; simp; omega) (by simp; omega) ?_; clear HF HS HS2; clear a; intro ao4 cp5 w7 a HF HS2; replace HS2 := Bx.mk HS2
          replace HS2 : Bx (St w0 ([rowA encI 1 3 (.slice ao4 (([]).length + c.fOnce.length) cp5) (([]) ++ c.fOnce), boxA b1 6 48 (.agg #[.int .i64 c.fRoom, .int .i64 c.fGoal, .slice a2 c.fOnce.length c2, .slice a3 c.fOften.length c3, .slice a4 c.fPast.length c4, .slice a5 c.fFormer.length c5])]) _) := ⟨HS2.out⟩
          have HS : Bx (St w0 ([boxA b1 6 48 (.agg #[.int .i64 c.fRoom, .int .i64 c.fGoal, .slice a2 c.fOnce.length c2, .slice a3 c.fOften.length c3, .slice a4 c.fPast.length c4, .slice a5 c.fFormer.length c5])]) _) := ⟨(HS2.out.erase 0)⟩; refine ⟨HS.out, ?_⟩
          refine wh_one 6 (by kernel_rfl) ?_
          refine wo_appL rfl rfl HF rfl rfl rfl (HF.ev rfl) (HF.ev rfl) elemI encI_len HS2.out 0 (xs := ([]) ++ c.fOnce) rfl (ys := c.fOften) (R3.out.below HS2.out.bel) (cells_one_I _) (by unfold maxLen; simp; omega) (by simp; omega) ?_; clear HF HS HS2; clear a; intro ao6 cp7 w9 a HF HS2; replace HS2 := Bx.mk HS2
          replace HS2 : Bx (St w0 ([rowA encI 1 3 (.slice ao6 ((([]) ++ c.fOnce).length + c.fOften.length) cp7) ((([]) ++ c.fOnce) ++ c.fOften), boxA b1 6 48 (.agg #[.int .i64 c.fRoom, .int .i64 c.fGoal, .slice a2 c.fOnce.length c2, .slice a3 c.fOften.length c3, .slice a4 c.fPast.length c4, .slice a5 c.fFormer.length c5])]) _) := ⟨HS2.out⟩
          have HS : Bx (St w0 ([boxA b1 6 48 (.agg #[.int .i64 c.fRoom, .int .i64 c.fGoal, .slice a2 c.fOnce.length c2, .slice a3 c.fOften.length c3, .slice a4 c.fPast.length c4, .slice a5 c.fFormer.length c5])]) _) := ⟨(HS2.out.erase 0)⟩; refine ⟨HS.out, ?_⟩
          refine wh_one 9 (by kernel_rfl) ?_
          refine wo_appL rfl rfl HF rfl rfl rfl (HF.ev rfl) (HF.ev rfl) elemI encI_len HS2.out 0 (xs := (([]) ++ c.fOnce) ++ c.fOften) rfl (ys := c.fPast) (R4.out.below HS2.out.bel) (cells_one_I _) (by unfold maxLen; simp; omega) (by simp; omega) ?_; clear HF HS HS2; clear a; intro ao8 cp9 w11 a HF HS2; replace HS2 := Bx.mk HS2
          replace HS2 : Bx (St w0 ([rowA encI 1 3 (.slice ao8 (((([]) ++ c.fOnce) ++ c.fOften).length + c.fPast.length) cp9) (((([]) ++ c.fOnce) ++ c.fOften) ++ c.fPast), boxA b1 6 48 (.agg #[.int .i64 c.fRoom, .int .i64 c.fGoal, .slice a2 c.fOnce.length c2, .slice a3 c.fOften.length c3, .slice a4 c.fPast.length c4, .slice a5 c.fFormer.length c5])]) _) := ⟨HS2.out⟩
          have HS : Bx (St w0 ([boxA b1 6 48 (.agg #[.int .i64 c.fRoom, .int .i64 c.fGoal, .slice a2 c.fOnce.length c2, .slice a3 c.fOften.length c3, .slice a4 c.fPast.length c4, .slice a5 c.fFormer.length c5])]) _) := ⟨(HS2.out.erase 0)⟩; refine ⟨HS.out, ?_⟩
          refine wh_one 12 (by kernel_rfl) ?_
          refine wo_appL rfl rfl HF rfl rfl rfl (HF.ev rfl) (HF.ev rfl) elemI encI_len HS2.out 0 (xs := ((([]) ++ c.fOnce) ++ c.fOften) ++ c.fPast) rfl (ys := c.fFormer) (R5.out.below HS2.out.bel) (cells_one_I _) (by unfold maxLen; simp; omega) (by simp; omega) ?_; clear HF HS HS2; clear a; intro ao10 cp11 w13 a HF HS2; replace HS2 := Bx.mk HS2
          replace HS2 : Bx (St w0 ([rowA encI 1 3 (.slice ao10 ((((([]) ++ c.fOnce) ++ c.fOften) ++ c.fPast).length + c.fFormer.length) cp11) ((((([]) ++ c.fOnce) ++ c.fOften) ++ c.fPast) ++ c.fFormer), boxA b1 6 48 (.agg #[.int .i64 c.fRoom, .int .i64 c.fGoal, .slice a2 c.fOnce.length c2, .slice a3 c.fOften.length c3, .slice a4 c.fPast.length c4, .slice a5 c.fFormer.length c5])]) _) := ⟨HS2.out⟩
          have HS : Bx (St w0 ([boxA b1 6 48 (.agg #[.int .i64 c.fRoom, .int .i64 c.fGoal, .slice a2 c.fOnce.length c2, .slice a3 c.fOften.length c3, .slice a4 c.fPast.length c4, .slice a5 c.fFormer.length c5])]) _) := ⟨(HS2.out.erase 0)⟩; refine ⟨HS.out, ?_⟩
          refine wh_y 13 rfl (by kernel_rfl) (by kernel_rfl) (by kernel_rfl) (fun _ _ _ h => h) rfl HF rfl rfl (fun _ HS => (yl_assign rfl (HF.ev rfl))) HS.out ?_; clear HF; clear a; intro a HF
          refine wh_done (by kernel_rfl) ?_
          replace HS := HS2; clear HS2
          refine ex_then ?_
          refine wp_seq ?_
          refine wp_seq ?_
          have hn : (((([]) ++ c.fOnce) ++ c.fOften) ++ c.fPast).length + c.fFormer.length = c.all.length := by rw [all_len]; simp only [List.length_append, List.length_nil]; omega
          have ha : (((([]) ++ c.fOnce) ++ c.fOften) ++ c.fPast) ++ c.fFormer = c.all := by simp [CacheD.all]
          rw [hn] at HF; rw [hn, ha] at HS; clear hn ha
          obtain ⟨ao, hao⟩ : ∃ z, z = ao10 := ⟨_, rfl⟩; obtain ⟨cp, hcp⟩ : ∃ z, z = cp11 := ⟨_, rfl⟩; rw [← hao, ← hcp] at HF HS; clear hao hcp
          replace HF : Fr 82 a [(1, .pointer (some ⟨b1, 0, none⟩)), (3, .slice ao c.all.length cp)] := HF.less _ ⟨rfl, rfl, trivial⟩
          replace HS : Bx (St w0 ([rowA encI 1 3 (.slice ao c.all.length cp) c.all, boxA b1 6 48 (.agg #[.int .i64 c.fRoom, .int .i64 c.fGoal, .slice a2 c.fOnce.length c2, .slice a3 c.fOften.length c3, .slice a4 c.fPast.length c4, .slice a5 c.fFormer.length c5])]) _) := ⟨HS.out⟩
          refine wp_region_lit ?_
          refine wl_y rfl HF rfl rfl (yl_assign rfl (HF.ev rfl)) ?_; clear HF; clear a; intro a HF
          refine wpList_nil ?_
          refine ex_then ?_
          refine wp_block ?_
          refine wc_loop (ι := Nat) (fun k a w => (k ≤ c.all.length ∧ okTo c.all k = true) ∧ Fr 82 a [(1, .pointer (some ⟨b1, 0, none⟩)), (3, .slice ao c.all.length cp), (4, .int .i64 (k : Int))] ∧ St w0 ([rowA encI 1 3 (.slice ao c.all.length cp) c.all, boxA b1 6 48 (.agg #[.int .i64 c.fRoom, .int .i64 c.fGoal, .slice a2 c.fOnce.length c2, .slice a3 c.fOften.length c3, .slice a4 c.fPast.length c4, .slice a5 c.fFormer.length c5])]) w) (fun k => c.all.length - k) 0 ⟨⟨Nat.zero_le _, rfl⟩, HF.less _ ⟨rfl, rfl, rfl, trivial⟩, HS.out⟩ ?_
          clear HF HS; clear a
          rintro k a w14 ⟨⟨hk, hf⟩, HF, HS⟩
          replace HS := Bx.mk HS
          refine wp_seq ?_
          refine wp_seq ?_
          refine wp_region_lit ?_
          refine wl_y rfl HF rfl rfl (yl_move rfl (HF.ev rfl)) ?_; clear HF; clear a; intro a HF
          refine wl_y rfl HF rfl rfl (yl_move rfl (HF.ev rfl)) ?_; clear HF; clear a; intro a HF
          refine wl_y rfl HF rfl rfl (yl_lenL (e := 3) (size := 1) rfl (HF.ev rfl) (by kernel_rfl)) ?_; clear HF; clear a; intro a HF
          refine wl_y rfl HF rfl rfl (yl_lssI rfl (HF.ev rfl) (HF.ev rfl)) ?_; clear HF; clear a; intro a HF
          refine wpList_nil ?_
          refine ex_then ?_
          refine HF.cases 57 rfl (fun cc5 HF1 => ?_) (fun cc5 HF1 => ?_)
          · clear HF; have HF := HF1; clear HF1
            have cc5 := of_decide_eq_true cc5
            refine wc_true HF rfl ?_
            refine wp_skip ?_
            refine ex_then ?_
            refine wp_seq ?_
            refine wp_block ?_
            refine wp_seq ?_
            obtain ⟨g, rfl, _, _, _, _⟩ := HS.out.rowOpen 0 rfl (by omega)
            refine wr_quiet (by kernel_rfl) (by kernel_rfl) HS.out ?_
            refine wq_y rfl HF rfl rfl (fun _ HS => (yl_move rfl (HF.ev rfl))) ?_; clear HF; clear a; intro a HF
            refine wq_y rfl HF rfl rfl (fun _ HS => (yl_move rfl (HF.ev rfl))) ?_; clear HF; clear a; intro a HF
            refine wq_y rfl HF rfl rfl (fun _ HS => (yl_indexAddr (e := 3) (i := k) (size := 1) rfl (HF.ev rfl) (HF.ev rfl) (by kernel_rfl) rfl (by omega))) ?_; clear HF; clear a; intro a HF
            refine wq_y rfl HF rfl rfl (fun _ HS => (yl_load (v := .int .i64 (c.all.getD k 0)) rfl (HF.ev rfl) (HS.elem1 encI_len 0 rfl (get_getD (xs := c.all) (j := k) (d := 0) (by omega)) rfl) (by kernel_rfl))) ?_; clear HF; clear a; intro a HF
            refine wq_call rfl HF rfl (enter_of Try.func59 (by kernel_rfl) rfl) (args := #[.int .i64 (c.all.getD k 0)]) rfl (v := .bool (inB (c.all.getD k 0) 8 63)) (fun _ HS => ((l2Row_any (c.all.getD k 0) _).mono fun _ _ h => ⟨h.1, h.2 ▸ Below.refl _ _⟩)) rfl rfl ?_; clear HF; clear a; intro a HF
            refine wq_y rfl HF rfl rfl (fun _ HS => (yl_not rfl (HF.ev rfl))) ?_; clear HF; clear a; intro a HF
            refine wq_y rfl HF rfl rfl (fun _ HS => (yl_move rfl (HF.ev rfl))) ?_; clear HF; clear a; intro a HF
            refine HF.cases 66 rfl (fun cc6 HF1 => ?_) (fun cc6 HF1 => ?_)
            · clear HF; have HF := HF1; clear HF1
              have p1 : inB (c.all.getD k 0) 8 63 = false := by simpa using cc6
              refine wq_skip HF rfl rfl rfl rfl rfl rfl ?_; clear HF; clear a; intro a HF
              refine wq_skip HF rfl rfl rfl rfl rfl rfl ?_; clear HF; clear a; intro a HF
              refine wq_skip HF rfl rfl rfl rfl rfl rfl ?_; clear HF; clear a; intro a HF
              refine wq_skip HF rfl rfl rfl rfl rfl rfl ?_; clear HF; clear a; intro a HF
              refine wq_skip HF rfl rfl rfl rfl rfl rfl ?_; clear HF; clear a; intro a HF
              refine wq_skip HF rfl rfl rfl rfl rfl rfl ?_; clear HF; clear a; intro a HF
              refine wq_skip HF rfl rfl rfl rfl rfl rfl ?_; clear HF; clear a; intro a HF
              refine wq_skip HF rfl rfl rfl rfl rfl rfl ?_; clear HF; clear a; intro a HF
              refine wq_y rfl HF rfl rfl (fun _ HS => (yl_pick_t rfl (HF.ev rfl) (HF.ev rfl))) ?_; clear HF; clear a; intro a HF
              refine wpQuiet_nil ?_; intro w15 HS; replace HS := Bx.mk HS
              refine ex_then ?_
              refine wc_true HF rfl ?_
              refine wp_seq ?_
              refine wp_region_lit ?_
              refine wl_y rfl HF rfl rfl (yl_assign rfl (HF.ev rfl)) ?_; clear HF; clear a; intro a HF
              refine wpList_nil ?_
              refine ex_then ?_
              refine wp_ret ?_
              refine ex_block_ret ?_
              refine ex_then_ret ?_
              refine ex_then_ret ?_
              refine ex_block_ret ?_
              refine ex_then_ret ?_
              refine bp_ret1 HF Try.results57 (HF.res rfl) ?_
              have hk1 : okTo c.all (k + 1) = false := by unfold okTo; rw [hf, p1]; rfl
              have hko := okTo_false hk1 (show k + 1 ≤ c.all.length by omega)
              have hok : c.ok = false := by unfold CacheD.ok; rw [q1, q2, q3, q4, hko]; first | rfl | simp
              exact ⟨by rw [hok], HS.out.bel⟩
            · clear HF; have HF := HF1; clear HF1
              have p1 : inB (c.all.getD k 0) 8 63 = true := by simpa using cc6
              refine wq_yg HF rfl rfl rfl rfl rfl (fun _ HS => (yl_move rfl (HF.ev rfl))) ?_; clear HF; clear a; intro a HF
              refine wq_yg HF rfl rfl rfl rfl rfl (fun _ HS => (yl_move rfl (HF.ev rfl))) ?_; clear HF; clear a; intro a HF
              refine wq_yg HF rfl rfl rfl rfl rfl (fun _ HS => (yl_sliceHi (e := 3) (size := 1) (k := k) rfl (HF.ev rfl) (HF.ev rfl) (by kernel_rfl) (by omega) (Nat.le_trans (by omega) (St.capLe HS 0 rfl)))) ?_; clear HF; clear a; intro a HF
              refine wq_yg HF rfl rfl rfl rfl rfl (fun _ HS => (yl_move rfl (HF.ev rfl))) ?_; clear HF; clear a; intro a HF
              refine wq_yg HF rfl rfl rfl rfl rfl (fun _ HS => (yl_move rfl (HF.ev rfl))) ?_; clear HF; clear a; intro a HF
              refine wq_yg HF rfl rfl rfl rfl rfl (fun _ HS => (yl_indexAddr (e := 3) (i := k) (size := 1) rfl (HF.ev rfl) (HF.ev rfl) (by kernel_rfl) rfl (by omega))) ?_; clear HF; clear a; intro a HF
              refine wq_yg HF rfl rfl rfl rfl rfl (fun _ HS => (yl_load (v := .int .i64 (c.all.getD k 0)) rfl (HF.ev rfl) (HS.elem1 encI_len 0 rfl (get_getD (xs := c.all) (j := k) (d := 0) (by omega)) rfl) (by kernel_rfl))) ?_; clear HF; clear a; intro a HF
              refine wq_callg HF rfl rfl rfl rfl (enter_of Try.func103 (by kernel_rfl) rfl) (args := #[.slice (some ⟨g, 0, none⟩) k cp, .int .i64 (c.all.getD k 0)]) rfl (v := .bool (inI (c.all.take k) (c.all.getD k 0))) (fun _ HS => l5InI_any _ _ _ (c.all.take k) (c.all.getD k 0) _ (by first | omega | (simp; omega)) (Rd.take (St.rdOf HS encI_len 0 rfl) (k := k) (by omega))) rfl rfl ?_; clear HF; clear a; intro a HF
              refine wq_y rfl HF rfl rfl (fun _ HS => (yl_pick_f rfl (HF.ev rfl) (HF.ev rfl))) ?_; clear HF; clear a; intro a HF
              refine wpQuiet_nil ?_; intro w16 HS; replace HS := Bx.mk HS
              refine ex_then ?_
              refine HF.cases 75 rfl (fun cc7 HF1 => ?_) (fun cc7 HF1 => ?_)
              · clear HF; have HF := HF1; clear HF1
                have p2 : inI (c.all.take k) (c.all.getD k 0) = true := cc7
                refine wc_true HF rfl ?_
                refine wp_seq ?_
                refine wp_region_lit ?_
                refine wl_y rfl HF rfl rfl (yl_assign rfl (HF.ev rfl)) ?_; clear HF; clear a; intro a HF
                refine wpList_nil ?_
                refine ex_then ?_
                refine wp_ret ?_
                refine ex_block_ret ?_
                refine ex_then_ret ?_
                refine ex_then_ret ?_
                refine ex_block_ret ?_
                refine ex_then_ret ?_
                refine bp_ret1 HF Try.results57 (HF.res rfl) ?_
                have hk1 : okTo c.all (k + 1) = false := by unfold okTo; rw [hf, p1, p2]; rfl
                have hko := okTo_false hk1 (show k + 1 ≤ c.all.length by omega)
                have hok : c.ok = false := by unfold CacheD.ok; rw [q1, q2, q3, q4, hko]; first | rfl | simp
                exact ⟨by rw [hok], HS.out.bel⟩
              · clear HF; have HF := HF1; clear HF1
                have p2 : inI (c.all.take k) (c.all.getD k 0) = false := cc7
                refine wc_false HF rfl ?_
                refine wp_skip ?_
                refine ex_block ?_
                refine ex_then ?_
                refine wp_region_lit ?_
                refine wl_y rfl HF rfl rfl (yl_move rfl (HF.ev rfl)) ?_; clear HF; clear a; intro a HF
                refine wl_y rfl HF rfl rfl (yl_addI rfl (HF.ev rfl) (HF.ev rfl) (i64w (by omega))) ?_; clear HF; clear a; intro a HF
                refine wl_y rfl HF rfl rfl (yl_assign rfl (HF.ev rfl)) ?_; clear HF; clear a; intro a HF
                refine wpList_nil ?_
                refine ex_then ?_
                exact ⟨k + 1, ⟨⟨by omega, by unfold okTo; rw [hf, p1, p2]; rfl⟩, HF.less _ ⟨rfl, rfl, rfl, trivial⟩, HS.out⟩, (by omega)⟩
          · clear HF; have HF := HF1; clear HF1
            have cc5 := of_decide_eq_false cc5
            refine wc_false HF rfl ?_
            refine wp_exit ?_
            refine ex_then_exit ?_
            refine ex_then_exit ?_
            refine ex_block_hit ?_
            refine ex_then ?_
            refine wp_seq ?_
            refine wp_region_lit ?_
            refine wl_y rfl HF rfl rfl (yl_move rfl (HF.ev rfl)) ?_; clear HF; clear a; intro a HF
            refine wl_y rfl HF rfl rfl (yl_lenL (e := 3) (size := 1) rfl (HF.ev rfl) (by kernel_rfl)) ?_; clear HF; clear a; intro a HF
            refine wl_y rfl HF rfl rfl (yl_fieldAddr (j := 0) rfl (HF.ev rfl) (by kernel_rfl)) ?_; clear HF; clear a; intro a HF
            refine wl_y rfl HF rfl rfl (yl_load (v := .int .i64 c.fRoom) rfl (HF.ev rfl) (((HS.out.box 1 rfl).cell 0).trans rfl) (by kernel_rfl)) ?_; clear HF; clear a; intro a HF
            refine wl_y rfl HF rfl rfl (yl_mulI rfl (HF.ev rfl) (HF.ev rfl) (i64w (by omega))) ?_; clear HF; clear a; intro a HF
            refine wl_y rfl HF rfl rfl (yl_leqI rfl (HF.ev rfl) (HF.ev rfl)) ?_; clear HF; clear a; intro a HF
            refine wl_y rfl HF rfl rfl (yl_assign rfl (HF.ev rfl)) ?_; clear HF; clear a; intro a HF
            refine wpList_nil ?_
            refine ex_then ?_
            refine wp_ret ?_
            refine bp_ret1 HF Try.results57 (HF.res rfl) ?_
            have hkl : k = c.all.length := by omega
            rw [hkl] at hf
            have hok : c.ok = (decide ((c.all.length : Int) ≤ ((2 : Int) * c.fRoom))) := by unfold CacheD.ok; rw [q1, q2, q3, q4, hf, Bool.and_true]; rfl
            exact ⟨by rw [hok], HS.out.bel⟩

set_option maxHeartbeats 1000000 in
set_option maxRecDepth 100000 in
theorem cacheClone_any (v : Value) (c : CacheD) (w0 : World) (hr : CacheD.Reads w0 v c) (hf : c.Fit) : Calls Try.prog 62 #[v] w0 fun e w' => ∃ v', e = .returned v' ∧ CacheD.Own w' w0.heap.size w'.heap.size v' c ∧ Below w0.heap.size w0 w' := by
  obtain ⟨a2, c2, a3, c3, a4, c4, a5, c5, rfl, r2, r3, r4, r5⟩ := hr
  have hf2 := hf.f2; have hf3 := hf.f3; have hf4 := hf.f4; have hf5 := hf.f5
  have R2 := Bx.mk r2; clear r2
  have R3 := Bx.mk r3; clear r3
  have R4 := Bx.mk r4; clear r4
  have R5 := Bx.mk r5; clear r5
  have HS := Bx.mk (St.start w0)
  refine wc_enter Try.func62 rfl Try.ntmps62 [(0, .agg #[.int .i64 c.fRoom, .int .i64 c.fGoal, .slice a2 c.fOnce.length c2, .slice a3 c.fOften.length c3, .slice a4 c.fPast.length c4, .slice a5 c.fFormer.length c5])] ⟨rfl, trivial⟩ rfl ?_; intro a HF
  refine wp_seq ?_
  refine wp_region_lit ?_
  refine wl_box rfl HF rfl (HF.ev rfl) (Z := [.int .i64 c.fRoom, .int .i64 c.fGoal, .slice a2 c.fOnce.length c2, .slice a3 c.fOften.length c3, .slice a4 c.fPast.length c4, .slice a5 c.fFormer.length c5]) rfl rfl rfl rfl HS.out ?_; clear HF HS; clear a; intro a w1 b1 HF HS; replace HS := Bx.mk HS
  refine wl_alloc rfl HF rfl rfl rfl (Z := [.int .i64 0, .int .i64 0, .slice none 0 0, .slice none 0 0, .slice none 0 0, .slice none 0 0]) (by kernel_rfl) rfl HS.out ?_; clear HF HS; clear a; intro a w2 b2 HF HS; replace HS := Bx.mk HS
  refine wpList_nil ?_
  refine ex_then ?_
  refine wp_seq ?_
  refine wr_marked (W := w0) (s := [boxA b2 6 48 (.agg #[.int .i64 0, .int .i64 0, .slice none 0 0, .slice none 0 0, .slice none 0 0, .slice none 0 0]), boxA b1 6 48 (.agg #[.int .i64 c.fRoom, .int .i64 c.fGoal, .slice a2 c.fOnce.length c2, .slice a3 c.fOften.length c3, .slice a4 c.fPast.length c4, .slice a5 c.fFormer.length c5])]) 13 (by kernel_rfl) ?_
  have HS2 := Bx.mk HS.out.drew; replace HS := Bx.mk HS.out.drew; generalize World.drew _ = w3 at HS HS2 ⊢
  refine wm_t 0 rfl (by kernel_rfl) (by kernel_rfl) (by kernel_rfl) (fun _ _ _ h => h) (by decide) rfl HF rfl rfl (fun _ _ => (yl_fieldAddr (j := 2) rfl (HF.ev rfl) (by kernel_rfl))) (fun _ => HS.out) ?_; clear HF; clear a; intro a HF
  refine wm_y 1 rfl (by kernel_rfl) (by kernel_rfl) (by kernel_rfl) (fun _ _ _ h => h) (by decide) (by kernel_rfl) (by kernel_rfl) rfl HF rfl rfl (fun _ HS => (yl_load (v := .slice a2 c.fOnce.length c2) rfl (HF.ev rfl) (((HS.box 1 rfl).cell 2).trans rfl) (by kernel_rfl))) HS.out ?_; clear HF; clear a; intro a HF
  refine wm_t 3 rfl (by kernel_rfl) (by kernel_rfl) (by kernel_rfl) (fun _ _ _ h => h) (by decide) rfl HF rfl rfl (fun _ _ => (yl_fieldAddr (j := 3) rfl (HF.ev rfl) (by kernel_rfl))) (fun _ => HS.out) ?_; clear HF; clear a; intro a HF
  refine wm_y 4 rfl (by kernel_rfl) (by kernel_rfl) (by kernel_rfl) (fun _ _ _ h => h) (by decide) (by kernel_rfl) (by kernel_rfl) rfl HF rfl rfl (fun _ HS => (yl_load (v := .slice a3 c.fOften.length c3) rfl (HF.ev rfl) (((HS.box 1 rfl).cell 3).trans rfl) (by kernel_rfl))) HS.out ?_; clear HF; clear a; intro a HF
  refine wm_t 6 rfl (by kernel_rfl) (by kernel_rfl) (by kernel_rfl) (fun _ _ _ h => h) (by decide) rfl HF rfl rfl (fun _ _ => (yl_fieldAddr (j := 4) rfl (HF.ev rfl) (by kernel_rfl))) (fun _ => HS.out) ?_; clear HF; clear a; intro a HF
  refine wm_y 7 rfl (by kernel_rfl) (by kernel_rfl) (by kernel_rfl) (fun _ _ _ h => h) (by decide) (by kernel_rfl) (by kernel_rfl) rfl HF rfl rfl (fun _ HS => (yl_load (v := .slice a4 c.fPast.length c4) rfl (HF.ev rfl) (((HS.box 1 rfl).cell 4).trans rfl) (by kernel_rfl))) HS.out ?_; clear HF; clear a; intro a HF
  refine wm_t 9 rfl (by kernel_rfl) (by kernel_rfl) (by kernel_rfl) (fun _ _ _ h => h) (by decide) rfl HF rfl rfl (fun _ _ => (yl_fieldAddr (j := 5) rfl (HF.ev rfl) (by kernel_rfl))) (fun _ => HS.out) ?_; clear HF; clear a; intro a HF
  refine wm_y 10 rfl (by kernel_rfl) (by kernel_rfl) (by kernel_rfl) (fun _ _ _ h => h) (by decide) (by kernel_rfl) (by kernel_rfl) rfl HF rfl rfl (fun _ HS => (yl_load (v := .slice a5 c.fFormer.length c5) rfl (HF.ev rfl) (((HS.box 1 rfl).cell 5).trans rfl) (by kernel_rfl))) HS.out ?_; clear HF; clear a; intro a HF
  refine wm_one 2 (by kernel_rfl) ?_
  refine wo_call rfl rfl HF rfl (enter_of Try.func109 (by kernel_rfl) rfl) (args := #[.slice a2 c.fOnce.length c2]) rfl (cloneI_any _ _ c.fOnce _ (by omega) (R2.out.below HS2.out.bel)) rfl rfl ?_
  rintro _ w4 ⟨⟨d2, f2, rfl, ro⟩, hb⟩
  refine ⟨_, rfl, ?_⟩; replace HS := Bx.mk (HS.out.later hb); replace HS2 := Bx.mk (HS2.out.add (St.ofRow ro hb)); clear ro hb HF; clear a; intro a HF
  replace HS2 : Bx (St w0 ([rowA encI 1 3 (.slice d2 c.fOnce.length f2) c.fOnce, boxA b2 6 48 (.agg #[.int .i64 0, .int .i64 0, .slice none 0 0, .slice none 0 0, .slice none 0 0, .slice none 0 0]), boxA b1 6 48 (.agg #[.int .i64 c.fRoom, .int .i64 c.fGoal, .slice a2 c.fOnce.length c2, .slice a3 c.fOften.length c3, .slice a4 c.fPast.length c4, .slice a5 c.fFormer.length c5])]) _) := ⟨HS2.out⟩
  refine ⟨fun _ => HS.out, ?_⟩
  refine wm_t 12 rfl (by kernel_rfl) (by kernel_rfl) (by kernel_rfl) (fun _ _ _ h => h) (by decide) rfl HF rfl rfl (fun _ _ => (yl_fieldAddr (j := 2) rfl (HF.ev rfl) (by kernel_rfl))) (fun _ => HS.out) ?_; clear HF; clear a; intro a HF
  refine wm_one 5 (by kernel_rfl) ?_
  refine wo_call rfl rfl HF rfl (enter_of Try.func109 (by kernel_rfl) rfl) (args := #[.slice a3 c.fOften.length c3]) rfl (cloneI_any _ _ c.fOften _ (by omega) (R3.out.below HS2.out.bel)) rfl rfl ?_
  rintro _ w5 ⟨⟨d3, f3, rfl, ro⟩, hb⟩
  refine ⟨_, rfl, ?_⟩; replace HS := Bx.mk (HS.out.later hb); replace HS2 := Bx.mk (HS2.out.add (St.ofRow ro hb)); clear ro hb HF; clear a; intro a HF
  replace HS2 : Bx (St w0 ([rowA encI 1 3 (.slice d3 c.fOften.length f3) c.fOften, rowA encI 1 3 (.slice d2 c.fOnce.length f2) c.fOnce, boxA b2 6 48 (.agg #[.int .i64 0, .int .i64 0, .slice none 0 0, .slice none 0 0, .slice none 0 0, .slice none 0 0]), boxA b1 6 48 (.agg #[.int .i64 c.fRoom, .int .i64 c.fGoal, .slice a2 c.fOnce.length c2, .slice a3 c.fOften.length c3, .slice a4 c.fPast.length c4, .slice a5 c.fFormer.length c5])]) _) := ⟨HS2.out⟩
  refine ⟨fun _ => HS.out, ?_⟩
  refine wm_one 8 (by kernel_rfl) ?_
  refine wo_call rfl rfl HF rfl (enter_of Try.func109 (by kernel_rfl) rfl) (args := #[.slice a4 c.fPast.length c4]) rfl (cloneI_any _ _ c.fPast _ (by omega) (R4.out.below HS2.out.bel)) rfl rfl ?_
  rintro _ w6 ⟨⟨d4, f4, rfl, ro⟩, hb⟩
  refine ⟨_, rfl, ?_⟩; replace HS := Bx.mk (HS.out.later hb); replace HS2 := Bx.mk (HS2.out.add (St.ofRow ro hb)); clear ro hb HF; clear a; intro a HF
  replace HS2 : Bx (St w0 ([rowA encI 1 3 (.slice d4 c.fPast.length f4) c.fPast, rowA encI 1 3 (.slice d3 c.fOften.length f3) c.fOften, rowA encI 1 3 (.slice d2 c.fOnce.length f2) c.fOnce, boxA b2 6 48 (.agg #[.int .i64 0, .int .i64 0, .slice none 0 0, .slice none 0 0, .slice none 0 0, .slice none 0 0]), boxA b1 6 48 (.agg #[.int .i64 c.fRoom, .int .i64 c.fGoal, .slice a2 c.fOnce.length c2, .slice a3 c.fOften.length c3, .slice a4 c.fPast.length c4, .slice a5 c.fFormer.length c5])]) _) := ⟨HS2.out⟩
  refine ⟨fun _ => HS.out, ?_⟩
  refine wm_one 11 (by kernel_rfl) ?_
  refine wo_call rfl rfl HF rfl (enter_of Try.func109 (by kernel_rfl) rfl) (args := #[.slice a5 c.fFormer.length c5]) rfl (cloneI_any _ _ c.fFormer _ (by omega) (R5.out.below HS2.out.bel)) rfl rfl ?_
  rintro _ w7 ⟨⟨d5, f5, rfl, ro⟩, hb⟩
  refine ⟨_, rfl, ?_⟩; replace HS := Bx.mk (HS.out.later hb); replace HS2 := Bx.mk (HS2.out.add (St.ofRow ro hb)); clear ro hb HF; clear a; intro a HF
  replace HS2 : Bx (St w0 ([rowA encI 1 3 (.slice d5 c.fFormer.length f5) c.fFormer, rowA encI 1 3 (.slice d4 c.fPast.length f4) c.fPast, rowA encI 1 3 (.slice d3 c.fOften.length f3) c.fOften, rowA encI 1 3 (.slice d2 c.fOnce.length f2) c.fOnce, boxA b2 6 48 (.agg #[.int .i64 0, .int .i64 0, .slice none 0 0, .slice none 0 0, .slice none 0 0, .slice none 0 0]), boxA b1 6 48 (.agg #[.int .i64 c.fRoom, .int .i64 c.fGoal, .slice a2 c.fOnce.length c2, .slice a3 c.fOften.length c3, .slice a4 c.fPast.length c4, .slice a5 c.fFormer.length c5])]) _) := ⟨HS2.out⟩
  refine ⟨fun _ => HS.out, ?_⟩
  refine wm_one 13 (by kernel_rfl) ?_
  refine wo_storeF rfl rfl rfl rfl (HF.ev rfl) (HF.ev rfl) (by kernel_rfl) HS2.out 5 rfl rfl rfl ?_
  clear HS2; intro w8 HS2; replace HS2 : Bx (St w0 ([rowA encI 1 3 (.slice d5 c.fFormer.length f5) c.fFormer, rowA encI 1 3 (.slice d4 c.fPast.length f4) c.fPast, rowA encI 1 3 (.slice d3 c.fOften.length f3) c.fOften, rowA encI 1 3 (.slice d2 c.fOnce.length f2) c.fOnce, boxA b2 6 48 (.agg #[.int .i64 0, .int .i64 0, .slice none 0 0, .slice none 0 0, .slice none 0 0, .slice none 0 0]), boxA b1 6 48 (.agg #[.int .i64 c.fRoom, .int .i64 c.fGoal, .slice d2 c.fOnce.length f2, .slice a3 c.fOften.length c3, .slice a4 c.fPast.length c4, .slice a5 c.fFormer.length c5])]) _) := ⟨HS2⟩; refine ⟨(fun h => absurd (show true = false from h) (by decide)), ?_⟩
  refine wm_t 14 rfl (by kernel_rfl) (by kernel_rfl) (by kernel_rfl) (fun _ _ _ h => h) (by decide) rfl HF rfl rfl (fun _ _ => (yl_fieldAddr (j := 3) rfl (HF.ev rfl) (by kernel_rfl))) (fun h => absurd (show true = false from h) (by decide)) ?_; clear HF; clear a; intro a HF
  refine wm_one 15 (by kernel_rfl) ?_
  refine wo_storeF rfl rfl rfl rfl (HF.ev rfl) (HF.ev rfl) (by kernel_rfl) HS2.out 5 rfl rfl rfl ?_
  clear HS2; intro w9 HS2; replace HS2 : Bx (St w0 ([rowA encI 1 3 (.slice d5 c.fFormer.length f5) c.fFormer, rowA encI 1 3 (.slice d4 c.fPast.length f4) c.fPast, rowA encI 1 3 (.slice d3 c.fOften.length f3) c.fOften, rowA encI 1 3 (.slice d2 c.fOnce.length f2) c.fOnce, boxA b2 6 48 (.agg #[.int .i64 0, .int .i64 0, .slice none 0 0, .slice none 0 0, .slice none 0 0, .slice none 0 0]), boxA b1 6 48 (.agg #[.int .i64 c.fRoom, .int .i64 c.fGoal, .slice d2 c.fOnce.length f2, .slice d3 c.fOften.length f3, .slice a4 c.fPast.length c4, .slice a5 c.fFormer.length c5])]) _) := ⟨HS2⟩; refine ⟨(fun h => absurd (show true = false from h) (by decide)), ?_⟩
  refine wm_t 16 rfl (by kernel_rfl) (by kernel_rfl) (by kernel_rfl) (fun _ _ _ h => h) (by decide) rfl HF rfl rfl (fun _ _ => (yl_fieldAddr (j := 4) rfl (HF.ev rfl) (by kernel_rfl))) (fun h => absurd (show true = false from h) (by decide)) ?_; clear HF; clear a; intro a HF
  refine wm_one 17 (by kernel_rfl) ?_
  refine wo_storeF rfl rfl rfl rfl (HF.ev rfl) (HF.ev rfl) (by kernel_rfl) HS2.out 5 rfl rfl rfl ?_
  clear HS2; intro w10 HS2; replace HS2 : Bx (St w0 ([rowA encI 1 3 (.slice d5 c.fFormer.length f5) c.fFormer, rowA encI 1 3 (.slice d4 c.fPast.length f4) c.fPast, rowA encI 1 3 (.slice d3 c.fOften.length f3) c.fOften, rowA encI 1 3 (.slice d2 c.fOnce.length f2) c.fOnce, boxA b2 6 48 (.agg #[.int .i64 0, .int .i64 0, .slice none 0 0, .slice none 0 0, .slice none 0 0, .slice none 0 0]), boxA b1 6 48 (.agg #[.int .i64 c.fRoom, .int .i64 c.fGoal, .slice d2 c.fOnce.length f2, .slice d3 c.fOften.length f3, .slice d4 c.fPast.length f4, .slice a5 c.fFormer.length c5])]) _) := ⟨HS2⟩; refine ⟨(fun h => absurd (show true = false from h) (by decide)), ?_⟩
  refine wm_t 18 rfl (by kernel_rfl) (by kernel_rfl) (by kernel_rfl) (fun _ _ _ h => h) (by decide) rfl HF rfl rfl (fun _ _ => (yl_fieldAddr (j := 5) rfl (HF.ev rfl) (by kernel_rfl))) (fun h => absurd (show true = false from h) (by decide)) ?_; clear HF; clear a; intro a HF
  refine wm_one 19 (by kernel_rfl) ?_
  refine wo_storeF rfl rfl rfl rfl (HF.ev rfl) (HF.ev rfl) (by kernel_rfl) HS2.out 5 rfl rfl rfl ?_
  clear HS2; intro w11 HS2; replace HS2 : Bx (St w0 ([rowA encI 1 3 (.slice d5 c.fFormer.length f5) c.fFormer, rowA encI 1 3 (.slice d4 c.fPast.length f4) c.fPast, rowA encI 1 3 (.slice d3 c.fOften.length f3) c.fOften, rowA encI 1 3 (.slice d2 c.fOnce.length f2) c.fOnce, boxA b2 6 48 (.agg #[.int .i64 0, .int .i64 0, .slice none 0 0, .slice none 0 0, .slice none 0 0, .slice none 0 0]), boxA b1 6 48 (.agg #[.int .i64 c.fRoom, .int .i64 c.fGoal, .slice d2 c.fOnce.length f2, .slice d3 c.fOften.length f3, .slice d4 c.fPast.length f4, .slice d5 c.fFormer.length f5])]) _) := ⟨HS2⟩; refine ⟨(fun h => absurd (show true = false from h) (by decide)), ?_⟩
  refine wm_done (by kernel_rfl) ?_
  clear HS; have HS := HS2; clear HS2
  refine ex_then ?_
  refine wp_seq ?_
  refine wp_region_lit ?_
  refine wl_y rfl HF rfl rfl (yl_loadR (cs := [.int .i64 c.fRoom, .int .i64 c.fGoal, .slice d2 c.fOnce.length f2, .slice d3 c.fOften.length f3, .slice d4 c.fPast.length f4, .slice d5 c.fFormer.length f5]) rfl (HF.ev rfl) ((HS.out.box 5 rfl).sub 0 6) (by kernel_rfl)) ?_; clear HF; clear a; intro a HF
  refine wl_storeBox rfl HF rfl rfl (HF.ev rfl) (HF.ev rfl) HS.out 4 rfl (cells_lit [.int .i64 c.fRoom, .int .i64 c.fGoal, .slice d2 c.fOnce.length f2, .slice d3 c.fOften.length f3, .slice d4 c.fPast.length f4, .slice d5 c.fFormer.length f5] rfl rfl) (by kernel_rfl) ?_; clear HS; intro w12 HS; replace HS := Bx.mk HS
  have HS : Bx (St w0 ([rowA encI 1 3 (.slice d5 c.fFormer.length f5) c.fFormer, rowA encI 1 3 (.slice d4 c.fPast.length f4) c.fPast, rowA encI 1 3 (.slice d3 c.fOften.length f3) c.fOften, rowA encI 1 3 (.slice d2 c.fOnce.length f2) c.fOnce, boxA b2 6 48 (.agg #[.int .i64 c.fRoom, .int .i64 c.fGoal, .slice d2 c.fOnce.length f2, .slice d3 c.fOften.length f3, .slice d4 c.fPast.length f4, .slice d5 c.fFormer.length f5]), boxA b1 6 48 (.agg #[.int .i64 c.fRoom, .int .i64 c.fGoal, .slice d2 c.fOnce.length f2, .slice d3 c.fOften.length f3, .slice d4 c.fPast.length f4, .slice d5 c.fFormer.length f5])]) _) := HS
  refine wpList_nil ?_
  refine ex_then ?_
  refine wp_ret ?_
  refine bp_ret1 HF Try.results62 (HF.resBox rfl (HS.out.box 4 rfl) (by kernel_rfl)) ?_
  replace HS : Bx (St w0 ([rowA encI 1 3 (.slice d2 c.fOnce.length f2) c.fOnce, rowA encI 1 3 (.slice d3 c.fOften.length f3) c.fOften, rowA encI 1 3 (.slice d4 c.fPast.length f4) c.fPast, rowA encI 1 3 (.slice d5 c.fFormer.length f5) c.fFormer, boxA b2 6 48 (.agg #[.int .i64 c.fRoom, .int .i64 c.fGoal, .slice d2 c.fOnce.length f2, .slice d3 c.fOften.length f3, .slice d4 c.fPast.length f4, .slice d5 c.fFormer.length f5]), boxA b1 6 48 (.agg #[.int .i64 c.fRoom, .int .i64 c.fGoal, .slice d2 c.fOnce.length f2, .slice d3 c.fOften.length f3, .slice d4 c.fPast.length f4, .slice d5 c.fFormer.length f5])]) _) := ⟨((((HS.out).pick 0 rfl).pick 1 rfl).pick 2 rfl).pick 3 rfl⟩
  exact ⟨_, rfl, CacheD.st_own HS.out, HS.out.bel⟩

end Go.Proofs.Ytkgmilobmbeplaa
