/- A block written to a store: walked. -/
import Derived.Test.YtfijfjjleelphaaSwA
import Derived.Test.YtfijfjjleelphaaStoreSl
namespace Go.Proofs.Ytfijfjjleelphaa
open Go.RowKit

set_option maxHeartbeats 2000000 in
set_option maxRecDepth 100000 in
theorem l7Like_any (v : Value) (st : StoreD) (text : ByteArray) (w0 : World) (hr : StoreD.Reads w0 v st) (h0 : st.fRows.length = 64) (h1 : st.fSpace.fRefs.length = 64) (h2 : st.fSpace.fLast.length = 64) : Calls Try.prog 137 #[v, .string text] w0 fun e w' => e = .returned (.int .i64 (likeR st text)) ∧ Below w0.heap.size w0 w' := by
  obtain ⟨a0, c0, a1, c1, a2, c2, a4, c4, a6, c6, rfl, r0, r1, r2, _, _⟩ := hr
  obtain ⟨g0, o0, r0⟩ := r0.opn
  obtain ⟨g1, o1, r1⟩ := r1.opn
  obtain ⟨g2, o2, r2⟩ := r2.opn
  have R0 := Bx.mk r0
  have R1 := Bx.mk r1
  have R2 := Bx.mk r2
  clear r0 r1 r2
  have HS := Bx.mk (St.start w0)
  refine wc_enter Try.func137 rfl Try.ntmps137 [(0, .agg #[.slice a0 st.fRows.length c0, .slice a1 st.fSpace.fRefs.length c1, .slice a2 st.fSpace.fLast.length c2, .int .i64 st.fTxg, .slice a4 st.fGone.length c4, .int .i64 st.fKeep, .slice a6 st.fDead.length c6, .bool st.fSame]), (1, .string text)] ⟨rfl, rfl, trivial⟩ rfl ?_; intro a HF
  refine wp_seq ?_
  refine wp_region_lit ?_
  refine wl_box rfl HF rfl (HF.ev rfl) (Z := [.slice a0 st.fRows.length c0, .slice a1 st.fSpace.fRefs.length c1, .slice a2 st.fSpace.fLast.length c2, .int .i64 st.fTxg, .slice a4 st.fGone.length c4, .int .i64 st.fKeep, .slice a6 st.fDead.length c6, .bool st.fSame]) rfl rfl rfl rfl HS.out ?_; clear HF HS; clear a; intro a w1 b1 HF HS; replace HS := Bx.mk HS
  refine wl_y rfl HF rfl rfl (yl_assign rfl (HF.ev rfl)) ?_; clear HF; clear a; intro a HF
  refine wpList_nil ?_
  refine ex_then ?_
  refine wp_seq ?_
  refine wp_seq ?_
  refine wp_region_lit ?_
  refine wl_y rfl HF rfl rfl (yl_assign rfl (HF.ev rfl)) ?_; clear HF; clear a; intro a HF
  refine wpList_nil ?_
  refine ex_then ?_
  refine wp_block ?_
  refine wc_loop (ι := Nat) (fun k a w => ((8 ≤ k ∧ k ≤ 64) ∧ findUp (likeB st text) 56 8 = findUp (likeB st text) (64 - k) k) ∧ Fr 40 a [(1, .string text), (2, .pointer (some ⟨b1, 0, none⟩)), (5, .int .i64 (k : Int))] ∧ St w0 ([boxA b1 8 65 (.agg #[.slice a0 st.fRows.length c0, .slice a1 st.fSpace.fRefs.length c1, .slice a2 st.fSpace.fLast.length c2, .int .i64 st.fTxg, .slice a4 st.fGone.length c4, .int .i64 st.fKeep, .slice a6 st.fDead.length c6, .bool st.fSame])]) w) (fun k => 64 - k) 8 ⟨⟨by omega, rfl⟩, HF.less _ ⟨rfl, rfl, rfl, trivial⟩, HS.out⟩ ?_
  clear HF HS; clear a
  rintro k a w2 ⟨⟨⟨hk, hk2⟩, hf⟩, HF, HS⟩
  replace HS := Bx.mk HS
  refine wp_seq ?_
  refine wp_seq ?_
  refine wp_region_lit ?_
  refine wl_y rfl HF rfl rfl (yl_move rfl (HF.ev rfl)) ?_; clear HF; clear a; intro a HF
  refine wl_y rfl HF rfl rfl (yl_lssI rfl (HF.ev rfl) (HF.ev rfl)) ?_; clear HF; clear a; intro a HF
  refine wpList_nil ?_
  refine ex_then ?_
  refine HF.cases 7 rfl (fun cc1 HF1 => ?_) (fun cc1 HF1 => ?_)
  · clear HF; have HF := HF1; clear HF1
    have cc1 := of_decide_eq_true cc1
    refine wc_true HF rfl ?_
    refine wp_skip ?_
    refine ex_then ?_
    refine wp_seq ?_
    refine wp_block ?_
    refine wp_seq ?_
    refine wr_quiet (by kernel_rfl) (by kernel_rfl) HS.out ?_
    refine wq_y rfl HF rfl rfl (fun _ HS => (yl_fieldAddr (j := 0) rfl (HF.ev rfl) (by kernel_rfl))) ?_; clear HF; clear a; intro a HF
    refine wq_y rfl HF rfl rfl (fun _ HS => (yl_load (v := .slice a0 st.fRows.length c0) rfl (HF.ev rfl) (((HS.box 0 rfl).cell 0).trans rfl) (by kernel_rfl))) ?_; clear HF; clear a; intro a HF
    refine wq_y rfl HF rfl rfl (fun _ HS => (yl_move rfl (HF.ev rfl))) ?_; clear HF; clear a; intro a HF
    refine wq_y rfl HF rfl rfl (fun _ HS => (yl_indexAddrR (e := 9) (i := k) (size := 1) rfl (HF.ev rfl) (HF.ev rfl) (by kernel_rfl) rfl (by omega) (R0.out.ao k (by omega)))) ?_; clear HF; clear a; intro a HF
    refine wq_y rfl HF rfl rfl (fun _ HS => (yl_load (v := .string (st.fRows.getD k ByteArray.empty)) rfl (HF.ev rfl) (R0.out.elem1 HS (get_getD (xs := st.fRows) (j := k) (d := ByteArray.empty) (by omega)) rfl) (by kernel_rfl))) ?_; clear HF; clear a; intro a HF
    refine wq_y rfl HF rfl rfl (fun _ HS => (yl_move rfl (HF.ev rfl))) ?_; clear HF; clear a; intro a HF
    refine wq_y rfl HF rfl rfl (fun _ HS => (yl_eqlS rfl (HF.ev rfl) (HF.ev rfl))) ?_; clear HF; clear a; intro a HF
    refine wq_y rfl HF rfl rfl (fun _ HS => (yl_move rfl (HF.ev rfl))) ?_; clear HF; clear a; intro a HF
    refine HF.cases 17 rfl (fun cc2 HF1 => ?_) (fun cc2 HF1 => ?_)
    · clear HF; have HF := HF1; clear HF1
      refine wq_yg HF rfl rfl rfl rfl rfl (fun _ HS => (yl_fieldAddr (j := 1) rfl (HF.ev rfl) (by kernel_rfl))) ?_; clear HF; clear a; intro a HF
      refine wq_yg HF rfl rfl rfl rfl rfl (fun _ HS => (yl_fieldAddr (j := 1) rfl (HF.ev rfl) (by kernel_rfl))) ?_; clear HF; clear a; intro a HF
      refine wq_yg HF rfl rfl rfl rfl rfl (fun _ HS => (yl_load (v := .slice a2 st.fSpace.fLast.length c2) rfl (HF.ev rfl) (((HS.box 0 rfl).cell 2).trans rfl) (by kernel_rfl))) ?_; clear HF; clear a; intro a HF
      refine wq_yg HF rfl rfl rfl rfl rfl (fun _ HS => (yl_move rfl (HF.ev rfl))) ?_; clear HF; clear a; intro a HF
      refine wq_yg HF rfl rfl rfl rfl rfl (fun _ HS => (yl_indexAddrR (e := 3) (i := k) (size := 1) rfl (HF.ev rfl) (HF.ev rfl) (by kernel_rfl) rfl (by omega) (R2.out.ao k (by omega)))) ?_; clear HF; clear a; intro a HF
      refine wq_yg HF rfl rfl rfl rfl rfl (fun _ HS => (yl_load (v := .int .i64 (st.fSpace.fLast.getD k 0)) rfl (HF.ev rfl) (R2.out.elem1 HS (get_getD (xs := st.fSpace.fLast) (j := k) (d := 0) (by omega)) rfl) (by kernel_rfl))) ?_; clear HF; clear a; intro a HF
      refine wq_yg HF rfl rfl rfl rfl rfl (fun _ HS => (yl_fieldAddr (j := 3) rfl (HF.ev rfl) (by kernel_rfl))) ?_; clear HF; clear a; intro a HF
      refine wq_yg HF rfl rfl rfl rfl rfl (fun _ HS => (yl_load (v := .int .i64 st.fTxg) rfl (HF.ev rfl) (((HS.box 0 rfl).cell 3).trans rfl) (by kernel_rfl))) ?_; clear HF; clear a; intro a HF
      refine wq_yg HF rfl rfl rfl rfl rfl (fun _ HS => (yl_lssI rfl (HF.ev rfl) (HF.ev rfl))) ?_; clear HF; clear a; intro a HF
      refine wq_y rfl HF rfl rfl (fun _ HS => (yl_pick_t rfl (HF.ev rfl) (HF.ev rfl))) ?_; clear HF; clear a; intro a HF
      refine wq_y rfl HF rfl rfl (fun _ HS => (yl_move rfl (HF.ev rfl))) ?_; clear HF; clear a; intro a HF
      refine HF.cases 28 rfl (fun cc3 HF1 => ?_) (fun cc3 HF1 => ?_)
      · clear HF; have HF := HF1; clear HF1
        refine wq_yg HF rfl rfl rfl rfl rfl (fun _ HS => (yl_fieldAddr (j := 1) rfl (HF.ev rfl) (by kernel_rfl))) ?_; clear HF; clear a; intro a HF
        refine wq_yg HF rfl rfl rfl rfl rfl (fun _ HS => (yl_fieldAddr (j := 0) rfl (HF.ev rfl) (by kernel_rfl))) ?_; clear HF; clear a; intro a HF
        refine wq_yg HF rfl rfl rfl rfl rfl (fun _ HS => (yl_load (v := .slice a1 st.fSpace.fRefs.length c1) rfl (HF.ev rfl) (((HS.box 0 rfl).cell 1).trans rfl) (by kernel_rfl))) ?_; clear HF; clear a; intro a HF
        refine wq_yg HF rfl rfl rfl rfl rfl (fun _ HS => (yl_move rfl (HF.ev rfl))) ?_; clear HF; clear a; intro a HF
        refine wq_yg HF rfl rfl rfl rfl rfl (fun _ HS => (yl_indexAddrR (e := 3) (i := k) (size := 1) rfl (HF.ev rfl) (HF.ev rfl) (by kernel_rfl) rfl (by omega) (R1.out.ao k (by omega)))) ?_; clear HF; clear a; intro a HF
        refine wq_yg HF rfl rfl rfl rfl rfl (fun _ HS => (yl_load (v := .int .i64 (st.fSpace.fRefs.getD k 0)) rfl (HF.ev rfl) (R1.out.elem1 HS (get_getD (xs := st.fSpace.fRefs) (j := k) (d := 0) (by omega)) rfl) (by kernel_rfl))) ?_; clear HF; clear a; intro a HF
        refine wq_yg HF rfl rfl rfl rfl rfl (fun _ HS => (yl_fieldAddr (j := 3) rfl (HF.ev rfl) (by kernel_rfl))) ?_; clear HF; clear a; intro a HF
        refine wq_yg HF rfl rfl rfl rfl rfl (fun _ HS => (yl_load (v := .int .i64 st.fTxg) rfl (HF.ev rfl) (((HS.box 0 rfl).cell 3).trans rfl) (by kernel_rfl))) ?_; clear HF; clear a; intro a HF
        refine wq_yg HF rfl rfl rfl rfl rfl (fun _ HS => (yl_lssI rfl (HF.ev rfl) (HF.ev rfl))) ?_; clear HF; clear a; intro a HF
        refine wq_y rfl HF rfl rfl (fun _ HS => (yl_pick_t rfl (HF.ev rfl) (HF.ev rfl))) ?_; clear HF; clear a; intro a HF
        refine wpQuiet_nil ?_; intro w3 HS; replace HS := Bx.mk HS
        refine ex_then ?_
        refine HF.cases 38 rfl (fun cc4 HF1 => ?_) (fun cc4 HF1 => ?_)
        · clear HF; have HF := HF1; clear HF1
          refine wc_true HF rfl ?_
          refine wp_seq ?_
          refine wp_region_lit ?_
          refine wl_y rfl HF rfl rfl (yl_move rfl (HF.ev rfl)) ?_; clear HF; clear a; intro a HF
          refine wl_y rfl HF rfl rfl (yl_assign rfl (HF.ev rfl)) ?_; clear HF; clear a; intro a HF
          refine wpList_nil ?_
          refine ex_then ?_
          refine wp_ret ?_
          refine ex_block_ret ?_
          refine ex_then_ret ?_
          refine ex_then_ret ?_
          refine ex_block_ret ?_
          refine ex_then_ret ?_
          refine bp_ret1 HF Try.results137 (HF.res rfl) ?_
          have hp : likeB st text k = true := by unfold likeB; rw [cc2, cc3, cc4]; rfl
          have he : likeR st text = k := by unfold likeR; rw [find_here (by omega) hp hf]; exact atOr_lt (by omega)
          exact ⟨by rw [he], HS.out.bel⟩
        · clear HF; have HF := HF1; clear HF1
          refine wc_false HF rfl ?_
          refine wp_skip ?_
          refine ex_block ?_
          refine ex_then ?_
          refine wp_region_lit ?_
          refine wl_y rfl HF rfl rfl (yl_move rfl (HF.ev rfl)) ?_; clear HF; clear a; intro a HF
          refine wl_y rfl HF rfl rfl (yl_addI rfl (HF.ev rfl) (HF.ev rfl) (i64w (by omega))) ?_; clear HF; clear a; intro a HF
          refine wl_y rfl HF rfl rfl (yl_assign rfl (HF.ev rfl)) ?_; clear HF; clear a; intro a HF
          refine wpList_nil ?_
          refine ex_then ?_
          have hp : likeB st text k = false := by unfold likeB; rw [cc2, cc3, cc4]; rfl
          exact ⟨k + 1, ⟨⟨by omega, find_step (by omega) hp hf rfl⟩, HF.less _ ⟨rfl, rfl, rfl, trivial⟩, HS.out⟩, (by omega)⟩
      · clear HF; have HF := HF1; clear HF1
        refine wq_skip HF rfl rfl rfl rfl rfl rfl ?_; clear HF; clear a; intro a HF
        refine wq_skip HF rfl rfl rfl rfl rfl rfl ?_; clear HF; clear a; intro a HF
        refine wq_skip HF rfl rfl rfl rfl rfl rfl ?_; clear HF; clear a; intro a HF
        refine wq_skip HF rfl rfl rfl rfl rfl rfl ?_; clear HF; clear a; intro a HF
        refine wq_skip HF rfl rfl rfl rfl rfl rfl ?_; clear HF; clear a; intro a HF
        refine wq_skip HF rfl rfl rfl rfl rfl rfl ?_; clear HF; clear a; intro a HF
        refine wq_skip HF rfl rfl rfl rfl rfl rfl ?_; clear HF; clear a; intro a HF
        refine wq_skip HF rfl rfl rfl rfl rfl rfl ?_; clear HF; clear a; intro a HF
        refine wq_skip HF rfl rfl rfl rfl rfl rfl ?_; clear HF; clear a; intro a HF
        refine wq_y rfl HF rfl rfl (fun _ HS => (yl_pick_f rfl (HF.ev rfl) (HF.ev rfl))) ?_; clear HF; clear a; intro a HF
        refine wpQuiet_nil ?_; intro w4 HS; replace HS := Bx.mk HS
        refine ex_then ?_
        refine wc_false HF rfl ?_
        refine wp_skip ?_
        refine ex_block ?_
        refine ex_then ?_
        refine wp_region_lit ?_
        refine wl_y rfl HF rfl rfl (yl_move rfl (HF.ev rfl)) ?_; clear HF; clear a; intro a HF
        refine wl_y rfl HF rfl rfl (yl_addI rfl (HF.ev rfl) (HF.ev rfl) (i64w (by omega))) ?_; clear HF; clear a; intro a HF
        refine wl_y rfl HF rfl rfl (yl_assign rfl (HF.ev rfl)) ?_; clear HF; clear a; intro a HF
        refine wpList_nil ?_
        refine ex_then ?_
        have hp : likeB st text k = false := by unfold likeB; rw [cc2, cc3]; rfl
        exact ⟨k + 1, ⟨⟨by omega, find_step (by omega) hp hf rfl⟩, HF.less _ ⟨rfl, rfl, rfl, trivial⟩, HS.out⟩, (by omega)⟩
    · clear HF; have HF := HF1; clear HF1
      refine wq_skip HF rfl rfl rfl rfl rfl rfl ?_; clear HF; clear a; intro a HF
      refine wq_skip HF rfl rfl rfl rfl rfl rfl ?_; clear HF; clear a; intro a HF
      refine wq_skip HF rfl rfl rfl rfl rfl rfl ?_; clear HF; clear a; intro a HF
      refine wq_skip HF rfl rfl rfl rfl rfl rfl ?_; clear HF; clear a; intro a HF
      refine wq_skip HF rfl rfl rfl rfl rfl rfl ?_; clear HF; clear a; intro a HF
      refine wq_skip HF rfl rfl rfl rfl rfl rfl ?_; clear HF; clear a; intro a HF
      refine wq_skip HF rfl rfl rfl rfl rfl rfl ?_; clear HF; clear a; intro a HF
      refine wq_skip HF rfl rfl rfl rfl rfl rfl ?_; clear HF; clear a; intro a HF
      refine wq_skip HF rfl rfl rfl rfl rfl rfl ?_; clear HF; clear a; intro a HF
      refine wq_y rfl HF rfl rfl (fun _ HS => (yl_pick_f rfl (HF.ev rfl) (HF.ev rfl))) ?_; clear HF; clear a; intro a HF
      refine wq_y rfl HF rfl rfl (fun _ HS => (yl_move rfl (HF.ev rfl))) ?_; clear HF; clear a; intro a HF
      refine wq_skip HF rfl rfl rfl rfl rfl rfl ?_; clear HF; clear a; intro a HF
      refine wq_skip HF rfl rfl rfl rfl rfl rfl ?_; clear HF; clear a; intro a HF
      refine wq_skip HF rfl rfl rfl rfl rfl rfl ?_; clear HF; clear a; intro a HF
      refine wq_skip HF rfl rfl rfl rfl rfl rfl ?_; clear HF; clear a; intro a HF
      refine wq_skip HF rfl rfl rfl rfl rfl rfl ?_; clear HF; clear a; intro a HF
      refine wq_skip HF rfl rfl rfl rfl rfl rfl ?_; clear HF; clear a; intro a HF
      refine wq_skip HF rfl rfl rfl rfl rfl rfl ?_; clear HF; clear a; intro a HF
      refine wq_skip HF rfl rfl rfl rfl rfl rfl ?_; clear HF; clear a; intro a HF
      refine wq_skip HF rfl rfl rfl rfl rfl rfl ?_; clear HF; clear a; intro a HF
      refine wq_y rfl HF rfl rfl (fun _ HS => (yl_pick_f rfl (HF.ev rfl) (HF.ev rfl))) ?_; clear HF; clear a; intro a HF
      refine wpQuiet_nil ?_; intro w5 HS; replace HS := Bx.mk HS
      refine ex_then ?_
      refine wc_false HF rfl ?_
      refine wp_skip ?_
      refine ex_block ?_
      refine ex_then ?_
      refine wp_region_lit ?_
      refine wl_y rfl HF rfl rfl (yl_move rfl (HF.ev rfl)) ?_; clear HF; clear a; intro a HF
      refine wl_y rfl HF rfl rfl (yl_addI rfl (HF.ev rfl) (HF.ev rfl) (i64w (by omega))) ?_; clear HF; clear a; intro a HF
      refine wl_y rfl HF rfl rfl (yl_assign rfl (HF.ev rfl)) ?_; clear HF; clear a; intro a HF
      refine wpList_nil ?_
      refine ex_then ?_
      have hp : likeB st text k = false := by unfold likeB; rw [cc2]; rfl
      exact ⟨k + 1, ⟨⟨by omega, find_step (by omega) hp hf rfl⟩, HF.less _ ⟨rfl, rfl, rfl, trivial⟩, HS.out⟩, (by omega)⟩
  · clear HF; have HF := HF1; clear HF1
    have cc1 := of_decide_eq_false cc1
    refine wc_false HF rfl ?_
    refine wp_exit ?_
    refine ex_then_exit ?_
    refine ex_then_exit ?_
    refine ex_block_hit ?_
    refine ex_then ?_
    refine wp_seq ?_
    refine wp_region_lit ?_
    refine wl_y rfl HF rfl rfl (yl_assign rfl (HF.ev rfl)) ?_; clear HF; clear a; intro a HF
    refine wpList_nil ?_
    refine ex_then ?_
    refine wp_ret ?_
    refine bp_ret1 HF Try.results137 (HF.res rfl) ?_
    have he : likeR st text = -1 := by unfold likeR; rw [find_end (by omega) hf]; rfl
    exact ⟨by rw [he], HS.out.bel⟩

set_option maxHeartbeats 2000000 in
set_option maxRecDepth 100000 in
theorem l5In_any (ao : Option Addr) (cap : Nat) (xs : List Int) (n : Int) (w0 : World) (hr : Rd encI 1 w0 ao xs.length xs) (hl : xs.length ≤ 9223372036854775806) : Calls Try.prog 164 #[.slice ao xs.length cap, .int .i64 n] w0 fun e w' => e = .returned (.bool (inL xs n)) ∧ Below w0.heap.size w0 w' := by
  obtain ⟨g0, o0, r0⟩ := hr.opn
  have R0 := Bx.mk r0
  clear r0
  have HS := Bx.mk (St.start w0)
  refine wc_enter Try.func164 rfl Try.ntmps164 [(0, .slice ao xs.length cap), (1, .int .i64 n)] ⟨rfl, rfl, trivial⟩ rfl ?_; intro a HF
  refine wp_seq ?_
  refine wp_region_lit ?_
  refine wl_y rfl HF rfl rfl (yl_assign rfl (HF.ev rfl)) ?_; clear HF; clear a; intro a HF
  refine wpList_nil ?_
  refine ex_then ?_
  refine wp_seq ?_
  refine wp_seq ?_
  refine wp_region_lit ?_
  refine wl_y rfl HF rfl rfl (yl_assign rfl (HF.ev rfl)) ?_; clear HF; clear a; intro a HF
  refine wpList_nil ?_
  refine ex_then ?_
  refine wp_block ?_
  refine wc_loop (ι := Nat) (fun k a w => (k ≤ xs.length ∧ (xs.take k).any (· == n) = false) ∧ Fr 18 a [(0, .slice ao xs.length cap), (1, .int .i64 n), (5, .int .i64 (k : Int))] ∧ St w0 ([]) w) (fun k => xs.length - k) 0 ⟨⟨Nat.zero_le _, rfl⟩, HF.less _ ⟨rfl, rfl, rfl, trivial⟩, HS.out⟩ ?_
  clear HF HS; clear a
  rintro k a w1 ⟨⟨hk, hf⟩, HF, HS⟩
  replace HS := Bx.mk HS
  refine wp_seq ?_
  refine wp_seq ?_
  refine wp_region_lit ?_
  refine wl_y rfl HF rfl rfl (yl_move rfl (HF.ev rfl)) ?_; clear HF; clear a; intro a HF
  refine wl_y rfl HF rfl rfl (yl_move rfl (HF.ev rfl)) ?_; clear HF; clear a; intro a HF
  refine wl_y rfl HF rfl rfl (yl_lenL (e := 3) (size := 1) rfl (HF.ev rfl) (by kernel_rfl)) ?_; clear HF; clear a; intro a HF
  refine wl_y rfl HF rfl rfl (yl_lssI rfl (HF.ev rfl) (HF.ev rfl)) ?_; clear HF; clear a; intro a HF
  refine wpList_nil ?_
  refine ex_then ?_
  refine HF.cases 9 rfl (fun cc1 HF1 => ?_) (fun cc1 HF1 => ?_)
  · clear HF; have HF := HF1; clear HF1
    have cc1 := of_decide_eq_true cc1
    refine wc_true HF rfl ?_
    refine wp_skip ?_
    refine ex_then ?_
    refine wp_seq ?_
    refine wp_block ?_
    refine wp_seq ?_
    refine wp_region_lit ?_
    refine wl_y rfl HF rfl rfl (yl_move rfl (HF.ev rfl)) ?_; clear HF; clear a; intro a HF
    refine wl_y rfl HF rfl rfl (yl_move rfl (HF.ev rfl)) ?_; clear HF; clear a; intro a HF
    refine wl_y rfl HF rfl rfl (yl_indexAddrR (e := 3) (i := k) (size := 1) rfl (HF.ev rfl) (HF.ev rfl) (by kernel_rfl) rfl (by omega) (R0.out.ao k (by omega))) ?_; clear HF; clear a; intro a HF
    refine wl_y rfl HF rfl rfl (yl_load (v := .int .i64 (xs.getD k 0)) rfl (HF.ev rfl) (R0.out.elem1 HS.out (get_getD (xs := xs) (j := k) (d := 0) (by omega)) rfl) (by kernel_rfl)) ?_; clear HF; clear a; intro a HF
    refine wl_y rfl HF rfl rfl (yl_move rfl (HF.ev rfl)) ?_; clear HF; clear a; intro a HF
    refine wl_y rfl HF rfl rfl (yl_eqlI rfl (HF.ev rfl) (HF.ev rfl)) ?_; clear HF; clear a; intro a HF
    refine wpList_nil ?_
    refine ex_then ?_
    refine HF.cases 17 rfl (fun cc2 HF1 => ?_) (fun cc2 HF1 => ?_)
    · clear HF; have HF := HF1; clear HF1
      refine wc_true HF rfl ?_
      refine wp_seq ?_
      refine wp_region_lit ?_
      refine wl_y rfl HF rfl rfl (yl_assign rfl (HF.ev rfl)) ?_; clear HF; clear a; intro a HF
      refine wpList_nil ?_
      refine ex_then ?_
      refine wp_ret ?_
      refine ex_block_ret ?_
      refine ex_then_ret ?_
      refine ex_then_ret ?_
      refine ex_block_ret ?_
      refine ex_then_ret ?_
      refine bp_ret1 HF Try.results164 (HF.res rfl) ?_
      exact ⟨by rw [inL_here (by omega) cc2], HS.out.bel⟩
    · clear HF; have HF := HF1; clear HF1
      refine wc_false HF rfl ?_
      refine wp_skip ?_
      refine ex_block ?_
      refine ex_then ?_
      refine wp_region_lit ?_
      refine wl_y rfl HF rfl rfl (yl_move rfl (HF.ev rfl)) ?_; clear HF; clear a; intro a HF
      refine wl_y rfl HF rfl rfl (yl_addI rfl (HF.ev rfl) (HF.ev rfl) (i64w (by omega))) ?_; clear HF; clear a; intro a HF
      refine wl_y rfl HF rfl rfl (yl_assign rfl (HF.ev rfl)) ?_; clear HF; clear a; intro a HF
      refine wpList_nil ?_
      refine ex_then ?_
      exact ⟨k + 1, ⟨⟨by omega, inL_step (by omega) cc2 hf⟩, HF.less _ ⟨rfl, rfl, rfl, trivial⟩, HS.out⟩, (by omega)⟩
  · clear HF; have HF := HF1; clear HF1
    have cc1 := of_decide_eq_false cc1
    refine wc_false HF rfl ?_
    refine wp_exit ?_
    refine ex_then_exit ?_
    refine ex_then_exit ?_
    refine ex_block_hit ?_
    refine ex_then ?_
    refine wp_seq ?_
    refine wp_region_lit ?_
    refine wl_y rfl HF rfl rfl (yl_assign rfl (HF.ev rfl)) ?_; clear HF; clear a; intro a HF
    refine wpList_nil ?_
    refine ex_then ?_
    refine wp_ret ?_
    refine bp_ret1 HF Try.results164 (HF.res rfl) ?_
    exact ⟨by rw [inL_end (by omega) hf], HS.out.bel⟩

set_option maxHeartbeats 2000000 in
set_option maxRecDepth 100000 in
theorem l5Find_any (ao a2 a3 : Option Addr) (cap n2 c2 c3 : Nat) (s : SpaceD) (w0 : World) (hr : Rd encI 1 w0 ao s.fRefs.length s.fRefs) (hl : s.fRefs.length = 64) : Calls Try.prog 138 #[.agg #[.slice ao s.fRefs.length cap, .slice a2 n2 c2], .int .i64 8, .slice a3 0 c3] w0 fun e w' => e = .returned (.int .i64 (freeR s)) ∧ Below w0.heap.size w0 w' := by
  obtain ⟨g0, o0, r0⟩ := hr.opn
  have R0 := Bx.mk r0
  clear r0
  have HS := Bx.mk (St.start w0)
  refine wc_enter Try.func138 rfl Try.ntmps138 [(0, .agg #[.slice ao s.fRefs.length cap, .slice a2 n2 c2]), (1, .int .i64 8), (2, .slice a3 0 c3)] ⟨rfl, rfl, rfl, trivial⟩ rfl ?_; intro a HF
  refine wp_seq ?_
  refine wp_region_lit ?_
  refine wl_box rfl HF rfl (HF.ev rfl) (Z := [.slice ao s.fRefs.length cap, .slice a2 n2 c2]) rfl rfl rfl rfl HS.out ?_; clear HF HS; clear a; intro a w1 b1 HF HS; replace HS := Bx.mk HS
  refine wl_y rfl HF rfl rfl (yl_assign rfl (HF.ev rfl)) ?_; clear HF; clear a; intro a HF
  refine wpList_nil ?_
  refine ex_then ?_
  refine wp_seq ?_
  refine wp_seq ?_
  refine wp_region_lit ?_
  refine wl_y rfl HF rfl rfl (yl_move rfl (HF.ev rfl)) ?_; clear HF; clear a; intro a HF
  refine wl_callB rfl HF rfl (enter_of Try.func52 (by kernel_rfl) rfl) (args := #[.int .i64 8]) rfl (v := .bool (inB 8 8 63)) (((l2Row_any 8 _).mono fun _ _ h => ⟨h.1, h.2 ▸ Below.refl _ _⟩)) rfl rfl HS.out ?_; clear HF HS; clear a; intro w2 a HS HF; replace HS := Bx.mk HS
  refine wl_y rfl HF rfl rfl (yl_not rfl (HF.ev rfl)) ?_; clear HF; clear a; intro a HF
  refine wpList_nil ?_
  refine ex_then ?_
  refine HF.cases 12 rfl (fun cc1 HF1 => ?_) (fun cc1 HF1 => ?_)
  · clear HF; have HF := HF1; clear HF1
    exact absurd cc1 (by decide)
  · clear HF; have HF := HF1; clear HF1
    refine wc_false HF rfl ?_
    refine wp_skip ?_
    refine ex_then ?_
    refine wp_seq ?_
    refine wp_region_lit ?_
    refine wl_y rfl HF rfl rfl (yl_assign rfl (HF.ev rfl)) ?_; clear HF; clear a; intro a HF
    refine wpList_nil ?_
    refine ex_then ?_
    refine wp_seq ?_
    refine wp_seq ?_
    refine wp_region_lit ?_
    refine wl_y rfl HF rfl rfl (yl_assign rfl (HF.ev rfl)) ?_; clear HF; clear a; intro a HF
    refine wpList_nil ?_
    refine ex_then ?_
    refine wp_block ?_
    refine wc_loop (ι := Nat) (fun i a w => (i ≤ 56 ∧ findUp (freeB s) 56 8 = findUp (freeB s) (56 - i) (8 + i)) ∧ Fr 38 a [(1, .int .i64 8), (2, .slice a3 0 c3), (3, .pointer (some ⟨b1, 0, none⟩)), (7, .int .i64 56), (8, .int .i64 (i : Int))] ∧ St w0 ([boxA b1 2 62 (.agg #[.slice ao s.fRefs.length cap, .slice a2 n2 c2])]) w) (fun i => 56 - i) 0 ⟨⟨Nat.zero_le _, rfl⟩, HF.less _ ⟨rfl, rfl, rfl, rfl, rfl, trivial⟩, HS.out⟩ ?_
    clear HF HS; clear a
    rintro i a w3 ⟨⟨hk, hf⟩, HF, HS⟩
    replace HS := Bx.mk HS
    refine wp_seq ?_
    refine wp_seq ?_
    refine wp_region_lit ?_
    refine wl_y rfl HF rfl rfl (yl_move rfl (HF.ev rfl)) ?_; clear HF; clear a; intro a HF
    refine wl_y rfl HF rfl rfl (yl_move rfl (HF.ev rfl)) ?_; clear HF; clear a; intro a HF
    refine wl_y rfl HF rfl rfl (yl_lssI rfl (HF.ev rfl) (HF.ev rfl)) ?_; clear HF; clear a; intro a HF
    refine wpList_nil ?_
    refine ex_then ?_
    refine HF.cases 15 rfl (fun cc2 HF1 => ?_) (fun cc2 HF1 => ?_)
    · clear HF; have HF := HF1; clear HF1
      have cc2 := of_decide_eq_true cc2
      refine wc_true HF rfl ?_
      refine wp_skip ?_
      refine ex_then ?_
      refine wp_seq ?_
      refine wp_block ?_
      refine wp_seq ?_
      refine wp_region_lit ?_
      refine wl_y rfl HF rfl rfl (yl_move rfl (HF.ev rfl)) ?_; clear HF; clear a; intro a HF
      refine wl_y rfl HF rfl rfl (yl_subI rfl (HF.ev rfl) (HF.ev rfl) (i64w (by omega))) ?_; clear HF; clear a; intro a HF
      refine wl_y rfl HF rfl rfl (yl_move rfl (HF.ev rfl)) ?_; clear HF; clear a; intro a HF
      refine wl_y rfl HF rfl rfl (yl_addI rfl (HF.ev rfl) (HF.ev rfl) (i64w (by omega))) ?_; clear HF; clear a; intro a HF
      refine wl_y rfl HF rfl rfl (yl_move rfl (HF.ev rfl)) ?_; clear HF; clear a; intro a HF
      refine wl_y rfl HF rfl rfl (yl_remI rfl (HF.ev rfl) (HF.ev rfl) (by omega) (rem_pos (by omega) (by omega))) ?_; clear HF; clear a; intro a HF
      refine wl_y rfl HF rfl rfl (yl_addI (r := ((8 + i : Nat) : Int)) rfl (HF.ev rfl) (HF.ev rfl) ((i64w (by omega)).trans (by omega))) ?_; clear HF; clear a; intro a HF
      refine wl_y rfl HF rfl rfl (yl_assign rfl (HF.ev rfl)) ?_; clear HF; clear a; intro a HF
      refine wpList_nil ?_
      refine ex_then ?_
      refine wp_seq ?_
      refine wp_region_lit ?_
      refine wl_y rfl HF rfl rfl (yl_fieldAddr (j := 0) rfl (HF.ev rfl) (by kernel_rfl)) ?_; clear HF; clear a; intro a HF
      refine wl_y rfl HF rfl rfl (yl_load (v := .slice ao s.fRefs.length cap) rfl (HF.ev rfl) (((HS.out.box 0 rfl).cell 0).trans rfl) (by kernel_rfl)) ?_; clear HF; clear a; intro a HF
      refine wl_y rfl HF rfl rfl (yl_move rfl (HF.ev rfl)) ?_; clear HF; clear a; intro a HF
      refine wl_y rfl HF rfl rfl (yl_indexAddrR (e := 3) (i := 8 + i) (size := 1) rfl (HF.ev rfl) (HF.ev rfl) (by kernel_rfl) rfl (by omega) (R0.out.ao (8 + i) (by omega))) ?_; clear HF; clear a; intro a HF
      refine wl_y rfl HF rfl rfl (yl_load (v := .int .i64 (s.fRefs.getD (8 + i) 0)) rfl (HF.ev rfl) (R0.out.elem1 HS.out (get_getD (xs := s.fRefs) (j := 8 + i) (d := 0) (by omega)) rfl) (by kernel_rfl)) ?_; clear HF; clear a; intro a HF
      refine wl_y rfl HF rfl rfl (yl_eqlI rfl (HF.ev rfl) (HF.ev rfl)) ?_; clear HF; clear a; intro a HF
      refine wl_y rfl HF rfl rfl (yl_move rfl (HF.ev rfl)) ?_; clear HF; clear a; intro a HF
      refine HF.cases 31 rfl (fun cc3 HF1 => ?_) (fun cc3 HF1 => ?_)
      · clear HF; have HF := HF1; clear HF1
        refine wl_yg HF rfl rfl rfl rfl rfl (yl_move rfl (HF.ev rfl)) ?_; clear HF; clear a; intro a HF
        refine wl_yg HF rfl rfl rfl rfl rfl (yl_move rfl (HF.ev rfl)) ?_; clear HF; clear a; intro a HF
        refine wl_callBg HF rfl rfl rfl rfl (enter_of Try.func164 (by kernel_rfl) rfl) (args := #[.slice a3 0 c3, .int .i64 ((8 + i : Nat) : Int)]) rfl (v := .bool (inL [] ((8 + i : Nat) : Int))) (l5In_any _ _ ([] : List Int) ((8 + i : Nat) : Int) _ ⟨rfl, fun i hi => absurd hi (Nat.not_lt_zero _)⟩ (by simp)) rfl rfl HS.out ?_; clear HF HS; clear a; intro w4 a HS HF; replace HS := Bx.mk HS
        refine wl_yg HF rfl rfl rfl rfl rfl (yl_not rfl (HF.ev rfl)) ?_; clear HF; clear a; intro a HF
        refine wl_y rfl HF rfl rfl (yl_pick_t rfl (HF.ev rfl) (HF.ev rfl)) ?_; clear HF; clear a; intro a HF
        refine wpList_nil ?_
        refine ex_then ?_
        refine HF.cases 36 rfl (fun cc4 HF1 => ?_) (fun cc4 HF1 => ?_)
        · clear HF; have HF := HF1; clear HF1
          refine wc_true HF rfl ?_
          refine wp_seq ?_
          refine wp_region_lit ?_
          refine wl_y rfl HF rfl rfl (yl_move rfl (HF.ev rfl)) ?_; clear HF; clear a; intro a HF
          refine wl_y rfl HF rfl rfl (yl_assign rfl (HF.ev rfl)) ?_; clear HF; clear a; intro a HF
          refine wpList_nil ?_
          refine ex_then ?_
          refine wp_ret ?_
          refine ex_block_ret ?_
          refine ex_then_ret ?_
          refine ex_then_ret ?_
          refine ex_block_ret ?_
          refine ex_then_ret ?_
          refine bp_ret1 HF Try.results138 (HF.res rfl) ?_
          have hp : freeB s (8 + i) = true := cc3
          exact ⟨by rw [show freeR s = ((8 + i : Nat) : Int) by unfold freeR; rw [hf, show 56 - i = (55 - i) + 1 by omega, findUp_yes hp]; exact atOr_lt (by omega)], HS.out.bel⟩
        · clear HF; have HF := HF1; clear HF1
          refine wc_false HF rfl ?_
          refine wp_skip ?_
          refine ex_block ?_
          refine ex_then ?_
          refine wp_region_lit ?_
          refine wl_y rfl HF rfl rfl (yl_move rfl (HF.ev rfl)) ?_; clear HF; clear a; intro a HF
          refine wl_y rfl HF rfl rfl (yl_addI rfl (HF.ev rfl) (HF.ev rfl) (i64w (by omega))) ?_; clear HF; clear a; intro a HF
          refine wl_y rfl HF rfl rfl (yl_assign rfl (HF.ev rfl)) ?_; clear HF; clear a; intro a HF
          refine wpList_nil ?_
          refine ex_then ?_
          have hp : freeB s (8 + i) = false := by unfold freeB; first | exact cc3 | (exfalso; simp [inL] at cc4)
          exact ⟨i + 1, ⟨⟨by omega, by rw [hf, show 56 - i = (56 - (i + 1)) + 1 by omega, findUp_no hp]; rfl⟩, HF.less _ ⟨rfl, rfl, rfl, rfl, rfl, trivial⟩, HS.out⟩, (by omega)⟩
      · clear HF; have HF := HF1; clear HF1
        refine wl_skip HF rfl rfl rfl rfl rfl rfl ?_; clear HF; clear a; intro a HF
        refine wl_skip HF rfl rfl rfl rfl rfl rfl ?_; clear HF; clear a; intro a HF
        refine wl_skip HF rfl rfl rfl rfl rfl rfl ?_; clear HF; clear a; intro a HF
        refine wl_skip HF rfl rfl rfl rfl rfl rfl ?_; clear HF; clear a; intro a HF
        refine wl_y rfl HF rfl rfl (yl_pick_f rfl (HF.ev rfl) (HF.ev rfl)) ?_; clear HF; clear a; intro a HF
        refine wpList_nil ?_
        refine ex_then ?_
        refine wc_false HF rfl ?_
        refine wp_skip ?_
        refine ex_block ?_
        refine ex_then ?_
        refine wp_region_lit ?_
        refine wl_y rfl HF rfl rfl (yl_move rfl (HF.ev rfl)) ?_; clear HF; clear a; intro a HF
        refine wl_y rfl HF rfl rfl (yl_addI rfl (HF.ev rfl) (HF.ev rfl) (i64w (by omega))) ?_; clear HF; clear a; intro a HF
        refine wl_y rfl HF rfl rfl (yl_assign rfl (HF.ev rfl)) ?_; clear HF; clear a; intro a HF
        refine wpList_nil ?_
        refine ex_then ?_
        have hp : freeB s (8 + i) = false := by unfold freeB; first | exact cc3 | (exfalso; simp [inL] at cc3)
        exact ⟨i + 1, ⟨⟨by omega, by rw [hf, show 56 - i = (56 - (i + 1)) + 1 by omega, findUp_no hp]; rfl⟩, HF.less _ ⟨rfl, rfl, rfl, rfl, rfl, trivial⟩, HS.out⟩, (by omega)⟩
    · clear HF; have HF := HF1; clear HF1
      have cc2 := of_decide_eq_false cc2
      refine wc_false HF rfl ?_
      refine wp_exit ?_
      refine ex_then_exit ?_
      refine ex_then_exit ?_
      refine ex_block_hit ?_
      refine ex_then ?_
      refine wp_seq ?_
      refine wp_region_lit ?_
      refine wl_y rfl HF rfl rfl (yl_assign rfl (HF.ev rfl)) ?_; clear HF; clear a; intro a HF
      refine wpList_nil ?_
      refine ex_then ?_
      refine wp_ret ?_
      refine bp_ret1 HF Try.results138 (HF.res rfl) ?_
      exact ⟨by rw [show freeR s = -1 by unfold freeR; rw [hf, show 56 - i = 0 by omega, show i = 56 by omega]; rfl], HS.out.bel⟩

/-- What the program's write leaves: nothing but a zero pointer, or a row more. -/
def WriteI (w0 : World) (b : Nat) (st : StoreD) (text : ByteArray) (level : Int) (a0 : Option Addr) (c0 : Nat) (a1 : Option Addr) (c1 : Nat) (a2 : Option Addr) (c2 : Nat) (a4 : Option Addr) (c4 : Nat) (a6 : Option Addr) (c6 : Nat) (F : List Asr) (e : Ending) (w' : World) : Prop :=
  (writeAt st text level = 64 ∧ e = .returned (.tuple #[.agg #[.int .i64 0, .int .i64 0, .int .i64 0, .int .i64 0, .int .i64 0], .bool false]) ∧ St w0 (boxA b 8 65 (.agg #[.slice a0 st.fRows.length c0, .slice a1 st.fSpace.fRefs.length c1, .slice a2 st.fSpace.fLast.length c2, .int .i64 st.fTxg, .slice a4 st.fGone.length c4, .int .i64 st.fKeep, .slice a6 st.fDead.length c6, .bool st.fSame]) :: rowA encS 1 9 (.slice a0 st.fRows.length c0) st.fRows :: rowA encI 1 3 (.slice a1 st.fSpace.fRefs.length c1) st.fSpace.fRefs :: rowA encI 1 3 (.slice a2 st.fSpace.fLast.length c2) st.fSpace.fLast :: F) w') ∨
  (∃ i : Nat, i < 64 ∧ writeAt st text level = i ∧ e = .returned (.tuple #[.agg #[.int .i64 (ptrOf (i : Int) st.fTxg level text).fAt, .int .i64 (ptrOf (i : Int) st.fTxg level text).fBirth, .int .i64 (ptrOf (i : Int) st.fTxg level text).fSize, .int .i64 (ptrOf (i : Int) st.fTxg level text).fSum, .int .i64 (ptrOf (i : Int) st.fTxg level text).fLevel], .bool (ptrOk (i : Int) st.fTxg level text)]) ∧
    ((likeAt st text level < 64 ∧ St w0 (boxA b 8 65 (.agg #[.slice a0 st.fRows.length c0, .slice a1 st.fSpace.fRefs.length c1, .slice a2 st.fSpace.fLast.length c2, .int .i64 st.fTxg, .slice a4 st.fGone.length c4, .int .i64 st.fKeep, .slice a6 st.fDead.length c6, .bool st.fSame]) :: rowA encS 1 9 (.slice a0 st.fRows.length c0) st.fRows :: rowA encI 1 3 (.slice a1 st.fSpace.fRefs.length c1) (st.fSpace.fRefs.set i (st.fSpace.fRefs.getD i 0 + 1)) :: rowA encI 1 3 (.slice a2 st.fSpace.fLast.length c2) (st.fSpace.fLast.set i st.fTxg) :: F) w') ∨ (¬ likeAt st text level < 64 ∧ St w0 (boxA b 8 65 (.agg #[.slice a0 st.fRows.length c0, .slice a1 st.fSpace.fRefs.length c1, .slice a2 st.fSpace.fLast.length c2, .int .i64 st.fTxg, .slice a4 st.fGone.length c4, .int .i64 st.fKeep, .slice a6 st.fDead.length c6, .bool st.fSame]) :: rowA encS 1 9 (.slice a0 st.fRows.length c0) (st.fRows.set i text) :: rowA encI 1 3 (.slice a1 st.fSpace.fRefs.length c1) (st.fSpace.fRefs.set i (st.fSpace.fRefs.getD i 0 + 1)) :: rowA encI 1 3 (.slice a2 st.fSpace.fLast.length c2) (st.fSpace.fLast.set i st.fTxg) :: F) w')))

set_option maxHeartbeats 2000000 in
set_option maxRecDepth 100000 in
theorem write_any (w0 w : World) (b : Nat) (a0 : Option Addr) (c0 : Nat) (a1 : Option Addr) (c1 : Nat) (a2 : Option Addr) (c2 : Nat) (a4 : Option Addr) (c4 : Nat) (a6 : Option Addr) (c6 : Nat) (st : StoreD) (text : ByteArray) (level : Int) (F : List Asr) (hS : St w0 (boxA b 8 65 (.agg #[.slice a0 st.fRows.length c0, .slice a1 st.fSpace.fRefs.length c1, .slice a2 st.fSpace.fLast.length c2, .int .i64 st.fTxg, .slice a4 st.fGone.length c4, .int .i64 st.fKeep, .slice a6 st.fDead.length c6, .bool st.fSame]) :: rowA encS 1 9 (.slice a0 st.fRows.length c0) st.fRows :: rowA encI 1 3 (.slice a1 st.fSpace.fRefs.length c1) st.fSpace.fRefs :: rowA encI 1 3 (.slice a2 st.fSpace.fLast.length c2) st.fSpace.fLast :: F) w) (h0 : st.fRows.length = 64) (h1 : st.fSpace.fRefs.length = 64) (h2 : st.fSpace.fLast.length = 64) (hs : text.size ≤ 9223372036854775806) (hr : ∀ i, 0 ≤ st.fSpace.fRefs.getD i 0 ∧ st.fSpace.fRefs.getD i 0 ≤ 900) : Calls Try.prog 90 #[.pointer (some ⟨b, 0, none⟩), .string text, .int .i64 level] w (WriteI w0 b st text level a0 c0 a1 c1 a2 c2 a4 c4 a6 c6 F) := by
  obtain ⟨g0, rfl, _, _, _, _⟩ := hS.rowOpen 1 rfl (by omega)
  obtain ⟨g1, rfl, _, _, _, _⟩ := hS.rowOpen 2 rfl (by omega)
  obtain ⟨g2, rfl, _, _, _, _⟩ := hS.rowOpen 3 rfl (by omega)
  have HS := Bx.mk hS
  clear hS
  refine wc_enter Try.func90 rfl Try.ntmps90 [(0, .pointer (some ⟨b, 0, none⟩)), (1, .string text), (2, .int .i64 level)] ⟨rfl, rfl, rfl, trivial⟩ rfl ?_; intro a HF
  refine wp_seq ?_
  refine wp_region_lit ?_
  refine wl_alloc rfl HF rfl rfl rfl (Z := [.int .i64 0, .int .i64 0, .int .i64 0, .int .i64 0, .int .i64 0]) (by kernel_rfl) rfl HS.out ?_; clear HF HS; clear a; intro a w1 b1 HF HS; replace HS := Bx.mk HS
  refine wl_y rfl HF rfl rfl (yl_assign rfl (HF.ev rfl)) ?_; clear HF; clear a; intro a HF
  refine wpList_nil ?_
  refine ex_then ?_
  refine wp_seq ?_
  refine wp_region_lit ?_
  refine wl_y rfl HF rfl rfl (yl_assign rfl (HF.ev rfl)) ?_; clear HF; clear a; intro a HF
  refine wpList_nil ?_
  refine ex_then ?_
  refine wp_seq ?_
  refine wp_seq ?_
  refine wp_region_lit ?_
  refine wl_y rfl HF rfl rfl (yl_move rfl (HF.ev rfl)) ?_; clear HF; clear a; intro a HF
  refine wl_y rfl HF rfl rfl (yl_nilCheck rfl (HF.ev rfl)) ?_; clear HF; clear a; intro a HF
  refine wl_y rfl HF rfl rfl (yl_fieldAddr (j := 7) rfl (HF.ev rfl) (by kernel_rfl)) ?_; clear HF; clear a; intro a HF
  refine wl_y rfl HF rfl rfl (yl_load (v := .bool st.fSame) rfl (HF.ev rfl) (((HS.out.box 1 rfl).cell 7).trans rfl) (by kernel_rfl)) ?_; clear HF; clear a; intro a HF
  refine wl_y rfl HF rfl rfl (yl_move rfl (HF.ev rfl)) ?_; clear HF; clear a; intro a HF
  refine HF.cases 15 rfl (fun cc1 HF1 => ?_) (fun cc1 HF1 => ?_)
  · clear HF; have HF := HF1; clear HF1
    refine wl_yg HF rfl rfl rfl rfl rfl (yl_move rfl (HF.ev rfl)) ?_; clear HF; clear a; intro a HF
    refine wl_yg HF rfl rfl rfl rfl rfl (yl_eqlI rfl (HF.ev rfl) (HF.ev rfl)) ?_; clear HF; clear a; intro a HF
    refine wl_y rfl HF rfl rfl (yl_pick_t rfl (HF.ev rfl) (HF.ev rfl)) ?_; clear HF; clear a; intro a HF
    refine wpList_nil ?_
    refine ex_then ?_
    refine HF.cases 18 rfl (fun cc2 HF1 => ?_) (fun cc2 HF1 => ?_)
    · clear HF; have HF := HF1; clear HF1
      have hsame : (st.fSame && (level == 0)) = true := by rw [cc1, cc2]; rfl
      refine wc_true HF rfl ?_
      refine wp_seq ?_
      refine wp_region_lit ?_
      refine wl_y rfl HF rfl rfl (yl_move rfl (HF.ev rfl)) ?_; clear HF; clear a; intro a HF
      refine wl_y rfl HF rfl rfl (yl_nilCheck rfl (HF.ev rfl)) ?_; clear HF; clear a; intro a HF
      refine wl_y rfl HF rfl rfl (yl_fieldAddr (j := 0) rfl (HF.ev rfl) (by kernel_rfl)) ?_; clear HF; clear a; intro a HF
      refine wl_y rfl HF rfl rfl (yl_load (v := .slice (some ⟨g0, 0, none⟩) st.fRows.length c0) rfl (HF.ev rfl) (((HS.out.box 1 rfl).cell 0).trans rfl) (by kernel_rfl)) ?_; clear HF; clear a; intro a HF
      refine wl_y rfl HF rfl rfl (yl_lenL (e := 9) (size := 1) rfl (HF.ev rfl) (by kernel_rfl)) ?_; clear HF; clear a; intro a HF
      refine wl_y rfl HF rfl rfl (yl_move rfl (HF.ev rfl)) ?_; clear HF; clear a; intro a HF
      refine wpList_nil ?_
      refine ex_then ?_
      refine wp_block ?_
      refine wc_loop (ι := Nat) (fun k a w => (k ≤ 64 ∧ findUp (likeI st text) 64 0 = findUp (likeI st text) (64 - k) k) ∧ Fr 133 a [(0, .pointer (some ⟨b, 0, none⟩)), (1, .string text), (2, .int .i64 level), (6, .pointer (some ⟨b1, 0, none⟩)), (7, .bool false), (8, .int .i64 (-1)), (22, .slice (some ⟨g0, 0, none⟩) st.fRows.length c0), (23, .int .i64 (st.fRows.length : Int)), (24, .int .i64 (k : Int))] ∧ St w0 (boxA b1 5 33 (.agg #[.int .i64 0, .int .i64 0, .int .i64 0, .int .i64 0, .int .i64 0]) :: boxA b 8 65 (.agg #[.slice (some ⟨g0, 0, none⟩) st.fRows.length c0, .slice (some ⟨g1, 0, none⟩) st.fSpace.fRefs.length c1, .slice (some ⟨g2, 0, none⟩) st.fSpace.fLast.length c2, .int .i64 st.fTxg, .slice a4 st.fGone.length c4, .int .i64 st.fKeep, .slice a6 st.fDead.length c6, .bool st.fSame]) :: rowA encS 1 9 (.slice (some ⟨g0, 0, none⟩) st.fRows.length c0) st.fRows :: rowA encI 1 3 (.slice (some ⟨g1, 0, none⟩) st.fSpace.fRefs.length c1) st.fSpace.fRefs :: rowA encI 1 3 (.slice (some ⟨g2, 0, none⟩) st.fSpace.fLast.length c2) st.fSpace.fLast :: F) w) (fun k => 64 - k) 0 ⟨⟨Nat.zero_le _, rfl⟩, HF.less _ ⟨rfl, rfl, rfl, rfl, rfl, rfl, rfl, rfl, rfl, trivial⟩, HS.out⟩ ?_
      clear HF HS; clear a
      rintro k a w2 ⟨⟨hk, hf⟩, HF, HS⟩
      replace HS := Bx.mk HS
      refine wp_seq ?_
      refine wp_region_lit ?_
      refine wl_y rfl HF rfl rfl (yl_lssI rfl (HF.ev rfl) (HF.ev rfl)) ?_; clear HF; clear a; intro a HF
      refine wpList_nil ?_
      refine ex_then ?_
      refine wp_seq ?_
      refine HF.cases 25 rfl (fun cc3 HF1 => ?_) (fun cc3 HF1 => ?_)
      · clear HF; have HF := HF1; clear HF1
        have cc3 := of_decide_eq_true cc3
        refine wc_true HF rfl ?_
        refine wp_skip ?_
        refine ex_then ?_
        refine wp_seq ?_
        refine wp_block ?_
        refine wp_seq ?_
        refine wp_region_lit ?_
        refine wl_y rfl HF rfl rfl (yl_move rfl (HF.ev rfl)) ?_; clear HF; clear a; intro a HF
        refine wl_y rfl HF rfl rfl (yl_indexAddr (e := 9) (i := k) (size := 1) rfl (HF.ev rfl) (HF.ev rfl) (by kernel_rfl) rfl (by omega)) ?_; clear HF; clear a; intro a HF
        refine wl_y rfl HF rfl rfl (yl_load (v := .string (st.fRows.getD k ByteArray.empty)) rfl (HF.ev rfl) (HS.out.elem1 encS_len 2 rfl (get_getD (xs := st.fRows) (j := k) (d := ByteArray.empty) (by omega)) rfl) (by kernel_rfl)) ?_; clear HF; clear a; intro a HF
        refine wl_y rfl HF rfl rfl (yl_assign rfl (HF.ev rfl)) ?_; clear HF; clear a; intro a HF
        refine wl_y rfl HF rfl rfl (yl_assign rfl (HF.ev rfl)) ?_; clear HF; clear a; intro a HF
        refine wpList_nil ?_
        refine ex_then ?_
        refine wp_seq ?_
        refine wr_quiet (by kernel_rfl) (by kernel_rfl) HS.out ?_
        refine wq_y rfl HF rfl rfl (fun _ HS => (yl_move rfl (HF.ev rfl))) ?_; clear HF; clear a; intro a HF
        refine wq_y rfl HF rfl rfl (fun _ HS => (yl_nilCheck rfl (HF.ev rfl))) ?_; clear HF; clear a; intro a HF
        refine wq_y rfl HF rfl rfl (fun _ HS => (yl_fieldAddr (j := 1) rfl (HF.ev rfl) (by kernel_rfl))) ?_; clear HF; clear a; intro a HF
        refine wq_y rfl HF rfl rfl (fun _ HS => (yl_fieldAddr (j := 0) rfl (HF.ev rfl) (by kernel_rfl))) ?_; clear HF; clear a; intro a HF
        refine wq_y rfl HF rfl rfl (fun _ HS => (yl_load (v := .slice (some ⟨g1, 0, none⟩) st.fSpace.fRefs.length c1) rfl (HF.ev rfl) (((HS.box 1 rfl).cell 1).trans rfl) (by kernel_rfl))) ?_; clear HF; clear a; intro a HF
        refine wq_y rfl HF rfl rfl (fun _ HS => (yl_move rfl (HF.ev rfl))) ?_; clear HF; clear a; intro a HF
        refine wq_y rfl HF rfl rfl (fun _ HS => (yl_indexAddr (e := 3) (i := k) (size := 1) rfl (HF.ev rfl) (HF.ev rfl) (by kernel_rfl) rfl (by omega))) ?_; clear HF; clear a; intro a HF
        refine wq_y rfl HF rfl rfl (fun _ HS => (yl_load (v := .int .i64 (st.fSpace.fRefs.getD k 0)) rfl (HF.ev rfl) (HS.elem1 encI_len 3 rfl (get_getD (xs := st.fSpace.fRefs) (j := k) (d := 0) (by omega)) rfl) (by kernel_rfl))) ?_; clear HF; clear a; intro a HF
        refine wq_y rfl HF rfl rfl (fun _ HS => (yl_gtrI rfl (HF.ev rfl) (HF.ev rfl))) ?_; clear HF; clear a; intro a HF
        refine wq_y rfl HF rfl rfl (fun _ HS => (yl_move rfl (HF.ev rfl))) ?_; clear HF; clear a; intro a HF
        refine HF.cases 38 rfl (fun cc4 HF1 => ?_) (fun cc4 HF1 => ?_)
        · clear HF; have HF := HF1; clear HF1
          refine wq_yg HF rfl rfl rfl rfl rfl (fun _ HS => (yl_move rfl (HF.ev rfl))) ?_; clear HF; clear a; intro a HF
          refine wq_yg HF rfl rfl rfl rfl rfl (fun _ HS => (yl_move rfl (HF.ev rfl))) ?_; clear HF; clear a; intro a HF
          refine wq_yg HF rfl rfl rfl rfl rfl (fun _ HS => (yl_eqlS rfl (HF.ev rfl) (HF.ev rfl))) ?_; clear HF; clear a; intro a HF
          refine wq_y rfl HF rfl rfl (fun _ HS => (yl_pick_t rfl (HF.ev rfl) (HF.ev rfl))) ?_; clear HF; clear a; intro a HF
          refine wq_y rfl HF rfl rfl (fun _ HS => (yl_move rfl (HF.ev rfl))) ?_; clear HF; clear a; intro a HF
          refine HF.cases 43 rfl (fun cc5 HF1 => ?_) (fun cc5 HF1 => ?_)
          · clear HF; have HF := HF1; clear HF1
            refine wq_yg HF rfl rfl rfl rfl rfl (fun _ HS => (yl_move rfl (HF.ev rfl))) ?_; clear HF; clear a; intro a HF
            refine wq_yg HF rfl rfl rfl rfl rfl (fun _ HS => (yl_nilCheck rfl (HF.ev rfl))) ?_; clear HF; clear a; intro a HF
            refine wq_yg HF rfl rfl rfl rfl rfl (fun _ HS => (yl_fieldAddr (j := 1) rfl (HF.ev rfl) (by kernel_rfl))) ?_; clear HF; clear a; intro a HF
            refine wq_yg HF rfl rfl rfl rfl rfl (fun _ HS => (yl_fieldAddr (j := 1) rfl (HF.ev rfl) (by kernel_rfl))) ?_; clear HF; clear a; intro a HF
            refine wq_yg HF rfl rfl rfl rfl rfl (fun _ HS => (yl_load (v := .slice (some ⟨g2, 0, none⟩) st.fSpace.fLast.length c2) rfl (HF.ev rfl) (((HS.box 1 rfl).cell 2).trans rfl) (by kernel_rfl))) ?_; clear HF; clear a; intro a HF
            refine wq_yg HF rfl rfl rfl rfl rfl (fun _ HS => (yl_move rfl (HF.ev rfl))) ?_; clear HF; clear a; intro a HF
            refine wq_yg HF rfl rfl rfl rfl rfl (fun _ HS => (yl_indexAddr (e := 3) (i := k) (size := 1) rfl (HF.ev rfl) (HF.ev rfl) (by kernel_rfl) rfl (by omega))) ?_; clear HF; clear a; intro a HF
            refine wq_yg HF rfl rfl rfl rfl rfl (fun _ HS => (yl_load (v := .int .i64 (st.fSpace.fLast.getD k 0)) rfl (HF.ev rfl) (HS.elem1 encI_len 4 rfl (get_getD (xs := st.fSpace.fLast) (j := k) (d := 0) (by omega)) rfl) (by kernel_rfl))) ?_; clear HF; clear a; intro a HF
            refine wq_yg HF rfl rfl rfl rfl rfl (fun _ HS => (yl_move rfl (HF.ev rfl))) ?_; clear HF; clear a; intro a HF
            refine wq_yg HF rfl rfl rfl rfl rfl (fun _ HS => (yl_nilCheck rfl (HF.ev rfl))) ?_; clear HF; clear a; intro a HF
            refine wq_yg HF rfl rfl rfl rfl rfl (fun _ HS => (yl_fieldAddr (j := 3) rfl (HF.ev rfl) (by kernel_rfl))) ?_; clear HF; clear a; intro a HF
            refine wq_yg HF rfl rfl rfl rfl rfl (fun _ HS => (yl_load (v := .int .i64 st.fTxg) rfl (HF.ev rfl) (((HS.box 1 rfl).cell 3).trans rfl) (by kernel_rfl))) ?_; clear HF; clear a; intro a HF
            refine wq_yg HF rfl rfl rfl rfl rfl (fun _ HS => (yl_lssI rfl (HF.ev rfl) (HF.ev rfl))) ?_; clear HF; clear a; intro a HF
            refine wq_y rfl HF rfl rfl (fun _ HS => (yl_pick_t rfl (HF.ev rfl) (HF.ev rfl))) ?_; clear HF; clear a; intro a HF
            refine wq_y rfl HF rfl rfl (fun _ HS => (yl_move rfl (HF.ev rfl))) ?_; clear HF; clear a; intro a HF
            refine HF.cases 58 rfl (fun cc6 HF1 => ?_) (fun cc6 HF1 => ?_)
            · clear HF; have HF := HF1; clear HF1
              refine wq_yg HF rfl rfl rfl rfl rfl (fun _ HS => (yl_move rfl (HF.ev rfl))) ?_; clear HF; clear a; intro a HF
              refine wq_yg HF rfl rfl rfl rfl rfl (fun _ HS => (yl_nilCheck rfl (HF.ev rfl))) ?_; clear HF; clear a; intro a HF
              refine wq_yg HF rfl rfl rfl rfl rfl (fun _ HS => (yl_fieldAddr (j := 3) rfl (HF.ev rfl) (by kernel_rfl))) ?_; clear HF; clear a; intro a HF
              refine wq_yg HF rfl rfl rfl rfl rfl (fun _ HS => (yl_load (v := .int .i64 st.fTxg) rfl (HF.ev rfl) (((HS.box 1 rfl).cell 3).trans rfl) (by kernel_rfl))) ?_; clear HF; clear a; intro a HF
              refine wq_yg HF rfl rfl rfl rfl rfl (fun _ HS => (yl_move rfl (HF.ev rfl))) ?_; clear HF; clear a; intro a HF
              refine wq_yg HF rfl rfl rfl rfl rfl (fun _ HS => (yl_nilCheck rfl (HF.ev rfl))) ?_; clear HF; clear a; intro a HF
              refine wq_yg HF rfl rfl rfl rfl rfl (fun _ HS => (yl_fieldAddr (j := 1) rfl (HF.ev rfl) (by kernel_rfl))) ?_; clear HF; clear a; intro a HF
              refine wq_yg HF rfl rfl rfl rfl rfl (fun _ HS => (yl_fieldAddr (j := 0) rfl (HF.ev rfl) (by kernel_rfl))) ?_; clear HF; clear a; intro a HF
              refine wq_yg HF rfl rfl rfl rfl rfl (fun _ HS => (yl_load (v := .slice (some ⟨g1, 0, none⟩) st.fSpace.fRefs.length c1) rfl (HF.ev rfl) (((HS.box 1 rfl).cell 1).trans rfl) (by kernel_rfl))) ?_; clear HF; clear a; intro a HF
              refine wq_yg HF rfl rfl rfl rfl rfl (fun _ HS => (yl_move rfl (HF.ev rfl))) ?_; clear HF; clear a; intro a HF
              refine wq_yg HF rfl rfl rfl rfl rfl (fun _ HS => (yl_indexAddr (e := 3) (i := k) (size := 1) rfl (HF.ev rfl) (HF.ev rfl) (by kernel_rfl) rfl (by omega))) ?_; clear HF; clear a; intro a HF
              refine wq_yg HF rfl rfl rfl rfl rfl (fun _ HS => (yl_load (v := .int .i64 (st.fSpace.fRefs.getD k 0)) rfl (HF.ev rfl) (HS.elem1 encI_len 3 rfl (get_getD (xs := st.fSpace.fRefs) (j := k) (d := 0) (by omega)) rfl) (by kernel_rfl))) ?_; clear HF; clear a; intro a HF
              refine wq_yg HF rfl rfl rfl rfl rfl (fun _ HS => (yl_gtrI rfl (HF.ev rfl) (HF.ev rfl))) ?_; clear HF; clear a; intro a HF
              refine wq_y rfl HF rfl rfl (fun _ HS => (yl_pick_t rfl (HF.ev rfl) (HF.ev rfl))) ?_; clear HF; clear a; intro a HF
              refine wpQuiet_nil ?_; intro w3 HS; replace HS := Bx.mk HS
              refine ex_then ?_
              refine HF.cases 72 rfl (fun cc7 HF1 => ?_) (fun cc7 HF1 => ?_)
              · clear HF; have HF := HF1; clear HF1
                have hp : likeI st text k = true := by unfold likeI; rw [cc4, cc5, cc6, cc7]; rfl
                have hlk : likeAt st text level = k := by unfold likeAt; rw [if_pos hsame, find0_here (by omega) hp hf]
                refine wc_true HF rfl ?_
                refine wp_seq ?_
                refine wp_region_lit ?_
                refine wl_y rfl HF rfl rfl (yl_move rfl (HF.ev rfl)) ?_; clear HF; clear a; intro a HF
                refine wl_y rfl HF rfl rfl (yl_assign rfl (HF.ev rfl)) ?_; clear HF; clear a; intro a HF
                refine wpList_nil ?_
                refine ex_then ?_
                refine wp_exit ?_
                refine ex_block_miss rfl ?_
                refine ex_then_exit ?_
                refine ex_then_exit ?_
                refine ex_block_hit ?_
                refine ex_then ?_
                refine wp_seq ?_
                refine wp_seq ?_
                refine wp_region_lit ?_
                refine wl_y rfl HF rfl rfl (yl_move rfl (HF.ev rfl)) ?_; clear HF; clear a; intro a HF
                refine wl_y rfl HF rfl rfl (yl_lssI rfl (HF.ev rfl) (HF.ev rfl)) ?_; clear HF; clear a; intro a HF
                refine wpList_nil ?_
                refine ex_then ?_
                refine HF.cases 76 rfl (fun cc8 HF1 => ?_) (fun cc8 HF1 => ?_)
                · clear HF; have HF := HF1; clear HF1
                  exact absurd (of_decide_eq_true cc8) (by omega)
                · clear HF; have HF := HF1; clear HF1
                  refine wc_false HF rfl ?_
                  refine wp_skip ?_
                  refine ex_then ?_
                  refine wp_seq ?_
                  have hrb := hr k
                  refine wp_region_lit ?_
                  refine wl_y rfl HF rfl rfl (yl_move rfl (HF.ev rfl)) ?_; clear HF; clear a; intro a HF
                  refine wl_y rfl HF rfl rfl (yl_nilCheck rfl (HF.ev rfl)) ?_; clear HF; clear a; intro a HF
                  refine wl_y rfl HF rfl rfl (yl_fieldAddr (j := 1) rfl (HF.ev rfl) (by kernel_rfl)) ?_; clear HF; clear a; intro a HF
                  refine wl_y rfl HF rfl rfl (yl_fieldAddr (j := 0) rfl (HF.ev rfl) (by kernel_rfl)) ?_; clear HF; clear a; intro a HF
                  refine wl_y rfl HF rfl rfl (yl_load (v := .slice (some ⟨g1, 0, none⟩) st.fSpace.fRefs.length c1) rfl (HF.ev rfl) (((HS.out.box 1 rfl).cell 1).trans rfl) (by kernel_rfl)) ?_; clear HF; clear a; intro a HF
                  refine wl_y rfl HF rfl rfl (yl_move rfl (HF.ev rfl)) ?_; clear HF; clear a; intro a HF
                  refine wl_y rfl HF rfl rfl (yl_indexAddr (e := 3) (i := k) (size := 1) rfl (HF.ev rfl) (HF.ev rfl) (by kernel_rfl) rfl (by omega)) ?_; clear HF; clear a; intro a HF
                  refine wl_y rfl HF rfl rfl (yl_load (v := .int .i64 (st.fSpace.fRefs.getD k 0)) rfl (HF.ev rfl) (HS.out.elem1 encI_len 3 rfl (get_getD (xs := st.fSpace.fRefs) (j := k) (d := 0) (by omega)) rfl) (by kernel_rfl)) ?_; clear HF; clear a; intro a HF
                  refine wl_y rfl HF rfl rfl (yl_addI rfl (HF.ev rfl) (HF.ev rfl) (i64w (by omega))) ?_; clear HF; clear a; intro a HF
                  refine wl_y rfl HF rfl rfl (yl_indexAddr (e := 3) (i := k) (size := 1) rfl (HF.ev rfl) (HF.ev rfl) (by kernel_rfl) rfl (by omega)) ?_; clear HF; clear a; intro a HF
                  refine wl_storeE encI_len rfl rfl rfl (HF.ev rfl) (HF.ev rfl) (by kernel_rfl) HS.out 3 rfl (by omega) (z := ((st.fSpace.fRefs.getD k 0) + 1)) rfl rfl ?_; clear HS; intro w4 HS; replace HS := Bx.mk HS
                  refine wpList_nil ?_
                  refine ex_then ?_
                  refine wp_seq ?_
                  refine wr_tail 11 (by kernel_rfl) (by kernel_rfl) HS.out ?_
                  simp only [List.take_succ_cons, List.take_zero, List.drop_succ_cons, List.drop_zero]
                  intro w5 HS
                  replace HS := Bx.mk HS
                  refine ws_y rfl HF rfl rfl (yl_move rfl (HF.ev rfl)) ?_; clear HF; clear a; intro a HF
                  refine ws_y rfl HF rfl rfl (yl_nilCheck rfl (HF.ev rfl)) ?_; clear HF; clear a; intro a HF
                  refine ws_y rfl HF rfl rfl (yl_fieldAddr (j := 1) rfl (HF.ev rfl) (by kernel_rfl)) ?_; clear HF; clear a; intro a HF
                  refine ws_y rfl HF rfl rfl (yl_fieldAddr (j := 1) rfl (HF.ev rfl) (by kernel_rfl)) ?_; clear HF; clear a; intro a HF
                  refine ws_y rfl HF rfl rfl (yl_load (v := .slice (some ⟨g2, 0, none⟩) st.fSpace.fLast.length c2) rfl (HF.ev rfl) (((HS.out.box 1 rfl).cell 2).trans rfl) (by kernel_rfl)) ?_; clear HF; clear a; intro a HF
                  refine ws_y rfl HF rfl rfl (yl_move rfl (HF.ev rfl)) ?_; clear HF; clear a; intro a HF
                  refine ws_y rfl HF rfl rfl (yl_move rfl (HF.ev rfl)) ?_; clear HF; clear a; intro a HF
                  refine ws_y rfl HF rfl rfl (yl_nilCheck rfl (HF.ev rfl)) ?_; clear HF; clear a; intro a HF
                  refine ws_y rfl HF rfl rfl (yl_fieldAddr (j := 3) rfl (HF.ev rfl) (by kernel_rfl)) ?_; clear HF; clear a; intro a HF
                  refine ws_y rfl HF rfl rfl (yl_load (v := .int .i64 st.fTxg) rfl (HF.ev rfl) (((HS.out.box 1 rfl).cell 3).trans rfl) (by kernel_rfl)) ?_; clear HF; clear a; intro a HF
                  refine ws_y rfl HF rfl rfl (yl_indexAddr (e := 3) (i := k) (size := 1) rfl (HF.ev rfl) (HF.ev rfl) (by kernel_rfl) rfl (by omega)) ?_; clear HF; clear a; intro a HF
                  refine wpStill_nil ?_
                  refine wl_storeE encI_len rfl rfl rfl (HF.ev rfl) (HF.ev rfl) (by kernel_rfl) HS.out 4 rfl (by omega) (z := st.fTxg) rfl rfl ?_; clear HS; intro w6 HS; replace HS := Bx.mk HS
                  refine wpList_nil ?_
                  refine ex_then ?_
                  refine wp_seq ?_
                  refine wp_region_lit ?_
                  refine wl_y rfl HF rfl rfl (yl_move rfl (HF.ev rfl)) ?_; clear HF; clear a; intro a HF
                  refine wl_y rfl HF rfl rfl (yl_move rfl (HF.ev rfl)) ?_; clear HF; clear a; intro a HF
                  refine wl_y rfl HF rfl rfl (yl_nilCheck rfl (HF.ev rfl)) ?_; clear HF; clear a; intro a HF
                  refine wl_y rfl HF rfl rfl (yl_fieldAddr (j := 3) rfl (HF.ev rfl) (by kernel_rfl)) ?_; clear HF; clear a; intro a HF
                  refine wl_y rfl HF rfl rfl (yl_load (v := .int .i64 st.fTxg) rfl (HF.ev rfl) (((HS.out.box 1 rfl).cell 3).trans rfl) (by kernel_rfl)) ?_; clear HF; clear a; intro a HF
                  refine wl_y rfl HF rfl rfl (yl_move rfl (HF.ev rfl)) ?_; clear HF; clear a; intro a HF
                  refine wl_y rfl HF rfl rfl (yl_move rfl (HF.ev rfl)) ?_; clear HF; clear a; intro a HF
                  refine wl_callB rfl HF rfl (enter_of Try.func14 (by kernel_rfl) rfl) (args := #[.int .i64 (k : Int), .int .i64 st.fTxg, .int .i64 level, .string text]) rfl (v := .tuple #[.agg #[.int .i64 ((ptrOf (k : Int) st.fTxg level text).fAt), .int .i64 ((ptrOf (k : Int) st.fTxg level text).fBirth), .int .i64 ((ptrOf (k : Int) st.fTxg level text).fSize), .int .i64 ((ptrOf (k : Int) st.fTxg level text).fSum), .int .i64 ((ptrOf (k : Int) st.fTxg level text).fLevel)], .bool (ptrOk (k : Int) st.fTxg level text)]) (ptrOfI_any (k : Int) st.fTxg level text _ (by omega)) rfl rfl HS.out ?_; clear HF HS; clear a; intro w7 a HS HF; replace HS := Bx.mk HS
                  refine wl_y rfl HF rfl rfl (yl_extract rfl (HF.ev rfl) rfl) ?_; clear HF; clear a; intro a HF
                  refine wl_y rfl HF rfl rfl (yl_extract rfl (HF.ev rfl) rfl) ?_; clear HF; clear a; intro a HF
                  refine wl_storeBox rfl HF rfl rfl (HF.ev rfl) (HF.ev rfl) HS.out 0 rfl (cells_lit [.int .i64 ((ptrOf (k : Int) st.fTxg level text).fAt), .int .i64 ((ptrOf (k : Int) st.fTxg level text).fBirth), .int .i64 ((ptrOf (k : Int) st.fTxg level text).fSize), .int .i64 ((ptrOf (k : Int) st.fTxg level text).fSum), .int .i64 ((ptrOf (k : Int) st.fTxg level text).fLevel)] rfl rfl) (by kernel_rfl) ?_; clear HS; intro w8 HS; replace HS := Bx.mk HS
                  have HS : Bx (St w0 (boxA b1 5 33 (.agg #[.int .i64 ((ptrOf (k : Int) st.fTxg level text).fAt), .int .i64 ((ptrOf (k : Int) st.fTxg level text).fBirth), .int .i64 ((ptrOf (k : Int) st.fTxg level text).fSize), .int .i64 ((ptrOf (k : Int) st.fTxg level text).fSum), .int .i64 ((ptrOf (k : Int) st.fTxg level text).fLevel)]) :: boxA b 8 65 (.agg #[.slice (some ⟨g0, 0, none⟩) st.fRows.length c0, .slice (some ⟨g1, 0, none⟩) st.fSpace.fRefs.length c1, .slice (some ⟨g2, 0, none⟩) st.fSpace.fLast.length c2, .int .i64 st.fTxg, .slice a4 st.fGone.length c4, .int .i64 st.fKeep, .slice a6 st.fDead.length c6, .bool st.fSame]) :: rowA encS 1 9 (.slice (some ⟨g0, 0, none⟩) st.fRows.length c0) st.fRows :: rowA encI 1 3 (.slice (some ⟨g1, 0, none⟩) st.fSpace.fRefs.length c1) (st.fSpace.fRefs.set k ((st.fSpace.fRefs.getD k 0) + 1)) :: rowA encI 1 3 (.slice (some ⟨g2, 0, none⟩) st.fSpace.fLast.length c2) (st.fSpace.fLast.set k st.fTxg) :: F) _) := HS
                  refine wl_y rfl HF rfl rfl (yl_assign rfl (HF.ev rfl)) ?_; clear HF; clear a; intro a HF
                  refine wpList_nil ?_
                  refine ex_then ?_
                  refine wp_ret ?_
                  refine bp_ret2 HF Try.results90 (HF.resBox rfl (HS.out.box 0 rfl) (by kernel_rfl)) (HF.res rfl) ?_
                  exact .inr ⟨k, by omega, by unfold writeAt; rw [if_pos (by omega)]; exact hlk, rfl, .inl ⟨by omega, HS.out.tail⟩⟩
              · clear HF; have HF := HF1; clear HF1
                refine wc_false HF rfl ?_
                refine wp_skip ?_
                refine ex_block ?_
                refine ex_then ?_
                refine wp_region_lit ?_
                refine wl_y rfl HF rfl rfl (yl_addI rfl (HF.ev rfl) (HF.ev rfl) (i64w (by omega))) ?_; clear HF; clear a; intro a HF
                refine wl_y rfl HF rfl rfl (yl_move rfl (HF.ev rfl)) ?_; clear HF; clear a; intro a HF
                refine wpList_nil ?_
                refine ex_then ?_
                have hp : likeI st text k = false := by unfold likeI; rw [cc4, cc5, cc6, cc7]; rfl
                exact ⟨k + 1, ⟨⟨by omega, find0_step (by omega) hp hf⟩, HF.less _ ⟨rfl, rfl, rfl, rfl, rfl, rfl, rfl, rfl, rfl, trivial⟩, HS.out⟩, (by omega)⟩
            · clear HF; have HF := HF1; clear HF1
              refine wq_skip HF rfl rfl rfl rfl rfl rfl ?_; clear HF; clear a; intro a HF
              refine wq_skip HF rfl rfl rfl rfl rfl rfl ?_; clear HF; clear a; intro a HF
              refine wq_skip HF rfl rfl rfl rfl rfl rfl ?_; clear HF; clear a; intro a HF
              refine wq_skip HF rfl rfl rfl rfl rfl rfl ?_; clear HF; clear a; intro a HF
              refine wq_skip HF rfl rfl rfl rfl rfl rfl ?_; clear HF; clear a; intro a HF
              refine wq_skip HF rfl rfl rfl rfl rfl rfl ?_; clear HF; clear a; intro a HF
              refine wq_skip HF rfl rfl rfl rfl rfl rfl ?_; clear HF; clear a; intro a HF
              refine wq_skip HF rfl rfl rfl rfl rfl rfl ?_; clear HF; clear a; intro a HF
              refine wq_skip HF rfl rfl rfl rfl rfl rfl ?_; clear HF; clear a; intro a HF
              refine wq_skip HF rfl rfl rfl rfl rfl rfl ?_; clear HF; clear a; intro a HF
              refine wq_skip HF rfl rfl rfl rfl rfl rfl ?_; clear HF; clear a; intro a HF
              refine wq_skip HF rfl rfl rfl rfl rfl rfl ?_; clear HF; clear a; intro a HF
              refine wq_skip HF rfl rfl rfl rfl rfl rfl ?_; clear HF; clear a; intro a HF
              refine wq_y rfl HF rfl rfl (fun _ HS => (yl_pick_f rfl (HF.ev rfl) (HF.ev rfl))) ?_; clear HF; clear a; intro a HF
              refine wpQuiet_nil ?_; intro w9 HS; replace HS := Bx.mk HS
              refine ex_then ?_
              refine wc_false HF rfl ?_
              refine wp_skip ?_
              refine ex_block ?_
              refine ex_then ?_
              refine wp_region_lit ?_
              refine wl_y rfl HF rfl rfl (yl_addI rfl (HF.ev rfl) (HF.ev rfl) (i64w (by omega))) ?_; clear HF; clear a; intro a HF
              refine wl_y rfl HF rfl rfl (yl_move rfl (HF.ev rfl)) ?_; clear HF; clear a; intro a HF
              refine wpList_nil ?_
              refine ex_then ?_
              have hp : likeI st text k = false := by unfold likeI; rw [cc4, cc5, cc6]; rfl
              exact ⟨k + 1, ⟨⟨by omega, find0_step (by omega) hp hf⟩, HF.less _ ⟨rfl, rfl, rfl, rfl, rfl, rfl, rfl, rfl, rfl, trivial⟩, HS.out⟩, (by omega)⟩
          · clear HF; have HF := HF1; clear HF1
            refine wq_skip HF rfl rfl rfl rfl rfl rfl ?_; clear HF; clear a; intro a HF
            refine wq_skip HF rfl rfl rfl rfl rfl rfl ?_; clear HF; clear a; intro a HF
            refine wq_skip HF rfl rfl rfl rfl rfl rfl ?_; clear HF; clear a; intro a HF
            refine wq_skip HF rfl rfl rfl rfl rfl rfl ?_; clear HF; clear a; intro a HF
            refine wq_skip HF rfl rfl rfl rfl rfl rfl ?_; clear HF; clear a; intro a HF
            refine wq_skip HF rfl rfl rfl rfl rfl rfl ?_; clear HF; clear a; intro a HF
            refine wq_skip HF rfl rfl rfl rfl rfl rfl ?_; clear HF; clear a; intro a HF
            refine wq_skip HF rfl rfl rfl rfl rfl rfl ?_; clear HF; clear a; intro a HF
            refine wq_skip HF rfl rfl rfl rfl rfl rfl ?_; clear HF; clear a; intro a HF
            refine wq_skip HF rfl rfl rfl rfl rfl rfl ?_; clear HF; clear a; intro a HF
            refine wq_skip HF rfl rfl rfl rfl rfl rfl ?_; clear HF; clear a; intro a HF
            refine wq_skip HF rfl rfl rfl rfl rfl rfl ?_; clear HF; clear a; intro a HF
            refine wq_skip HF rfl rfl rfl rfl rfl rfl ?_; clear HF; clear a; intro a HF
            refine wq_y rfl HF rfl rfl (fun _ HS => (yl_pick_f rfl (HF.ev rfl) (HF.ev rfl))) ?_; clear HF; clear a; intro a HF
            refine wq_y rfl HF rfl rfl (fun _ HS => (yl_move rfl (HF.ev rfl))) ?_; clear HF; clear a; intro a HF
            refine wq_skip HF rfl rfl rfl rfl rfl rfl ?_; clear HF; clear a; intro a HF
            refine wq_skip HF rfl rfl rfl rfl rfl rfl ?_; clear HF; clear a; intro a HF
            refine wq_skip HF rfl rfl rfl rfl rfl rfl ?_; clear HF; clear a; intro a HF
            refine wq_skip HF rfl rfl rfl rfl rfl rfl ?_; clear HF; clear a; intro a HF
            refine wq_skip HF rfl rfl rfl rfl rfl rfl ?_; clear HF; clear a; intro a HF
            refine wq_skip HF rfl rfl rfl rfl rfl rfl ?_; clear HF; clear a; intro a HF
            refine wq_skip HF rfl rfl rfl rfl rfl rfl ?_; clear HF; clear a; intro a HF
            refine wq_skip HF rfl rfl rfl rfl rfl rfl ?_; clear HF; clear a; intro a HF
            refine wq_skip HF rfl rfl rfl rfl rfl rfl ?_; clear HF; clear a; intro a HF
            refine wq_skip HF rfl rfl rfl rfl rfl rfl ?_; clear HF; clear a; intro a HF
            refine wq_skip HF rfl rfl rfl rfl rfl rfl ?_; clear HF; clear a; intro a HF
            refine wq_skip HF rfl rfl rfl rfl rfl rfl ?_; clear HF; clear a; intro a HF
            refine wq_skip HF rfl rfl rfl rfl rfl rfl ?_; clear HF; clear a; intro a HF
            refine wq_y rfl HF rfl rfl (fun _ HS => (yl_pick_f rfl (HF.ev rfl) (HF.ev rfl))) ?_; clear HF; clear a; intro a HF
            refine wpQuiet_nil ?_; intro w10 HS; replace HS := Bx.mk HS
            refine ex_then ?_
            refine wc_false HF rfl ?_
            refine wp_skip ?_
            refine ex_block ?_
            refine ex_then ?_
            refine wp_region_lit ?_
            refine wl_y rfl HF rfl rfl (yl_addI rfl (HF.ev rfl) (HF.ev rfl) (i64w (by omega))) ?_; clear HF; clear a; intro a HF
            refine wl_y rfl HF rfl rfl (yl_move rfl (HF.ev rfl)) ?_; clear HF; clear a; intro a HF
            refine wpList_nil ?_
            refine ex_then ?_
            have hp : likeI st text k = false := by unfold likeI; rw [cc4, cc5]; rfl
            exact ⟨k + 1, ⟨⟨by omega, find0_step (by omega) hp hf⟩, HF.less _ ⟨rfl, rfl, rfl, rfl, rfl, rfl, rfl, rfl, rfl, trivial⟩, HS.out⟩, (by omega)⟩
        · clear HF; have HF := HF1; clear HF1
          refine wq_skip HF rfl rfl rfl rfl rfl rfl ?_; clear HF; clear a; intro a HF
          refine wq_skip HF rfl rfl rfl rfl rfl rfl ?_; clear HF; clear a; intro a HF
          refine wq_skip HF rfl rfl rfl rfl rfl rfl ?_; clear HF; clear a; intro a HF
          refine wq_y rfl HF rfl rfl (fun _ HS => (yl_pick_f rfl (HF.ev rfl) (HF.ev rfl))) ?_; clear HF; clear a; intro a HF
          refine wq_y rfl HF rfl rfl (fun _ HS => (yl_move rfl (HF.ev rfl))) ?_; clear HF; clear a; intro a HF
          refine wq_skip HF rfl rfl rfl rfl rfl rfl ?_; clear HF; clear a; intro a HF
          refine wq_skip HF rfl rfl rfl rfl rfl rfl ?_; clear HF; clear a; intro a HF
          refine wq_skip HF rfl rfl rfl rfl rfl rfl ?_; clear HF; clear a; intro a HF
          refine wq_skip HF rfl rfl rfl rfl rfl rfl ?_; clear HF; clear a; intro a HF
          refine wq_skip HF rfl rfl rfl rfl rfl rfl ?_; clear HF; clear a; intro a HF
          refine wq_skip HF rfl rfl rfl rfl rfl rfl ?_; clear HF; clear a; intro a HF
          refine wq_skip HF rfl rfl rfl rfl rfl rfl ?_; clear HF; clear a; intro a HF
          refine wq_skip HF rfl rfl rfl rfl rfl rfl ?_; clear HF; clear a; intro a HF
          refine wq_skip HF rfl rfl rfl rfl rfl rfl ?_; clear HF; clear a; intro a HF
          refine wq_skip HF rfl rfl rfl rfl rfl rfl ?_; clear HF; clear a; intro a HF
          refine wq_skip HF rfl rfl rfl rfl rfl rfl ?_; clear HF; clear a; intro a HF
          refine wq_skip HF rfl rfl rfl rfl rfl rfl ?_; clear HF; clear a; intro a HF
          refine wq_skip HF rfl rfl rfl rfl rfl rfl ?_; clear HF; clear a; intro a HF
          refine wq_y rfl HF rfl rfl (fun _ HS => (yl_pick_f rfl (HF.ev rfl) (HF.ev rfl))) ?_; clear HF; clear a; intro a HF
          refine wq_y rfl HF rfl rfl (fun _ HS => (yl_move rfl (HF.ev rfl))) ?_; clear HF; clear a; intro a HF
          refine wq_skip HF rfl rfl rfl rfl rfl rfl ?_; clear HF; clear a; intro a HF
          refine wq_skip HF rfl rfl rfl rfl rfl rfl ?_; clear HF; clear a; intro a HF
          refine wq_skip HF rfl rfl rfl rfl rfl rfl ?_; clear HF; clear a; intro a HF
          refine wq_skip HF rfl rfl rfl rfl rfl rfl ?_; clear HF; clear a; intro a HF
          refine wq_skip HF rfl rfl rfl rfl rfl rfl ?_; clear HF; clear a; intro a HF
          refine wq_skip HF rfl rfl rfl rfl rfl rfl ?_; clear HF; clear a; intro a HF
          refine wq_skip HF rfl rfl rfl rfl rfl rfl ?_; clear HF; clear a; intro a HF
          refine wq_skip HF rfl rfl rfl rfl rfl rfl ?_; clear HF; clear a; intro a HF
          refine wq_skip HF rfl rfl rfl rfl rfl rfl ?_; clear HF; clear a; intro a HF
          refine wq_skip HF rfl rfl rfl rfl rfl rfl ?_; clear HF; clear a; intro a HF
          refine wq_skip HF rfl rfl rfl rfl rfl rfl ?_; clear HF; clear a; intro a HF
          refine wq_skip HF rfl rfl rfl rfl rfl rfl ?_; clear HF; clear a; intro a HF
          refine wq_skip HF rfl rfl rfl rfl rfl rfl ?_; clear HF; clear a; intro a HF
          refine wq_y rfl HF rfl rfl (fun _ HS => (yl_pick_f rfl (HF.ev rfl) (HF.ev rfl))) ?_; clear HF; clear a; intro a HF
          refine wpQuiet_nil ?_; intro w11 HS; replace HS := Bx.mk HS
          refine ex_then ?_
          refine wc_false HF rfl ?_
          refine wp_skip ?_
          refine ex_block ?_
          refine ex_then ?_
          refine wp_region_lit ?_
          refine wl_y rfl HF rfl rfl (yl_addI rfl (HF.ev rfl) (HF.ev rfl) (i64w (by omega))) ?_; clear HF; clear a; intro a HF
          refine wl_y rfl HF rfl rfl (yl_move rfl (HF.ev rfl)) ?_; clear HF; clear a; intro a HF
          refine wpList_nil ?_
          refine ex_then ?_
          have hp : likeI st text k = false := by unfold likeI; rw [cc4]; rfl
          exact ⟨k + 1, ⟨⟨by omega, find0_step (by omega) hp hf⟩, HF.less _ ⟨rfl, rfl, rfl, rfl, rfl, rfl, rfl, rfl, rfl, trivial⟩, HS.out⟩, (by omega)⟩
      · clear HF; have HF := HF1; clear HF1
        have cc3 := of_decide_eq_false cc3
        have hlk : likeAt st text level = 64 := by unfold likeAt; rw [if_pos hsame, find0_end (by omega) hf]
        refine wc_false HF rfl ?_
        refine wp_exit ?_
        refine ex_then_exit ?_
        refine ex_then_exit ?_
        refine ex_block_hit ?_
        refine ex_then ?_
        refine wp_seq ?_
        refine wp_seq ?_
        refine wp_region_lit ?_
        refine wl_y rfl HF rfl rfl (yl_move rfl (HF.ev rfl)) ?_; clear HF; clear a; intro a HF
        refine wl_y rfl HF rfl rfl (yl_lssI rfl (HF.ev rfl) (HF.ev rfl)) ?_; clear HF; clear a; intro a HF
        refine wpList_nil ?_
        refine ex_then ?_
        replace HF := HF.know (k := 76) (c := true) rfl (by decide)
        refine wc_true HF rfl ?_
        refine wp_seq ?_
        refine wp_region_lit ?_
        refine wl_y rfl HF rfl rfl (yl_assign rfl (HF.ev rfl)) ?_; clear HF; clear a; intro a HF
        refine wpList_nil ?_
        refine ex_then ?_
        refine wp_seq ?_
        refine wp_block ?_
        refine wc_loop (ι := Nat) (fun j a w => ((8 ≤ j ∧ j ≤ 64) ∧ findUp (usedB st) 56 8 = findUp (usedB st) (64 - j) j) ∧ Fr 133 a [(0, .pointer (some ⟨b, 0, none⟩)), (1, .string text), (2, .int .i64 level), (6, .pointer (some ⟨b1, 0, none⟩)), (7, .bool false), (8, .int .i64 (j : Int))] ∧ St w0 (boxA b1 5 33 (.agg #[.int .i64 0, .int .i64 0, .int .i64 0, .int .i64 0, .int .i64 0]) :: boxA b 8 65 (.agg #[.slice (some ⟨g0, 0, none⟩) st.fRows.length c0, .slice (some ⟨g1, 0, none⟩) st.fSpace.fRefs.length c1, .slice (some ⟨g2, 0, none⟩) st.fSpace.fLast.length c2, .int .i64 st.fTxg, .slice a4 st.fGone.length c4, .int .i64 st.fKeep, .slice a6 st.fDead.length c6, .bool st.fSame]) :: rowA encS 1 9 (.slice (some ⟨g0, 0, none⟩) st.fRows.length c0) st.fRows :: rowA encI 1 3 (.slice (some ⟨g1, 0, none⟩) st.fSpace.fRefs.length c1) st.fSpace.fRefs :: rowA encI 1 3 (.slice (some ⟨g2, 0, none⟩) st.fSpace.fLast.length c2) st.fSpace.fLast :: F) w) (fun j => 64 - j) 8 ⟨⟨by omega, rfl⟩, HF.less _ ⟨rfl, rfl, rfl, rfl, rfl, rfl, trivial⟩, HS.out⟩ ?_
        clear HF HS; clear a
        rintro j a w12 ⟨⟨⟨hj8, hj⟩, hg⟩, HF, HS⟩
        replace HS := Bx.mk HS
        refine wp_seq ?_
        refine wp_seq ?_
        refine wp_region_lit ?_
        refine wl_y rfl HF rfl rfl (yl_move rfl (HF.ev rfl)) ?_; clear HF; clear a; intro a HF
        refine wl_y rfl HF rfl rfl (yl_lssI rfl (HF.ev rfl) (HF.ev rfl)) ?_; clear HF; clear a; intro a HF
        refine wl_y rfl HF rfl rfl (yl_move rfl (HF.ev rfl)) ?_; clear HF; clear a; intro a HF
        refine HF.cases 79 rfl (fun cc9 HF1 => ?_) (fun cc9 HF1 => ?_)
        · clear HF; have HF := HF1; clear HF1
          have hj64 := of_decide_eq_true cc9
          refine wl_yg HF rfl rfl rfl rfl rfl (yl_move rfl (HF.ev rfl)) ?_; clear HF; clear a; intro a HF
          refine wl_yg HF rfl rfl rfl rfl rfl (yl_nilCheck rfl (HF.ev rfl)) ?_; clear HF; clear a; intro a HF
          refine wl_yg HF rfl rfl rfl rfl rfl (yl_fieldAddr (j := 1) rfl (HF.ev rfl) (by kernel_rfl)) ?_; clear HF; clear a; intro a HF
          refine wl_yg HF rfl rfl rfl rfl rfl (yl_fieldAddr (j := 0) rfl (HF.ev rfl) (by kernel_rfl)) ?_; clear HF; clear a; intro a HF
          refine wl_yg HF rfl rfl rfl rfl rfl (yl_load (v := .slice (some ⟨g1, 0, none⟩) st.fSpace.fRefs.length c1) rfl (HF.ev rfl) (((HS.out.box 1 rfl).cell 1).trans rfl) (by kernel_rfl)) ?_; clear HF; clear a; intro a HF
          refine wl_yg HF rfl rfl rfl rfl rfl (yl_move rfl (HF.ev rfl)) ?_; clear HF; clear a; intro a HF
          refine wl_yg HF rfl rfl rfl rfl rfl (yl_indexAddr (e := 3) (i := j) (size := 1) rfl (HF.ev rfl) (HF.ev rfl) (by kernel_rfl) rfl (by omega)) ?_; clear HF; clear a; intro a HF
          refine wl_yg HF rfl rfl rfl rfl rfl (yl_load (v := .int .i64 (st.fSpace.fRefs.getD j 0)) rfl (HF.ev rfl) (HS.out.elem1 encI_len 3 rfl (get_getD (xs := st.fSpace.fRefs) (j := j) (d := 0) (by omega)) rfl) (by kernel_rfl)) ?_; clear HF; clear a; intro a HF
          refine wl_yg HF rfl rfl rfl rfl rfl (yl_gtrI rfl (HF.ev rfl) (HF.ev rfl)) ?_; clear HF; clear a; intro a HF
          refine wl_y rfl HF rfl rfl (yl_pick_t rfl (HF.ev rfl) (HF.ev rfl)) ?_; clear HF; clear a; intro a HF
          refine wpList_nil ?_
          refine ex_then ?_
          refine HF.cases 89 rfl (fun cc10 HF1 => ?_) (fun cc10 HF1 => ?_)
          · clear HF; have HF := HF1; clear HF1
            refine wc_true HF rfl ?_
            refine wp_skip ?_
            refine ex_then ?_
            refine wp_block ?_
            refine wp_region_lit ?_
            refine wl_y rfl HF rfl rfl (yl_move rfl (HF.ev rfl)) ?_; clear HF; clear a; intro a HF
            refine wl_y rfl HF rfl rfl (yl_addI rfl (HF.ev rfl) (HF.ev rfl) (i64w (by omega))) ?_; clear HF; clear a; intro a HF
            refine wl_y rfl HF rfl rfl (yl_assign rfl (HF.ev rfl)) ?_; clear HF; clear a; intro a HF
            refine wpList_nil ?_
            refine ex_block ?_
            refine ex_then ?_
            have hp : usedB st j = false := by unfold usedB; rw [cc10]; rfl
            exact ⟨j + 1, ⟨⟨by omega, find_step (by omega) hp hg rfl⟩, HF.less _ ⟨rfl, rfl, rfl, rfl, rfl, rfl, trivial⟩, HS.out⟩, (by omega)⟩
          · clear HF; have HF := HF1; clear HF1
            have hp : usedB st j = true := by unfold usedB; rw [cc10]; rfl
            have hwr : writeAt st text level = j := by unfold writeAt; rw [if_neg (by omega), find_here (by omega) hp hg]
            refine wc_false HF rfl ?_
            refine wp_exit ?_
            refine ex_then_exit ?_
            refine ex_then_exit ?_
            refine ex_block_hit ?_
            refine ex_then ?_
            refine wp_seq ?_
            refine wp_seq ?_
            refine wp_region_lit ?_
            refine wl_y rfl HF rfl rfl (yl_move rfl (HF.ev rfl)) ?_; clear HF; clear a; intro a HF
            refine wl_y rfl HF rfl rfl (yl_eqlI rfl (HF.ev rfl) (HF.ev rfl)) ?_; clear HF; clear a; intro a HF
            refine wpList_nil ?_
            refine ex_then ?_
            refine HF.cases 93 rfl (fun cc11 HF1 => ?_) (fun cc11 HF1 => ?_)
            · clear HF; have HF := HF1; clear HF1
              exact absurd (eq_of_beq cc11) (by omega)
            · clear HF; have HF := HF1; clear HF1
              refine wc_false HF rfl ?_
              refine wp_skip ?_
              refine ex_then ?_
              refine wp_region_lit ?_
              refine wl_y rfl HF rfl rfl (yl_move rfl (HF.ev rfl)) ?_; clear HF; clear a; intro a HF
              refine wl_y rfl HF rfl rfl (yl_nilCheck rfl (HF.ev rfl)) ?_; clear HF; clear a; intro a HF
              refine wl_y rfl HF rfl rfl (yl_fieldAddr (j := 0) rfl (HF.ev rfl) (by kernel_rfl)) ?_; clear HF; clear a; intro a HF
              refine wl_y rfl HF rfl rfl (yl_load (v := .slice (some ⟨g0, 0, none⟩) st.fRows.length c0) rfl (HF.ev rfl) (((HS.out.box 1 rfl).cell 0).trans rfl) (by kernel_rfl)) ?_; clear HF; clear a; intro a HF
              refine wl_y rfl HF rfl rfl (yl_move rfl (HF.ev rfl)) ?_; clear HF; clear a; intro a HF
              refine wl_y rfl HF rfl rfl (yl_move rfl (HF.ev rfl)) ?_; clear HF; clear a; intro a HF
              refine wl_y rfl HF rfl rfl (yl_indexAddr (e := 9) (i := j) (size := 1) rfl (HF.ev rfl) (HF.ev rfl) (by kernel_rfl) rfl (by omega)) ?_; clear HF; clear a; intro a HF
              refine wl_storeE encS_len rfl rfl rfl (HF.ev rfl) (HF.ev rfl) (by kernel_rfl) HS.out 2 rfl (by omega) (z := text) rfl rfl ?_; clear HS; intro w13 HS; replace HS := Bx.mk HS
              refine wpList_nil ?_
              refine ex_then ?_
              refine wp_seq ?_
              have hrb := hr j
              refine wp_region_lit ?_
              refine wl_y rfl HF rfl rfl (yl_move rfl (HF.ev rfl)) ?_; clear HF; clear a; intro a HF
              refine wl_y rfl HF rfl rfl (yl_nilCheck rfl (HF.ev rfl)) ?_; clear HF; clear a; intro a HF
              refine wl_y rfl HF rfl rfl (yl_fieldAddr (j := 1) rfl (HF.ev rfl) (by kernel_rfl)) ?_; clear HF; clear a; intro a HF
              refine wl_y rfl HF rfl rfl (yl_fieldAddr (j := 0) rfl (HF.ev rfl) (by kernel_rfl)) ?_; clear HF; clear a; intro a HF
              refine wl_y rfl HF rfl rfl (yl_load (v := .slice (some ⟨g1, 0, none⟩) st.fSpace.fRefs.length c1) rfl (HF.ev rfl) (((HS.out.box 1 rfl).cell 1).trans rfl) (by kernel_rfl)) ?_; clear HF; clear a; intro a HF
              refine wl_y rfl HF rfl rfl (yl_move rfl (HF.ev rfl)) ?_; clear HF; clear a; intro a HF
              refine wl_y rfl HF rfl rfl (yl_indexAddr (e := 3) (i := j) (size := 1) rfl (HF.ev rfl) (HF.ev rfl) (by kernel_rfl) rfl (by omega)) ?_; clear HF; clear a; intro a HF
              refine wl_y rfl HF rfl rfl (yl_load (v := .int .i64 (st.fSpace.fRefs.getD j 0)) rfl (HF.ev rfl) (HS.out.elem1 encI_len 3 rfl (get_getD (xs := st.fSpace.fRefs) (j := j) (d := 0) (by omega)) rfl) (by kernel_rfl)) ?_; clear HF; clear a; intro a HF
              refine wl_y rfl HF rfl rfl (yl_addI rfl (HF.ev rfl) (HF.ev rfl) (i64w (by omega))) ?_; clear HF; clear a; intro a HF
              refine wl_y rfl HF rfl rfl (yl_indexAddr (e := 3) (i := j) (size := 1) rfl (HF.ev rfl) (HF.ev rfl) (by kernel_rfl) rfl (by omega)) ?_; clear HF; clear a; intro a HF
              refine wl_storeE encI_len rfl rfl rfl (HF.ev rfl) (HF.ev rfl) (by kernel_rfl) HS.out 3 rfl (by omega) (z := ((st.fSpace.fRefs.getD j 0) + 1)) rfl rfl ?_; clear HS; intro w14 HS; replace HS := Bx.mk HS
              refine wpList_nil ?_
              refine ex_then ?_
              refine wp_seq ?_
              refine wr_tail 11 (by kernel_rfl) (by kernel_rfl) HS.out ?_
              simp only [List.take_succ_cons, List.take_zero, List.drop_succ_cons, List.drop_zero]
              intro w15 HS
              replace HS := Bx.mk HS
              refine ws_y rfl HF rfl rfl (yl_move rfl (HF.ev rfl)) ?_; clear HF; clear a; intro a HF
              refine ws_y rfl HF rfl rfl (yl_nilCheck rfl (HF.ev rfl)) ?_; clear HF; clear a; intro a HF
              refine ws_y rfl HF rfl rfl (yl_fieldAddr (j := 1) rfl (HF.ev rfl) (by kernel_rfl)) ?_; clear HF; clear a; intro a HF
              refine ws_y rfl HF rfl rfl (yl_fieldAddr (j := 1) rfl (HF.ev rfl) (by kernel_rfl)) ?_; clear HF; clear a; intro a HF
              refine ws_y rfl HF rfl rfl (yl_load (v := .slice (some ⟨g2, 0, none⟩) st.fSpace.fLast.length c2) rfl (HF.ev rfl) (((HS.out.box 1 rfl).cell 2).trans rfl) (by kernel_rfl)) ?_; clear HF; clear a; intro a HF
              refine ws_y rfl HF rfl rfl (yl_move rfl (HF.ev rfl)) ?_; clear HF; clear a; intro a HF
              refine ws_y rfl HF rfl rfl (yl_move rfl (HF.ev rfl)) ?_; clear HF; clear a; intro a HF
              refine ws_y rfl HF rfl rfl (yl_nilCheck rfl (HF.ev rfl)) ?_; clear HF; clear a; intro a HF
              refine ws_y rfl HF rfl rfl (yl_fieldAddr (j := 3) rfl (HF.ev rfl) (by kernel_rfl)) ?_; clear HF; clear a; intro a HF
              refine ws_y rfl HF rfl rfl (yl_load (v := .int .i64 st.fTxg) rfl (HF.ev rfl) (((HS.out.box 1 rfl).cell 3).trans rfl) (by kernel_rfl)) ?_; clear HF; clear a; intro a HF
              refine ws_y rfl HF rfl rfl (yl_indexAddr (e := 3) (i := j) (size := 1) rfl (HF.ev rfl) (HF.ev rfl) (by kernel_rfl) rfl (by omega)) ?_; clear HF; clear a; intro a HF
              refine wpStill_nil ?_
              refine wl_storeE encI_len rfl rfl rfl (HF.ev rfl) (HF.ev rfl) (by kernel_rfl) HS.out 4 rfl (by omega) (z := st.fTxg) rfl rfl ?_; clear HS; intro w16 HS; replace HS := Bx.mk HS
              refine wpList_nil ?_
              refine ex_then ?_
              refine wp_seq ?_
              refine wp_region_lit ?_
              refine wl_y rfl HF rfl rfl (yl_move rfl (HF.ev rfl)) ?_; clear HF; clear a; intro a HF
              refine wl_y rfl HF rfl rfl (yl_move rfl (HF.ev rfl)) ?_; clear HF; clear a; intro a HF
              refine wl_y rfl HF rfl rfl (yl_nilCheck rfl (HF.ev rfl)) ?_; clear HF; clear a; intro a HF
              refine wl_y rfl HF rfl rfl (yl_fieldAddr (j := 3) rfl (HF.ev rfl) (by kernel_rfl)) ?_; clear HF; clear a; intro a HF
              refine wl_y rfl HF rfl rfl (yl_load (v := .int .i64 st.fTxg) rfl (HF.ev rfl) (((HS.out.box 1 rfl).cell 3).trans rfl) (by kernel_rfl)) ?_; clear HF; clear a; intro a HF
              refine wl_y rfl HF rfl rfl (yl_move rfl (HF.ev rfl)) ?_; clear HF; clear a; intro a HF
              refine wl_y rfl HF rfl rfl (yl_move rfl (HF.ev rfl)) ?_; clear HF; clear a; intro a HF
              refine wl_callB rfl HF rfl (enter_of Try.func14 (by kernel_rfl) rfl) (args := #[.int .i64 (j : Int), .int .i64 st.fTxg, .int .i64 level, .string text]) rfl (v := .tuple #[.agg #[.int .i64 ((ptrOf (j : Int) st.fTxg level text).fAt), .int .i64 ((ptrOf (j : Int) st.fTxg level text).fBirth), .int .i64 ((ptrOf (j : Int) st.fTxg level text).fSize), .int .i64 ((ptrOf (j : Int) st.fTxg level text).fSum), .int .i64 ((ptrOf (j : Int) st.fTxg level text).fLevel)], .bool (ptrOk (j : Int) st.fTxg level text)]) (ptrOfI_any (j : Int) st.fTxg level text _ (by omega)) rfl rfl HS.out ?_; clear HF HS; clear a; intro w17 a HS HF; replace HS := Bx.mk HS
              refine wl_y rfl HF rfl rfl (yl_extract rfl (HF.ev rfl) rfl) ?_; clear HF; clear a; intro a HF
              refine wl_y rfl HF rfl rfl (yl_extract rfl (HF.ev rfl) rfl) ?_; clear HF; clear a; intro a HF
              refine wl_storeBox rfl HF rfl rfl (HF.ev rfl) (HF.ev rfl) HS.out 0 rfl (cells_lit [.int .i64 ((ptrOf (j : Int) st.fTxg level text).fAt), .int .i64 ((ptrOf (j : Int) st.fTxg level text).fBirth), .int .i64 ((ptrOf (j : Int) st.fTxg level text).fSize), .int .i64 ((ptrOf (j : Int) st.fTxg level text).fSum), .int .i64 ((ptrOf (j : Int) st.fTxg level text).fLevel)] rfl rfl) (by kernel_rfl) ?_; clear HS; intro w18 HS; replace HS := Bx.mk HS
              have HS : Bx (St w0 (boxA b1 5 33 (.agg #[.int .i64 ((ptrOf (j : Int) st.fTxg level text).fAt), .int .i64 ((ptrOf (j : Int) st.fTxg level text).fBirth), .int .i64 ((ptrOf (j : Int) st.fTxg level text).fSize), .int .i64 ((ptrOf (j : Int) st.fTxg level text).fSum), .int .i64 ((ptrOf (j : Int) st.fTxg level text).fLevel)]) :: boxA b 8 65 (.agg #[.slice (some ⟨g0, 0, none⟩) st.fRows.length c0, .slice (some ⟨g1, 0, none⟩) st.fSpace.fRefs.length c1, .slice (some ⟨g2, 0, none⟩) st.fSpace.fLast.length c2, .int .i64 st.fTxg, .slice a4 st.fGone.length c4, .int .i64 st.fKeep, .slice a6 st.fDead.length c6, .bool st.fSame]) :: rowA encS 1 9 (.slice (some ⟨g0, 0, none⟩) st.fRows.length c0) (st.fRows.set j text) :: rowA encI 1 3 (.slice (some ⟨g1, 0, none⟩) st.fSpace.fRefs.length c1) (st.fSpace.fRefs.set j ((st.fSpace.fRefs.getD j 0) + 1)) :: rowA encI 1 3 (.slice (some ⟨g2, 0, none⟩) st.fSpace.fLast.length c2) (st.fSpace.fLast.set j st.fTxg) :: F) _) := HS
              refine wl_y rfl HF rfl rfl (yl_assign rfl (HF.ev rfl)) ?_; clear HF; clear a; intro a HF
              refine wpList_nil ?_
              refine ex_then ?_
              refine wp_ret ?_
              refine bp_ret2 HF Try.results90 (HF.resBox rfl (HS.out.box 0 rfl) (by kernel_rfl)) (HF.res rfl) ?_
              exact .inr ⟨j, by omega, hwr, rfl, .inr ⟨by omega, HS.out.tail⟩⟩
        · clear HF; have HF := HF1; clear HF1
          have hj64 := of_decide_eq_false cc9
          refine wl_skip HF rfl rfl rfl rfl rfl rfl ?_; clear HF; clear a; intro a HF
          refine wl_skip HF rfl rfl rfl rfl rfl rfl ?_; clear HF; clear a; intro a HF
          refine wl_skip HF rfl rfl rfl rfl rfl rfl ?_; clear HF; clear a; intro a HF
          refine wl_skip HF rfl rfl rfl rfl rfl rfl ?_; clear HF; clear a; intro a HF
          refine wl_skip HF rfl rfl rfl rfl rfl rfl ?_; clear HF; clear a; intro a HF
          refine wl_skip HF rfl rfl rfl rfl rfl rfl ?_; clear HF; clear a; intro a HF
          refine wl_skip HF rfl rfl rfl rfl rfl rfl ?_; clear HF; clear a; intro a HF
          refine wl_skip HF rfl rfl rfl rfl rfl rfl ?_; clear HF; clear a; intro a HF
          refine wl_skip HF rfl rfl rfl rfl rfl rfl ?_; clear HF; clear a; intro a HF
          refine wl_y rfl HF rfl rfl (yl_pick_f rfl (HF.ev rfl) (HF.ev rfl)) ?_; clear HF; clear a; intro a HF
          refine wpList_nil ?_
          refine ex_then ?_
          refine wc_false HF rfl ?_
          refine wp_exit ?_
          refine ex_then_exit ?_
          refine ex_then_exit ?_
          refine ex_block_hit ?_
          refine ex_then ?_
          refine wp_seq ?_
          refine wp_seq ?_
          refine wp_region_lit ?_
          refine wl_y rfl HF rfl rfl (yl_move rfl (HF.ev rfl)) ?_; clear HF; clear a; intro a HF
          refine wl_y rfl HF rfl rfl (yl_eqlI rfl (HF.ev rfl) (HF.ev rfl)) ?_; clear HF; clear a; intro a HF
          refine wpList_nil ?_
          refine ex_then ?_
          refine HF.cases 93 rfl (fun cc12 HF1 => ?_) (fun cc12 HF1 => ?_)
          · clear HF; have HF := HF1; clear HF1
            refine wc_true HF rfl ?_
            refine wp_seq ?_
            refine wp_region_lit ?_
            refine wl_y rfl HF rfl rfl (yl_build HF rfl (ps := []) rfl (cs := #[.int .i64 0, .int .i64 0, .int .i64 0, .int .i64 0, .int .i64 0]) (by kernel_rfl)) ?_; clear HF; clear a; intro a HF
            refine wl_storeBox rfl HF rfl rfl (HF.ev rfl) (HF.ev rfl) HS.out 0 rfl (cells_lit [.int .i64 0, .int .i64 0, .int .i64 0, .int .i64 0, .int .i64 0] rfl rfl) (by kernel_rfl) ?_; clear HS; intro w19 HS; replace HS := Bx.mk HS
            have HS : Bx (St w0 (boxA b1 5 33 (.agg #[.int .i64 0, .int .i64 0, .int .i64 0, .int .i64 0, .int .i64 0]) :: boxA b 8 65 (.agg #[.slice (some ⟨g0, 0, none⟩) st.fRows.length c0, .slice (some ⟨g1, 0, none⟩) st.fSpace.fRefs.length c1, .slice (some ⟨g2, 0, none⟩) st.fSpace.fLast.length c2, .int .i64 st.fTxg, .slice a4 st.fGone.length c4, .int .i64 st.fKeep, .slice a6 st.fDead.length c6, .bool st.fSame]) :: rowA encS 1 9 (.slice (some ⟨g0, 0, none⟩) st.fRows.length c0) st.fRows :: rowA encI 1 3 (.slice (some ⟨g1, 0, none⟩) st.fSpace.fRefs.length c1) st.fSpace.fRefs :: rowA encI 1 3 (.slice (some ⟨g2, 0, none⟩) st.fSpace.fLast.length c2) st.fSpace.fLast :: F) _) := HS
            refine wl_y rfl HF rfl rfl (yl_assign rfl (HF.ev rfl)) ?_; clear HF; clear a; intro a HF
            refine wpList_nil ?_
            refine ex_then ?_
            refine wp_ret ?_
            refine ex_then_ret ?_
            refine ex_then_ret ?_
            refine bp_ret2 HF Try.results90 (HF.resBox rfl (HS.out.box 0 rfl) (by kernel_rfl)) (HF.res rfl) ?_
            exact .inl ⟨by unfold writeAt; rw [if_neg (by omega), find_end (by omega) hg], rfl, HS.out.tail⟩
          · clear HF; have HF := HF1; clear HF1
            exact absurd (beq_eq_false_iff_ne.1 cc12) (by omega)
    · clear HF; have HF := HF1; clear HF1
      have hsame : (st.fSame && (level == 0)) = false := by rw [cc1, cc2]; rfl
      have hlk : likeAt st text level = 64 := by unfold likeAt; rw [if_neg (by rw [hsame]; simp)]
      refine wc_false HF rfl ?_
      refine wp_skip ?_
      refine ex_then ?_
      refine wp_seq ?_
      refine wp_seq ?_
      refine wp_region_lit ?_
      refine wl_y rfl HF rfl rfl (yl_move rfl (HF.ev rfl)) ?_; clear HF; clear a; intro a HF
      refine wl_y rfl HF rfl rfl (yl_lssI rfl (HF.ev rfl) (HF.ev rfl)) ?_; clear HF; clear a; intro a HF
      refine wpList_nil ?_
      refine ex_then ?_
      replace HF := HF.know (k := 76) (c := true) rfl (by decide)
      refine wc_true HF rfl ?_
      refine wp_seq ?_
      refine wp_region_lit ?_
      refine wl_y rfl HF rfl rfl (yl_assign rfl (HF.ev rfl)) ?_; clear HF; clear a; intro a HF
      refine wpList_nil ?_
      refine ex_then ?_
      refine wp_seq ?_
      refine wp_block ?_
      refine wc_loop (ι := Nat) (fun j a w => ((8 ≤ j ∧ j ≤ 64) ∧ findUp (usedB st) 56 8 = findUp (usedB st) (64 - j) j) ∧ Fr 133 a [(0, .pointer (some ⟨b, 0, none⟩)), (1, .string text), (2, .int .i64 level), (6, .pointer (some ⟨b1, 0, none⟩)), (7, .bool false), (8, .int .i64 (j : Int))] ∧ St w0 (boxA b1 5 33 (.agg #[.int .i64 0, .int .i64 0, .int .i64 0, .int .i64 0, .int .i64 0]) :: boxA b 8 65 (.agg #[.slice (some ⟨g0, 0, none⟩) st.fRows.length c0, .slice (some ⟨g1, 0, none⟩) st.fSpace.fRefs.length c1, .slice (some ⟨g2, 0, none⟩) st.fSpace.fLast.length c2, .int .i64 st.fTxg, .slice a4 st.fGone.length c4, .int .i64 st.fKeep, .slice a6 st.fDead.length c6, .bool st.fSame]) :: rowA encS 1 9 (.slice (some ⟨g0, 0, none⟩) st.fRows.length c0) st.fRows :: rowA encI 1 3 (.slice (some ⟨g1, 0, none⟩) st.fSpace.fRefs.length c1) st.fSpace.fRefs :: rowA encI 1 3 (.slice (some ⟨g2, 0, none⟩) st.fSpace.fLast.length c2) st.fSpace.fLast :: F) w) (fun j => 64 - j) 8 ⟨⟨by omega, rfl⟩, HF.less _ ⟨rfl, rfl, rfl, rfl, rfl, rfl, trivial⟩, HS.out⟩ ?_
      clear HF HS; clear a
      rintro j a w20 ⟨⟨⟨hj8, hj⟩, hg⟩, HF, HS⟩
      replace HS := Bx.mk HS
      refine wp_seq ?_
      refine wp_seq ?_
      refine wp_region_lit ?_
      refine wl_y rfl HF rfl rfl (yl_move rfl (HF.ev rfl)) ?_; clear HF; clear a; intro a HF
      refine wl_y rfl HF rfl rfl (yl_lssI rfl (HF.ev rfl) (HF.ev rfl)) ?_; clear HF; clear a; intro a HF
      refine wl_y rfl HF rfl rfl (yl_move rfl (HF.ev rfl)) ?_; clear HF; clear a; intro a HF
      refine HF.cases 79 rfl (fun cc13 HF1 => ?_) (fun cc13 HF1 => ?_)
      · clear HF; have HF := HF1; clear HF1
        have hj64 := of_decide_eq_true cc13
        refine wl_yg HF rfl rfl rfl rfl rfl (yl_move rfl (HF.ev rfl)) ?_; clear HF; clear a; intro a HF
        refine wl_yg HF rfl rfl rfl rfl rfl (yl_nilCheck rfl (HF.ev rfl)) ?_; clear HF; clear a; intro a HF
        refine wl_yg HF rfl rfl rfl rfl rfl (yl_fieldAddr (j := 1) rfl (HF.ev rfl) (by kernel_rfl)) ?_; clear HF; clear a; intro a HF
        refine wl_yg HF rfl rfl rfl rfl rfl (yl_fieldAddr (j := 0) rfl (HF.ev rfl) (by kernel_rfl)) ?_; clear HF; clear a; intro a HF
        refine wl_yg HF rfl rfl rfl rfl rfl (yl_load (v := .slice (some ⟨g1, 0, none⟩) st.fSpace.fRefs.length c1) rfl (HF.ev rfl) (((HS.out.box 1 rfl).cell 1).trans rfl) (by kernel_rfl)) ?_; clear HF; clear a; intro a HF
        refine wl_yg HF rfl rfl rfl rfl rfl (yl_move rfl (HF.ev rfl)) ?_; clear HF; clear a; intro a HF
        refine wl_yg HF rfl rfl rfl rfl rfl (yl_indexAddr (e := 3) (i := j) (size := 1) rfl (HF.ev rfl) (HF.ev rfl) (by kernel_rfl) rfl (by omega)) ?_; clear HF; clear a; intro a HF
        refine wl_yg HF rfl rfl rfl rfl rfl (yl_load (v := .int .i64 (st.fSpace.fRefs.getD j 0)) rfl (HF.ev rfl) (HS.out.elem1 encI_len 3 rfl (get_getD (xs := st.fSpace.fRefs) (j := j) (d := 0) (by omega)) rfl) (by kernel_rfl)) ?_; clear HF; clear a; intro a HF
        refine wl_yg HF rfl rfl rfl rfl rfl (yl_gtrI rfl (HF.ev rfl) (HF.ev rfl)) ?_; clear HF; clear a; intro a HF
        refine wl_y rfl HF rfl rfl (yl_pick_t rfl (HF.ev rfl) (HF.ev rfl)) ?_; clear HF; clear a; intro a HF
        refine wpList_nil ?_
        refine ex_then ?_
        refine HF.cases 89 rfl (fun cc14 HF1 => ?_) (fun cc14 HF1 => ?_)
        · clear HF; have HF := HF1; clear HF1
          refine wc_true HF rfl ?_
          refine wp_skip ?_
          refine ex_then ?_
          refine wp_block ?_
          refine wp_region_lit ?_
          refine wl_y rfl HF rfl rfl (yl_move rfl (HF.ev rfl)) ?_; clear HF; clear a; intro a HF
          refine wl_y rfl HF rfl rfl (yl_addI rfl (HF.ev rfl) (HF.ev rfl) (i64w (by omega))) ?_; clear HF; clear a; intro a HF
          refine wl_y rfl HF rfl rfl (yl_assign rfl (HF.ev rfl)) ?_; clear HF; clear a; intro a HF
          refine wpList_nil ?_
          refine ex_block ?_
          refine ex_then ?_
          have hp : usedB st j = false := by unfold usedB; rw [cc14]; rfl
          exact ⟨j + 1, ⟨⟨by omega, find_step (by omega) hp hg rfl⟩, HF.less _ ⟨rfl, rfl, rfl, rfl, rfl, rfl, trivial⟩, HS.out⟩, (by omega)⟩
        · clear HF; have HF := HF1; clear HF1
          have hp : usedB st j = true := by unfold usedB; rw [cc14]; rfl
          have hwr : writeAt st text level = j := by unfold writeAt; rw [if_neg (by omega), find_here (by omega) hp hg]
          refine wc_false HF rfl ?_
          refine wp_exit ?_
          refine ex_then_exit ?_
          refine ex_then_exit ?_
          refine ex_block_hit ?_
          refine ex_then ?_
          refine wp_seq ?_
          refine wp_seq ?_
          refine wp_region_lit ?_
          refine wl_y rfl HF rfl rfl (yl_move rfl (HF.ev rfl)) ?_; clear HF; clear a; intro a HF
          refine wl_y rfl HF rfl rfl (yl_eqlI rfl (HF.ev rfl) (HF.ev rfl)) ?_; clear HF; clear a; intro a HF
          refine wpList_nil ?_
          refine ex_then ?_
          refine HF.cases 93 rfl (fun cc15 HF1 => ?_) (fun cc15 HF1 => ?_)
          · clear HF; have HF := HF1; clear HF1
            exact absurd (eq_of_beq cc15) (by omega)
          · clear HF; have HF := HF1; clear HF1
            refine wc_false HF rfl ?_
            refine wp_skip ?_
            refine ex_then ?_
            refine wp_region_lit ?_
            refine wl_y rfl HF rfl rfl (yl_move rfl (HF.ev rfl)) ?_; clear HF; clear a; intro a HF
            refine wl_y rfl HF rfl rfl (yl_nilCheck rfl (HF.ev rfl)) ?_; clear HF; clear a; intro a HF
            refine wl_y rfl HF rfl rfl (yl_fieldAddr (j := 0) rfl (HF.ev rfl) (by kernel_rfl)) ?_; clear HF; clear a; intro a HF
            refine wl_y rfl HF rfl rfl (yl_load (v := .slice (some ⟨g0, 0, none⟩) st.fRows.length c0) rfl (HF.ev rfl) (((HS.out.box 1 rfl).cell 0).trans rfl) (by kernel_rfl)) ?_; clear HF; clear a; intro a HF
            refine wl_y rfl HF rfl rfl (yl_move rfl (HF.ev rfl)) ?_; clear HF; clear a; intro a HF
            refine wl_y rfl HF rfl rfl (yl_move rfl (HF.ev rfl)) ?_; clear HF; clear a; intro a HF
            refine wl_y rfl HF rfl rfl (yl_indexAddr (e := 9) (i := j) (size := 1) rfl (HF.ev rfl) (HF.ev rfl) (by kernel_rfl) rfl (by omega)) ?_; clear HF; clear a; intro a HF
            refine wl_storeE encS_len rfl rfl rfl (HF.ev rfl) (HF.ev rfl) (by kernel_rfl) HS.out 2 rfl (by omega) (z := text) rfl rfl ?_; clear HS; intro w21 HS; replace HS := Bx.mk HS
            refine wpList_nil ?_
            refine ex_then ?_
            refine wp_seq ?_
            have hrb := hr j
            refine wp_region_lit ?_
            refine wl_y rfl HF rfl rfl (yl_move rfl (HF.ev rfl)) ?_; clear HF; clear a; intro a HF
            refine wl_y rfl HF rfl rfl (yl_nilCheck rfl (HF.ev rfl)) ?_; clear HF; clear a; intro a HF
            refine wl_y rfl HF rfl rfl (yl_fieldAddr (j := 1) rfl (HF.ev rfl) (by kernel_rfl)) ?_; clear HF; clear a; intro a HF
            refine wl_y rfl HF rfl rfl (yl_fieldAddr (j := 0) rfl (HF.ev rfl) (by kernel_rfl)) ?_; clear HF; clear a; intro a HF
            refine wl_y rfl HF rfl rfl (yl_load (v := .slice (some ⟨g1, 0, none⟩) st.fSpace.fRefs.length c1) rfl (HF.ev rfl) (((HS.out.box 1 rfl).cell 1).trans rfl) (by kernel_rfl)) ?_; clear HF; clear a; intro a HF
            refine wl_y rfl HF rfl rfl (yl_move rfl (HF.ev rfl)) ?_; clear HF; clear a; intro a HF
            refine wl_y rfl HF rfl rfl (yl_indexAddr (e := 3) (i := j) (size := 1) rfl (HF.ev rfl) (HF.ev rfl) (by kernel_rfl) rfl (by omega)) ?_; clear HF; clear a; intro a HF
            refine wl_y rfl HF rfl rfl (yl_load (v := .int .i64 (st.fSpace.fRefs.getD j 0)) rfl (HF.ev rfl) (HS.out.elem1 encI_len 3 rfl (get_getD (xs := st.fSpace.fRefs) (j := j) (d := 0) (by omega)) rfl) (by kernel_rfl)) ?_; clear HF; clear a; intro a HF
            refine wl_y rfl HF rfl rfl (yl_addI rfl (HF.ev rfl) (HF.ev rfl) (i64w (by omega))) ?_; clear HF; clear a; intro a HF
            refine wl_y rfl HF rfl rfl (yl_indexAddr (e := 3) (i := j) (size := 1) rfl (HF.ev rfl) (HF.ev rfl) (by kernel_rfl) rfl (by omega)) ?_; clear HF; clear a; intro a HF
            refine wl_storeE encI_len rfl rfl rfl (HF.ev rfl) (HF.ev rfl) (by kernel_rfl) HS.out 3 rfl (by omega) (z := ((st.fSpace.fRefs.getD j 0) + 1)) rfl rfl ?_; clear HS; intro w22 HS; replace HS := Bx.mk HS
            refine wpList_nil ?_
            refine ex_then ?_
            refine wp_seq ?_
            refine wr_tail 11 (by kernel_rfl) (by kernel_rfl) HS.out ?_
            simp only [List.take_succ_cons, List.take_zero, List.drop_succ_cons, List.drop_zero]
            intro w23 HS
            replace HS := Bx.mk HS
            refine ws_y rfl HF rfl rfl (yl_move rfl (HF.ev rfl)) ?_; clear HF; clear a; intro a HF
            refine ws_y rfl HF rfl rfl (yl_nilCheck rfl (HF.ev rfl)) ?_; clear HF; clear a; intro a HF
            refine ws_y rfl HF rfl rfl (yl_fieldAddr (j := 1) rfl (HF.ev rfl) (by kernel_rfl)) ?_; clear HF; clear a; intro a HF
            refine ws_y rfl HF rfl rfl (yl_fieldAddr (j := 1) rfl (HF.ev rfl) (by kernel_rfl)) ?_; clear HF; clear a; intro a HF
            refine ws_y rfl HF rfl rfl (yl_load (v := .slice (some ⟨g2, 0, none⟩) st.fSpace.fLast.length c2) rfl (HF.ev rfl) (((HS.out.box 1 rfl).cell 2).trans rfl) (by kernel_rfl)) ?_; clear HF; clear a; intro a HF
            refine ws_y rfl HF rfl rfl (yl_move rfl (HF.ev rfl)) ?_; clear HF; clear a; intro a HF
            refine ws_y rfl HF rfl rfl (yl_move rfl (HF.ev rfl)) ?_; clear HF; clear a; intro a HF
            refine ws_y rfl HF rfl rfl (yl_nilCheck rfl (HF.ev rfl)) ?_; clear HF; clear a; intro a HF
            refine ws_y rfl HF rfl rfl (yl_fieldAddr (j := 3) rfl (HF.ev rfl) (by kernel_rfl)) ?_; clear HF; clear a; intro a HF
            refine ws_y rfl HF rfl rfl (yl_load (v := .int .i64 st.fTxg) rfl (HF.ev rfl) (((HS.out.box 1 rfl).cell 3).trans rfl) (by kernel_rfl)) ?_; clear HF; clear a; intro a HF
            refine ws_y rfl HF rfl rfl (yl_indexAddr (e := 3) (i := j) (size := 1) rfl (HF.ev rfl) (HF.ev rfl) (by kernel_rfl) rfl (by omega)) ?_; clear HF; clear a; intro a HF
            refine wpStill_nil ?_
            refine wl_storeE encI_len rfl rfl rfl (HF.ev rfl) (HF.ev rfl) (by kernel_rfl) HS.out 4 rfl (by omega) (z := st.fTxg) rfl rfl ?_; clear HS; intro w24 HS; replace HS := Bx.mk HS
            refine wpList_nil ?_
            refine ex_then ?_
            refine wp_seq ?_
            refine wp_region_lit ?_
            refine wl_y rfl HF rfl rfl (yl_move rfl (HF.ev rfl)) ?_; clear HF; clear a; intro a HF
            refine wl_y rfl HF rfl rfl (yl_move rfl (HF.ev rfl)) ?_; clear HF; clear a; intro a HF
            refine wl_y rfl HF rfl rfl (yl_nilCheck rfl (HF.ev rfl)) ?_; clear HF; clear a; intro a HF
            refine wl_y rfl HF rfl rfl (yl_fieldAddr (j := 3) rfl (HF.ev rfl) (by kernel_rfl)) ?_; clear HF; clear a; intro a HF
            refine wl_y rfl HF rfl rfl (yl_load (v := .int .i64 st.fTxg) rfl (HF.ev rfl) (((HS.out.box 1 rfl).cell 3).trans rfl) (by kernel_rfl)) ?_; clear HF; clear a; intro a HF
            refine wl_y rfl HF rfl rfl (yl_move rfl (HF.ev rfl)) ?_; clear HF; clear a; intro a HF
            refine wl_y rfl HF rfl rfl (yl_move rfl (HF.ev rfl)) ?_; clear HF; clear a; intro a HF
            refine wl_callB rfl HF rfl (enter_of Try.func14 (by kernel_rfl) rfl) (args := #[.int .i64 (j : Int), .int .i64 st.fTxg, .int .i64 level, .string text]) rfl (v := .tuple #[.agg #[.int .i64 ((ptrOf (j : Int) st.fTxg level text).fAt), .int .i64 ((ptrOf (j : Int) st.fTxg level text).fBirth), .int .i64 ((ptrOf (j : Int) st.fTxg level text).fSize), .int .i64 ((ptrOf (j : Int) st.fTxg level text).fSum), .int .i64 ((ptrOf (j : Int) st.fTxg level text).fLevel)], .bool (ptrOk (j : Int) st.fTxg level text)]) (ptrOfI_any (j : Int) st.fTxg level text _ (by omega)) rfl rfl HS.out ?_; clear HF HS; clear a; intro w25 a HS HF; replace HS := Bx.mk HS
            refine wl_y rfl HF rfl rfl (yl_extract rfl (HF.ev rfl) rfl) ?_; clear HF; clear a; intro a HF
            refine wl_y rfl HF rfl rfl (yl_extract rfl (HF.ev rfl) rfl) ?_; clear HF; clear a; intro a HF
            refine wl_storeBox rfl HF rfl rfl (HF.ev rfl) (HF.ev rfl) HS.out 0 rfl (cells_lit [.int .i64 ((ptrOf (j : Int) st.fTxg level text).fAt), .int .i64 ((ptrOf (j : Int) st.fTxg level text).fBirth), .int .i64 ((ptrOf (j : Int) st.fTxg level text).fSize), .int .i64 ((ptrOf (j : Int) st.fTxg level text).fSum), .int .i64 ((ptrOf (j : Int) st.fTxg level text).fLevel)] rfl rfl) (by kernel_rfl) ?_; clear HS; intro w26 HS; replace HS := Bx.mk HS
            have HS : Bx (St w0 (boxA b1 5 33 (.agg #[.int .i64 ((ptrOf (j : Int) st.fTxg level text).fAt), .int .i64 ((ptrOf (j : Int) st.fTxg level text).fBirth), .int .i64 ((ptrOf (j : Int) st.fTxg level text).fSize), .int .i64 ((ptrOf (j : Int) st.fTxg level text).fSum), .int .i64 ((ptrOf (j : Int) st.fTxg level text).fLevel)]) :: boxA b 8 65 (.agg #[.slice (some ⟨g0, 0, none⟩) st.fRows.length c0, .slice (some ⟨g1, 0, none⟩) st.fSpace.fRefs.length c1, .slice (some ⟨g2, 0, none⟩) st.fSpace.fLast.length c2, .int .i64 st.fTxg, .slice a4 st.fGone.length c4, .int .i64 st.fKeep, .slice a6 st.fDead.length c6, .bool st.fSame]) :: rowA encS 1 9 (.slice (some ⟨g0, 0, none⟩) st.fRows.length c0) (st.fRows.set j text) :: rowA encI 1 3 (.slice (some ⟨g1, 0, none⟩) st.fSpace.fRefs.length c1) (st.fSpace.fRefs.set j ((st.fSpace.fRefs.getD j 0) + 1)) :: rowA encI 1 3 (.slice (some ⟨g2, 0, none⟩) st.fSpace.fLast.length c2) (st.fSpace.fLast.set j st.fTxg) :: F) _) := HS
            refine wl_y rfl HF rfl rfl (yl_assign rfl (HF.ev rfl)) ?_; clear HF; clear a; intro a HF
            refine wpList_nil ?_
            refine ex_then ?_
            refine wp_ret ?_
            refine bp_ret2 HF Try.results90 (HF.resBox rfl (HS.out.box 0 rfl) (by kernel_rfl)) (HF.res rfl) ?_
            exact .inr ⟨j, by omega, hwr, rfl, .inr ⟨by omega, HS.out.tail⟩⟩
      · clear HF; have HF := HF1; clear HF1
        have hj64 := of_decide_eq_false cc13
        refine wl_skip HF rfl rfl rfl rfl rfl rfl ?_; clear HF; clear a; intro a HF
        refine wl_skip HF rfl rfl rfl rfl rfl rfl ?_; clear HF; clear a; intro a HF
        refine wl_skip HF rfl rfl rfl rfl rfl rfl ?_; clear HF; clear a; intro a HF
        refine wl_skip HF rfl rfl rfl rfl rfl rfl ?_; clear HF; clear a; intro a HF
        refine wl_skip HF rfl rfl rfl rfl rfl rfl ?_; clear HF; clear a; intro a HF
        refine wl_skip HF rfl rfl rfl rfl rfl rfl ?_; clear HF; clear a; intro a HF
        refine wl_skip HF rfl rfl rfl rfl rfl rfl ?_; clear HF; clear a; intro a HF
        refine wl_skip HF rfl rfl rfl rfl rfl rfl ?_; clear HF; clear a; intro a HF
        refine wl_skip HF rfl rfl rfl rfl rfl rfl ?_; clear HF; clear a; intro a HF
        refine wl_y rfl HF rfl rfl (yl_pick_f rfl (HF.ev rfl) (HF.ev rfl)) ?_; clear HF; clear a; intro a HF
        refine wpList_nil ?_
        refine ex_then ?_
        refine wc_false HF rfl ?_
        refine wp_exit ?_
        refine ex_then_exit ?_
        refine ex_then_exit ?_
        refine ex_block_hit ?_
        refine ex_then ?_
        refine wp_seq ?_
        refine wp_seq ?_
        refine wp_region_lit ?_
        refine wl_y rfl HF rfl rfl (yl_move rfl (HF.ev rfl)) ?_; clear HF; clear a; intro a HF
        refine wl_y rfl HF rfl rfl (yl_eqlI rfl (HF.ev rfl) (HF.ev rfl)) ?_; clear HF; clear a; intro a HF
        refine wpList_nil ?_
        refine ex_then ?_
        refine HF.cases 93 rfl (fun cc16 HF1 => ?_) (fun cc16 HF1 => ?_)
        · clear HF; have HF := HF1; clear HF1
          refine wc_true HF rfl ?_
          refine wp_seq ?_
          refine wp_region_lit ?_
          refine wl_y rfl HF rfl rfl (yl_build HF rfl (ps := []) rfl (cs := #[.int .i64 0, .int .i64 0, .int .i64 0, .int .i64 0, .int .i64 0]) (by kernel_rfl)) ?_; clear HF; clear a; intro a HF
          refine wl_storeBox rfl HF rfl rfl (HF.ev rfl) (HF.ev rfl) HS.out 0 rfl (cells_lit [.int .i64 0, .int .i64 0, .int .i64 0, .int .i64 0, .int .i64 0] rfl rfl) (by kernel_rfl) ?_; clear HS; intro w27 HS; replace HS := Bx.mk HS
          have HS : Bx (St w0 (boxA b1 5 33 (.agg #[.int .i64 0, .int .i64 0, .int .i64 0, .int .i64 0, .int .i64 0]) :: boxA b 8 65 (.agg #[.slice (some ⟨g0, 0, none⟩) st.fRows.length c0, .slice (some ⟨g1, 0, none⟩) st.fSpace.fRefs.length c1, .slice (some ⟨g2, 0, none⟩) st.fSpace.fLast.length c2, .int .i64 st.fTxg, .slice a4 st.fGone.length c4, .int .i64 st.fKeep, .slice a6 st.fDead.length c6, .bool st.fSame]) :: rowA encS 1 9 (.slice (some ⟨g0, 0, none⟩) st.fRows.length c0) st.fRows :: rowA encI 1 3 (.slice (some ⟨g1, 0, none⟩) st.fSpace.fRefs.length c1) st.fSpace.fRefs :: rowA encI 1 3 (.slice (some ⟨g2, 0, none⟩) st.fSpace.fLast.length c2) st.fSpace.fLast :: F) _) := HS
          refine wl_y rfl HF rfl rfl (yl_assign rfl (HF.ev rfl)) ?_; clear HF; clear a; intro a HF
          refine wpList_nil ?_
          refine ex_then ?_
          refine wp_ret ?_
          refine ex_then_ret ?_
          refine ex_then_ret ?_
          refine bp_ret2 HF Try.results90 (HF.resBox rfl (HS.out.box 0 rfl) (by kernel_rfl)) (HF.res rfl) ?_
          exact .inl ⟨by unfold writeAt; rw [if_neg (by omega), find_end (by omega) hg], rfl, HS.out.tail⟩
        · clear HF; have HF := HF1; clear HF1
          exact absurd (beq_eq_false_iff_ne.1 cc16) (by omega)
  · clear HF; have HF := HF1; clear HF1
    have hsame : (st.fSame && (level == 0)) = false := by rw [cc1]; rfl
    have hlk : likeAt st text level = 64 := by unfold likeAt; rw [if_neg (by rw [hsame]; simp)]
    refine wl_skip HF rfl rfl rfl rfl rfl rfl ?_; clear HF; clear a; intro a HF
    refine wl_skip HF rfl rfl rfl rfl rfl rfl ?_; clear HF; clear a; intro a HF
    refine wl_y rfl HF rfl rfl (yl_pick_f rfl (HF.ev rfl) (HF.ev rfl)) ?_; clear HF; clear a; intro a HF
    refine wpList_nil ?_
    refine ex_then ?_
    refine wc_false HF rfl ?_
    refine wp_skip ?_
    refine ex_then ?_
    refine wp_seq ?_
    refine wp_seq ?_
    refine wp_region_lit ?_
    refine wl_y rfl HF rfl rfl (yl_move rfl (HF.ev rfl)) ?_; clear HF; clear a; intro a HF
    refine wl_y rfl HF rfl rfl (yl_lssI rfl (HF.ev rfl) (HF.ev rfl)) ?_; clear HF; clear a; intro a HF
    refine wpList_nil ?_
    refine ex_then ?_
    replace HF := HF.know (k := 76) (c := true) rfl (by decide)
    refine wc_true HF rfl ?_
    refine wp_seq ?_
    refine wp_region_lit ?_
    refine wl_y rfl HF rfl rfl (yl_assign rfl (HF.ev rfl)) ?_; clear HF; clear a; intro a HF
    refine wpList_nil ?_
    refine ex_then ?_
    refine wp_seq ?_
    refine wp_block ?_
    refine wc_loop (ι := Nat) (fun j a w => ((8 ≤ j ∧ j ≤ 64) ∧ findUp (usedB st) 56 8 = findUp (usedB st) (64 - j) j) ∧ Fr 133 a [(0, .pointer (some ⟨b, 0, none⟩)), (1, .string text), (2, .int .i64 level), (6, .pointer (some ⟨b1, 0, none⟩)), (7, .bool false), (8, .int .i64 (j : Int))] ∧ St w0 (boxA b1 5 33 (.agg #[.int .i64 0, .int .i64 0, .int .i64 0, .int .i64 0, .int .i64 0]) :: boxA b 8 65 (.agg #[.slice (some ⟨g0, 0, none⟩) st.fRows.length c0, .slice (some ⟨g1, 0, none⟩) st.fSpace.fRefs.length c1, .slice (some ⟨g2, 0, none⟩) st.fSpace.fLast.length c2, .int .i64 st.fTxg, .slice a4 st.fGone.length c4, .int .i64 st.fKeep, .slice a6 st.fDead.length c6, .bool st.fSame]) :: rowA encS 1 9 (.slice (some ⟨g0, 0, none⟩) st.fRows.length c0) st.fRows :: rowA encI 1 3 (.slice (some ⟨g1, 0, none⟩) st.fSpace.fRefs.length c1) st.fSpace.fRefs :: rowA encI 1 3 (.slice (some ⟨g2, 0, none⟩) st.fSpace.fLast.length c2) st.fSpace.fLast :: F) w) (fun j => 64 - j) 8 ⟨⟨by omega, rfl⟩, HF.less _ ⟨rfl, rfl, rfl, rfl, rfl, rfl, trivial⟩, HS.out⟩ ?_
    clear HF HS; clear a
    rintro j a w28 ⟨⟨⟨hj8, hj⟩, hg⟩, HF, HS⟩
    replace HS := Bx.mk HS
    refine wp_seq ?_
    refine wp_seq ?_
    refine wp_region_lit ?_
    refine wl_y rfl HF rfl rfl (yl_move rfl (HF.ev rfl)) ?_; clear HF; clear a; intro a HF
    refine wl_y rfl HF rfl rfl (yl_lssI rfl (HF.ev rfl) (HF.ev rfl)) ?_; clear HF; clear a; intro a HF
    refine wl_y rfl HF rfl rfl (yl_move rfl (HF.ev rfl)) ?_; clear HF; clear a; intro a HF
    refine HF.cases 79 rfl (fun cc17 HF1 => ?_) (fun cc17 HF1 => ?_)
    · clear HF; have HF := HF1; clear HF1
      have hj64 := of_decide_eq_true cc17
      refine wl_yg HF rfl rfl rfl rfl rfl (yl_move rfl (HF.ev rfl)) ?_; clear HF; clear a; intro a HF
      refine wl_yg HF rfl rfl rfl rfl rfl (yl_nilCheck rfl (HF.ev rfl)) ?_; clear HF; clear a; intro a HF
      refine wl_yg HF rfl rfl rfl rfl rfl (yl_fieldAddr (j := 1) rfl (HF.ev rfl) (by kernel_rfl)) ?_; clear HF; clear a; intro a HF
      refine wl_yg HF rfl rfl rfl rfl rfl (yl_fieldAddr (j := 0) rfl (HF.ev rfl) (by kernel_rfl)) ?_; clear HF; clear a; intro a HF
      refine wl_yg HF rfl rfl rfl rfl rfl (yl_load (v := .slice (some ⟨g1, 0, none⟩) st.fSpace.fRefs.length c1) rfl (HF.ev rfl) (((HS.out.box 1 rfl).cell 1).trans rfl) (by kernel_rfl)) ?_; clear HF; clear a; intro a HF
      refine wl_yg HF rfl rfl rfl rfl rfl (yl_move rfl (HF.ev rfl)) ?_; clear HF; clear a; intro a HF
      refine wl_yg HF rfl rfl rfl rfl rfl (yl_indexAddr (e := 3) (i := j) (size := 1) rfl (HF.ev rfl) (HF.ev rfl) (by kernel_rfl) rfl (by omega)) ?_; clear HF; clear a; intro a HF
      refine wl_yg HF rfl rfl rfl rfl rfl (yl_load (v := .int .i64 (st.fSpace.fRefs.getD j 0)) rfl (HF.ev rfl) (HS.out.elem1 encI_len 3 rfl (get_getD (xs := st.fSpace.fRefs) (j := j) (d := 0) (by omega)) rfl) (by kernel_rfl)) ?_; clear HF; clear a; intro a HF
      refine wl_yg HF rfl rfl rfl rfl rfl (yl_gtrI rfl (HF.ev rfl) (HF.ev rfl)) ?_; clear HF; clear a; intro a HF
      refine wl_y rfl HF rfl rfl (yl_pick_t rfl (HF.ev rfl) (HF.ev rfl)) ?_; clear HF; clear a; intro a HF
      refine wpList_nil ?_
      refine ex_then ?_
      refine HF.cases 89 rfl (fun cc18 HF1 => ?_) (fun cc18 HF1 => ?_)
      · clear HF; have HF := HF1; clear HF1
        refine wc_true HF rfl ?_
        refine wp_skip ?_
        refine ex_then ?_
        refine wp_block ?_
        refine wp_region_lit ?_
        refine wl_y rfl HF rfl rfl (yl_move rfl (HF.ev rfl)) ?_; clear HF; clear a; intro a HF
        refine wl_y rfl HF rfl rfl (yl_addI rfl (HF.ev rfl) (HF.ev rfl) (i64w (by omega))) ?_; clear HF; clear a; intro a HF
        refine wl_y rfl HF rfl rfl (yl_assign rfl (HF.ev rfl)) ?_; clear HF; clear a; intro a HF
        refine wpList_nil ?_
        refine ex_block ?_
        refine ex_then ?_
        have hp : usedB st j = false := by unfold usedB; rw [cc18]; rfl
        exact ⟨j + 1, ⟨⟨by omega, find_step (by omega) hp hg rfl⟩, HF.less _ ⟨rfl, rfl, rfl, rfl, rfl, rfl, trivial⟩, HS.out⟩, (by omega)⟩
      · clear HF; have HF := HF1; clear HF1
        have hp : usedB st j = true := by unfold usedB; rw [cc18]; rfl
        have hwr : writeAt st text level = j := by unfold writeAt; rw [if_neg (by omega), find_here (by omega) hp hg]
        refine wc_false HF rfl ?_
        refine wp_exit ?_
        refine ex_then_exit ?_
        refine ex_then_exit ?_
        refine ex_block_hit ?_
        refine ex_then ?_
        refine wp_seq ?_
        refine wp_seq ?_
        refine wp_region_lit ?_
        refine wl_y rfl HF rfl rfl (yl_move rfl (HF.ev rfl)) ?_; clear HF; clear a; intro a HF
        refine wl_y rfl HF rfl rfl (yl_eqlI rfl (HF.ev rfl) (HF.ev rfl)) ?_; clear HF; clear a; intro a HF
        refine wpList_nil ?_
        refine ex_then ?_
        refine HF.cases 93 rfl (fun cc19 HF1 => ?_) (fun cc19 HF1 => ?_)
        · clear HF; have HF := HF1; clear HF1
          exact absurd (eq_of_beq cc19) (by omega)
        · clear HF; have HF := HF1; clear HF1
          refine wc_false HF rfl ?_
          refine wp_skip ?_
          refine ex_then ?_
          refine wp_region_lit ?_
          refine wl_y rfl HF rfl rfl (yl_move rfl (HF.ev rfl)) ?_; clear HF; clear a; intro a HF
          refine wl_y rfl HF rfl rfl (yl_nilCheck rfl (HF.ev rfl)) ?_; clear HF; clear a; intro a HF
          refine wl_y rfl HF rfl rfl (yl_fieldAddr (j := 0) rfl (HF.ev rfl) (by kernel_rfl)) ?_; clear HF; clear a; intro a HF
          refine wl_y rfl HF rfl rfl (yl_load (v := .slice (some ⟨g0, 0, none⟩) st.fRows.length c0) rfl (HF.ev rfl) (((HS.out.box 1 rfl).cell 0).trans rfl) (by kernel_rfl)) ?_; clear HF; clear a; intro a HF
          refine wl_y rfl HF rfl rfl (yl_move rfl (HF.ev rfl)) ?_; clear HF; clear a; intro a HF
          refine wl_y rfl HF rfl rfl (yl_move rfl (HF.ev rfl)) ?_; clear HF; clear a; intro a HF
          refine wl_y rfl HF rfl rfl (yl_indexAddr (e := 9) (i := j) (size := 1) rfl (HF.ev rfl) (HF.ev rfl) (by kernel_rfl) rfl (by omega)) ?_; clear HF; clear a; intro a HF
          refine wl_storeE encS_len rfl rfl rfl (HF.ev rfl) (HF.ev rfl) (by kernel_rfl) HS.out 2 rfl (by omega) (z := text) rfl rfl ?_; clear HS; intro w29 HS; replace HS := Bx.mk HS
          refine wpList_nil ?_
          refine ex_then ?_
          refine wp_seq ?_
          have hrb := hr j
          refine wp_region_lit ?_
          refine wl_y rfl HF rfl rfl (yl_move rfl (HF.ev rfl)) ?_; clear HF; clear a; intro a HF
          refine wl_y rfl HF rfl rfl (yl_nilCheck rfl (HF.ev rfl)) ?_; clear HF; clear a; intro a HF
          refine wl_y rfl HF rfl rfl (yl_fieldAddr (j := 1) rfl (HF.ev rfl) (by kernel_rfl)) ?_; clear HF; clear a; intro a HF
          refine wl_y rfl HF rfl rfl (yl_fieldAddr (j := 0) rfl (HF.ev rfl) (by kernel_rfl)) ?_; clear HF; clear a; intro a HF
          refine wl_y rfl HF rfl rfl (yl_load (v := .slice (some ⟨g1, 0, none⟩) st.fSpace.fRefs.length c1) rfl (HF.ev rfl) (((HS.out.box 1 rfl).cell 1).trans rfl) (by kernel_rfl)) ?_; clear HF; clear a; intro a HF
          refine wl_y rfl HF rfl rfl (yl_move rfl (HF.ev rfl)) ?_; clear HF; clear a; intro a HF
          refine wl_y rfl HF rfl rfl (yl_indexAddr (e := 3) (i := j) (size := 1) rfl (HF.ev rfl) (HF.ev rfl) (by kernel_rfl) rfl (by omega)) ?_; clear HF; clear a; intro a HF
          refine wl_y rfl HF rfl rfl (yl_load (v := .int .i64 (st.fSpace.fRefs.getD j 0)) rfl (HF.ev rfl) (HS.out.elem1 encI_len 3 rfl (get_getD (xs := st.fSpace.fRefs) (j := j) (d := 0) (by omega)) rfl) (by kernel_rfl)) ?_; clear HF; clear a; intro a HF
          refine wl_y rfl HF rfl rfl (yl_addI rfl (HF.ev rfl) (HF.ev rfl) (i64w (by omega))) ?_; clear HF; clear a; intro a HF
          refine wl_y rfl HF rfl rfl (yl_indexAddr (e := 3) (i := j) (size := 1) rfl (HF.ev rfl) (HF.ev rfl) (by kernel_rfl) rfl (by omega)) ?_; clear HF; clear a; intro a HF
          refine wl_storeE encI_len rfl rfl rfl (HF.ev rfl) (HF.ev rfl) (by kernel_rfl) HS.out 3 rfl (by omega) (z := ((st.fSpace.fRefs.getD j 0) + 1)) rfl rfl ?_; clear HS; intro w30 HS; replace HS := Bx.mk HS
          refine wpList_nil ?_
          refine ex_then ?_
          refine wp_seq ?_
          refine wr_tail 11 (by kernel_rfl) (by kernel_rfl) HS.out ?_
          simp only [List.take_succ_cons, List.take_zero, List.drop_succ_cons, List.drop_zero]
          intro w31 HS
          replace HS := Bx.mk HS
          refine ws_y rfl HF rfl rfl (yl_move rfl (HF.ev rfl)) ?_; clear HF; clear a; intro a HF
          refine ws_y rfl HF rfl rfl (yl_nilCheck rfl (HF.ev rfl)) ?_; clear HF; clear a; intro a HF
          refine ws_y rfl HF rfl rfl (yl_fieldAddr (j := 1) rfl (HF.ev rfl) (by kernel_rfl)) ?_; clear HF; clear a; intro a HF
          refine ws_y rfl HF rfl rfl (yl_fieldAddr (j := 1) rfl (HF.ev rfl) (by kernel_rfl)) ?_; clear HF; clear a; intro a HF
          refine ws_y rfl HF rfl rfl (yl_load (v := .slice (some ⟨g2, 0, none⟩) st.fSpace.fLast.length c2) rfl (HF.ev rfl) (((HS.out.box 1 rfl).cell 2).trans rfl) (by kernel_rfl)) ?_; clear HF; clear a; intro a HF
          refine ws_y rfl HF rfl rfl (yl_move rfl (HF.ev rfl)) ?_; clear HF; clear a; intro a HF
          refine ws_y rfl HF rfl rfl (yl_move rfl (HF.ev rfl)) ?_; clear HF; clear a; intro a HF
          refine ws_y rfl HF rfl rfl (yl_nilCheck rfl (HF.ev rfl)) ?_; clear HF; clear a; intro a HF
          refine ws_y rfl HF rfl rfl (yl_fieldAddr (j := 3) rfl (HF.ev rfl) (by kernel_rfl)) ?_; clear HF; clear a; intro a HF
          refine ws_y rfl HF rfl rfl (yl_load (v := .int .i64 st.fTxg) rfl (HF.ev rfl) (((HS.out.box 1 rfl).cell 3).trans rfl) (by kernel_rfl)) ?_; clear HF; clear a; intro a HF
          refine ws_y rfl HF rfl rfl (yl_indexAddr (e := 3) (i := j) (size := 1) rfl (HF.ev rfl) (HF.ev rfl) (by kernel_rfl) rfl (by omega)) ?_; clear HF; clear a; intro a HF
          refine wpStill_nil ?_
          refine wl_storeE encI_len rfl rfl rfl (HF.ev rfl) (HF.ev rfl) (by kernel_rfl) HS.out 4 rfl (by omega) (z := st.fTxg) rfl rfl ?_; clear HS; intro w32 HS; replace HS := Bx.mk HS
          refine wpList_nil ?_
          refine ex_then ?_
          refine wp_seq ?_
          refine wp_region_lit ?_
          refine wl_y rfl HF rfl rfl (yl_move rfl (HF.ev rfl)) ?_; clear HF; clear a; intro a HF
          refine wl_y rfl HF rfl rfl (yl_move rfl (HF.ev rfl)) ?_; clear HF; clear a; intro a HF
          refine wl_y rfl HF rfl rfl (yl_nilCheck rfl (HF.ev rfl)) ?_; clear HF; clear a; intro a HF
          refine wl_y rfl HF rfl rfl (yl_fieldAddr (j := 3) rfl (HF.ev rfl) (by kernel_rfl)) ?_; clear HF; clear a; intro a HF
          refine wl_y rfl HF rfl rfl (yl_load (v := .int .i64 st.fTxg) rfl (HF.ev rfl) (((HS.out.box 1 rfl).cell 3).trans rfl) (by kernel_rfl)) ?_; clear HF; clear a; intro a HF
          refine wl_y rfl HF rfl rfl (yl_move rfl (HF.ev rfl)) ?_; clear HF; clear a; intro a HF
          refine wl_y rfl HF rfl rfl (yl_move rfl (HF.ev rfl)) ?_; clear HF; clear a; intro a HF
          refine wl_callB rfl HF rfl (enter_of Try.func14 (by kernel_rfl) rfl) (args := #[.int .i64 (j : Int), .int .i64 st.fTxg, .int .i64 level, .string text]) rfl (v := .tuple #[.agg #[.int .i64 ((ptrOf (j : Int) st.fTxg level text).fAt), .int .i64 ((ptrOf (j : Int) st.fTxg level text).fBirth), .int .i64 ((ptrOf (j : Int) st.fTxg level text).fSize), .int .i64 ((ptrOf (j : Int) st.fTxg level text).fSum), .int .i64 ((ptrOf (j : Int) st.fTxg level text).fLevel)], .bool (ptrOk (j : Int) st.fTxg level text)]) (ptrOfI_any (j : Int) st.fTxg level text _ (by omega)) rfl rfl HS.out ?_; clear HF HS; clear a; intro w33 a HS HF; replace HS := Bx.mk HS
          refine wl_y rfl HF rfl rfl (yl_extract rfl (HF.ev rfl) rfl) ?_; clear HF; clear a; intro a HF
          refine wl_y rfl HF rfl rfl (yl_extract rfl (HF.ev rfl) rfl) ?_; clear HF; clear a; intro a HF
          refine wl_storeBox rfl HF rfl rfl (HF.ev rfl) (HF.ev rfl) HS.out 0 rfl (cells_lit [.int .i64 ((ptrOf (j : Int) st.fTxg level text).fAt), .int .i64 ((ptrOf (j : Int) st.fTxg level text).fBirth), .int .i64 ((ptrOf (j : Int) st.fTxg level text).fSize), .int .i64 ((ptrOf (j : Int) st.fTxg level text).fSum), .int .i64 ((ptrOf (j : Int) st.fTxg level text).fLevel)] rfl rfl) (by kernel_rfl) ?_; clear HS; intro w34 HS; replace HS := Bx.mk HS
          have HS : Bx (St w0 (boxA b1 5 33 (.agg #[.int .i64 ((ptrOf (j : Int) st.fTxg level text).fAt), .int .i64 ((ptrOf (j : Int) st.fTxg level text).fBirth), .int .i64 ((ptrOf (j : Int) st.fTxg level text).fSize), .int .i64 ((ptrOf (j : Int) st.fTxg level text).fSum), .int .i64 ((ptrOf (j : Int) st.fTxg level text).fLevel)]) :: boxA b 8 65 (.agg #[.slice (some ⟨g0, 0, none⟩) st.fRows.length c0, .slice (some ⟨g1, 0, none⟩) st.fSpace.fRefs.length c1, .slice (some ⟨g2, 0, none⟩) st.fSpace.fLast.length c2, .int .i64 st.fTxg, .slice a4 st.fGone.length c4, .int .i64 st.fKeep, .slice a6 st.fDead.length c6, .bool st.fSame]) :: rowA encS 1 9 (.slice (some ⟨g0, 0, none⟩) st.fRows.length c0) (st.fRows.set j text) :: rowA encI 1 3 (.slice (some ⟨g1, 0, none⟩) st.fSpace.fRefs.length c1) (st.fSpace.fRefs.set j ((st.fSpace.fRefs.getD j 0) + 1)) :: rowA encI 1 3 (.slice (some ⟨g2, 0, none⟩) st.fSpace.fLast.length c2) (st.fSpace.fLast.set j st.fTxg) :: F) _) := HS
          refine wl_y rfl HF rfl rfl (yl_assign rfl (HF.ev rfl)) ?_; clear HF; clear a; intro a HF
          refine wpList_nil ?_
          refine ex_then ?_
          refine wp_ret ?_
          refine bp_ret2 HF Try.results90 (HF.resBox rfl (HS.out.box 0 rfl) (by kernel_rfl)) (HF.res rfl) ?_
          exact .inr ⟨j, by omega, hwr, rfl, .inr ⟨by omega, HS.out.tail⟩⟩
    · clear HF; have HF := HF1; clear HF1
      have hj64 := of_decide_eq_false cc17
      refine wl_skip HF rfl rfl rfl rfl rfl rfl ?_; clear HF; clear a; intro a HF
      refine wl_skip HF rfl rfl rfl rfl rfl rfl ?_; clear HF; clear a; intro a HF
      refine wl_skip HF rfl rfl rfl rfl rfl rfl ?_; clear HF; clear a; intro a HF
      refine wl_skip HF rfl rfl rfl rfl rfl rfl ?_; clear HF; clear a; intro a HF
      refine wl_skip HF rfl rfl rfl rfl rfl rfl ?_; clear HF; clear a; intro a HF
      refine wl_skip HF rfl rfl rfl rfl rfl rfl ?_; clear HF; clear a; intro a HF
      refine wl_skip HF rfl rfl rfl rfl rfl rfl ?_; clear HF; clear a; intro a HF
      refine wl_skip HF rfl rfl rfl rfl rfl rfl ?_; clear HF; clear a; intro a HF
      refine wl_skip HF rfl rfl rfl rfl rfl rfl ?_; clear HF; clear a; intro a HF
      refine wl_y rfl HF rfl rfl (yl_pick_f rfl (HF.ev rfl) (HF.ev rfl)) ?_; clear HF; clear a; intro a HF
      refine wpList_nil ?_
      refine ex_then ?_
      refine wc_false HF rfl ?_
      refine wp_exit ?_
      refine ex_then_exit ?_
      refine ex_then_exit ?_
      refine ex_block_hit ?_
      refine ex_then ?_
      refine wp_seq ?_
      refine wp_seq ?_
      refine wp_region_lit ?_
      refine wl_y rfl HF rfl rfl (yl_move rfl (HF.ev rfl)) ?_; clear HF; clear a; intro a HF
      refine wl_y rfl HF rfl rfl (yl_eqlI rfl (HF.ev rfl) (HF.ev rfl)) ?_; clear HF; clear a; intro a HF
      refine wpList_nil ?_
      refine ex_then ?_
      refine HF.cases 93 rfl (fun cc20 HF1 => ?_) (fun cc20 HF1 => ?_)
      · clear HF; have HF := HF1; clear HF1
        refine wc_true HF rfl ?_
        refine wp_seq ?_
        refine wp_region_lit ?_
        refine wl_y rfl HF rfl rfl (yl_build HF rfl (ps := []) rfl (cs := #[.int .i64 0, .int .i64 0, .int .i64 0, .int .i64 0, .int .i64 0]) (by kernel_rfl)) ?_; clear HF; clear a; intro a HF
        refine wl_storeBox rfl HF rfl rfl (HF.ev rfl) (HF.ev rfl) HS.out 0 rfl (cells_lit [.int .i64 0, .int .i64 0, .int .i64 0, .int .i64 0, .int .i64 0] rfl rfl) (by kernel_rfl) ?_; clear HS; intro w35 HS; replace HS := Bx.mk HS
        have HS : Bx (St w0 (boxA b1 5 33 (.agg #[.int .i64 0, .int .i64 0, .int .i64 0, .int .i64 0, .int .i64 0]) :: boxA b 8 65 (.agg #[.slice (some ⟨g0, 0, none⟩) st.fRows.length c0, .slice (some ⟨g1, 0, none⟩) st.fSpace.fRefs.length c1, .slice (some ⟨g2, 0, none⟩) st.fSpace.fLast.length c2, .int .i64 st.fTxg, .slice a4 st.fGone.length c4, .int .i64 st.fKeep, .slice a6 st.fDead.length c6, .bool st.fSame]) :: rowA encS 1 9 (.slice (some ⟨g0, 0, none⟩) st.fRows.length c0) st.fRows :: rowA encI 1 3 (.slice (some ⟨g1, 0, none⟩) st.fSpace.fRefs.length c1) st.fSpace.fRefs :: rowA encI 1 3 (.slice (some ⟨g2, 0, none⟩) st.fSpace.fLast.length c2) st.fSpace.fLast :: F) _) := HS
        refine wl_y rfl HF rfl rfl (yl_assign rfl (HF.ev rfl)) ?_; clear HF; clear a; intro a HF
        refine wpList_nil ?_
        refine ex_then ?_
        refine wp_ret ?_
        refine ex_then_ret ?_
        refine ex_then_ret ?_
        refine bp_ret2 HF Try.results90 (HF.resBox rfl (HS.out.box 0 rfl) (by kernel_rfl)) (HF.res rfl) ?_
        exact .inl ⟨by unfold writeAt; rw [if_neg (by omega), find_end (by omega) hg], rfl, HS.out.tail⟩
      · clear HF; have HF := HF1; clear HF1
        exact absurd (beq_eq_false_iff_ne.1 cc20) (by omega)

end Go.Proofs.Ytfijfjjleelphaa
