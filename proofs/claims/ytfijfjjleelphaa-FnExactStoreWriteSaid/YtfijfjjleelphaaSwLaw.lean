/- FnExactStoreWrite: the law's walk. -/
import Derived.Test.YtfijfjjleelphaaSwD
import Derived.Test.YtfijfjjleelphaaStoreM
namespace Go.Proofs.Ytfijfjjleelphaa
open Go.RowKit

theorem StoreD.past_pos1 (x : StoreD) : 0 < x.past 1 := by unfold StoreD.past; omega
theorem wrote_fit {st : StoreD} {text : ByteArray} {level : Int} (hf : st.Fit) : (st.wrote text level).Fit := by
  unfold StoreD.wrote
  split
  · exact ⟨by show (st.fRows.set _ _).length ≤ _; rw [List.length_set]; exact hf.f0, by show (st.fSpace.fRefs.set _ _).length ≤ _; rw [List.length_set]; exact hf.f1, by show (st.fSpace.fLast.set _ _).length ≤ _; rw [List.length_set]; exact hf.f2, hf.f4, hf.f6⟩
  · exact ⟨Nat.zero_le _, Nat.zero_le _, Nat.zero_le _, Nat.zero_le _, Nat.zero_le _⟩
set_option maxHeartbeats 4000000 in
set_option maxRecDepth 100000 in
theorem lawStoreWrite_any (va : Value) (st : StoreD) (text : ByteArray) (level : Int) (w0 : World) (hr : StoreD.Reads w0 va st) (hsm : st.Small) (hi : -9223372036854775808 ≤ st.fTxg) (hs : text.size ≤ 9223372036854775807) : Calls Try.prog 6 #[va, .string text, .int .i64 level] w0 fun e w' => e = .returned (.bool true) ∧ Below w0.heap.size w0 w' := by
  have HR := Bx.mk hr
  obtain ⟨a0, c0, a1, c1, a2, c2, a4, c4, a6, c6, rfl, _⟩ := hr
  have HS := Bx.mk (St.start w0)
  refine wc_enter Try.func6 rfl Try.ntmps6 [(0, .agg #[.slice a0 st.fRows.length c0, .slice a1 st.fSpace.fRefs.length c1, .slice a2 st.fSpace.fLast.length c2, .int .i64 st.fTxg, .slice a4 st.fGone.length c4, .int .i64 st.fKeep, .slice a6 st.fDead.length c6, .bool st.fSame]), (1, .string text), (2, .int .i64 level)] ⟨rfl, rfl, rfl, trivial⟩ rfl ?_; intro a HF
  refine wp_seq ?_
  refine wp_region_lit ?_
  refine wl_box rfl HF rfl (HF.ev rfl) (Z := [.slice a0 st.fRows.length c0, .slice a1 st.fSpace.fRefs.length c1, .slice a2 st.fSpace.fLast.length c2, .int .i64 st.fTxg, .slice a4 st.fGone.length c4, .int .i64 st.fKeep, .slice a6 st.fDead.length c6, .bool st.fSame]) rfl rfl rfl rfl HS.out ?_; clear HF HS; clear a; intro a w1 b1 HF HS; replace HS := Bx.mk HS
  refine wl_y rfl HF rfl rfl (yl_assign rfl (HF.ev rfl)) ?_; clear HF; clear a; intro a HF
  refine wpList_nil ?_
  refine ex_then ?_
  refine wp_seq ?_
  refine wp_seq ?_
  refine wp_region_lit ?_
  refine wl_y rfl HF rfl rfl (yl_move rfl (HF.ev rfl)) ?_; clear HF; clear a; intro a HF
  refine wl_y rfl HF rfl rfl (yl_lenS rfl (HF.ev rfl) (by kernel_rfl)) ?_; clear HF; clear a; intro a HF
  refine wl_y rfl HF rfl rfl (yl_gtrI rfl (HF.ev rfl) (HF.ev rfl)) ?_; clear HF; clear a; intro a HF
  refine wpList_nil ?_
  refine ex_then ?_
  refine HF.cases 23 rfl (fun cc1 HF1 => ?_) (fun cc1 HF1 => ?_)
  · clear HF; have HF := HF1; clear HF1
    have hts := of_decide_eq_true cc1
    refine wc_true HF rfl ?_
    refine wp_seq ?_
    refine wp_region_lit ?_
    refine wl_y rfl HF rfl rfl (yl_assign rfl (HF.ev rfl)) ?_; clear HF; clear a; intro a HF
    refine wpList_nil ?_
    refine ex_then ?_
    refine wp_ret ?_
    refine ex_then_ret ?_
    refine bp_ret1 HF Try.results6 (HF.res rfl) ?_
    exact ⟨rfl, HS.out.bel⟩
  · clear HF; have HF := HF1; clear HF1
    have hts := of_decide_eq_false cc1
    refine wc_false HF rfl ?_
    refine wp_skip ?_
    refine ex_then ?_
    refine wp_seq ?_
    refine wp_region_lit ?_
    refine wl_y rfl HF rfl rfl (yl_assign rfl (HF.ev rfl)) ?_; clear HF; clear a; intro a HF
    refine wpList_nil ?_
    refine ex_then ?_
    refine wp_seq ?_
    refine wp_region_lit ?_
    refine wl_y rfl HF rfl rfl (yl_loadR (cs := [.slice a0 st.fRows.length c0, .slice a1 st.fSpace.fRefs.length c1, .slice a2 st.fSpace.fLast.length c2, .int .i64 st.fTxg, .slice a4 st.fGone.length c4, .int .i64 st.fKeep, .slice a6 st.fDead.length c6, .bool st.fSame]) rfl (HF.ev rfl) ((HS.out.box 0 rfl).sub 0 8) (by kernel_rfl)) ?_; clear HF; clear a; intro a HF
    refine wl_y rfl HF rfl rfl (yl_move rfl (HF.ev rfl)) ?_; clear HF; clear a; intro a HF
    refine wl_callB rfl HF rfl (enter_of Try.func24 (by kernel_rfl) rfl) (args := #[.agg #[.slice a0 st.fRows.length c0, .slice a1 st.fSpace.fRefs.length c1, .slice a2 st.fSpace.fLast.length c2, .int .i64 st.fTxg, .slice a4 st.fGone.length c4, .int .i64 st.fKeep, .slice a6 st.fDead.length c6, .bool st.fSame], .int .i64 1048576]) rfl (v := .int .i64 (leftOf 1048576 st.bulk)) (szStore_any _ st 1048576 _ (by omega) (by omega) (HR.out.below HS.out.bel) hsm) rfl rfl HS.out ?_; clear HF HS; clear a; intro w2 a HS HF; replace HS := Bx.mk HS
    refine wl_y rfl HF rfl rfl (yl_assign rfl (HF.ev rfl)) ?_; clear HF; clear a; intro a HF
    refine wpList_nil ?_
    refine ex_then ?_
    refine wp_seq ?_
    refine wp_seq ?_
    refine wp_region_lit ?_
    refine wl_y rfl HF rfl rfl (yl_move rfl (HF.ev rfl)) ?_; clear HF; clear a; intro a HF
    refine wl_y rfl HF rfl rfl (yl_lssI rfl (HF.ev rfl) (HF.ev rfl)) ?_; clear HF; clear a; intro a HF
    refine wpList_nil ?_
    refine ex_then ?_
    refine HF.cases 28 rfl (fun cc2 HF1 => ?_) (fun cc2 HF1 => ?_)
    · clear HF; have HF := HF1; clear HF1
      refine wc_true HF rfl ?_
      refine wp_seq ?_
      refine wp_region_lit ?_
      refine wl_y rfl HF rfl rfl (yl_assign rfl (HF.ev rfl)) ?_; clear HF; clear a; intro a HF
      refine wpList_nil ?_
      refine ex_then ?_
      refine wp_ret ?_
      refine ex_then_ret ?_
      refine bp_ret1 HF Try.results6 (HF.res rfl) ?_
      exact ⟨rfl, HS.out.bel⟩
    · clear HF; have HF := HF1; clear HF1
      have hbk : st.bulk ≤ 1048576 := by have := of_decide_eq_false cc2; unfold leftOf at this; split at this <;> omega
      have hf := StoreD.fit hbk
      have hfy : (st.wrote text level).Fit := wrote_fit hf
      refine wc_false HF rfl ?_
      refine wp_skip ?_
      refine ex_then ?_
      refine wp_seq ?_
      refine wp_region_lit ?_
      refine wl_y rfl HF rfl rfl (yl_loadR (cs := [.slice a0 st.fRows.length c0, .slice a1 st.fSpace.fRefs.length c1, .slice a2 st.fSpace.fLast.length c2, .int .i64 st.fTxg, .slice a4 st.fGone.length c4, .int .i64 st.fKeep, .slice a6 st.fDead.length c6, .bool st.fSame]) rfl (HF.ev rfl) ((HS.out.box 0 rfl).sub 0 8) (by kernel_rfl)) ?_; clear HF; clear a; intro a HF
      refine wl_call rfl HF rfl (enter_of Try.func26 (by kernel_rfl) rfl) (args := #[.agg #[.slice a0 st.fRows.length c0, .slice a1 st.fSpace.fRefs.length c1, .slice a2 st.fSpace.fLast.length c2, .int .i64 st.fTxg, .slice a4 st.fGone.length c4, .int .i64 st.fKeep, .slice a6 st.fDead.length c6, .bool st.fSame]]) rfl (toStore_any _ st _ hf (HR.out.below HS.out.bel)) rfl rfl ?_
      rintro _ w3 ⟨u2, rfl, ho, hb⟩
      refine ⟨_, rfl, ?_⟩; replace HS := Bx.mk (HS.out.add (St.ivNew (loc := StoreD.Own.loc) ho hb)); clear ho hb HF; clear a; intro a HF
      obtain ⟨B3, C4, hh⟩ : ∃ B B1, St w0 ([ivA StoreD.Own StoreD.Own.loc B B1 u2 st, boxA b1 8 60 (.agg #[.slice a0 st.fRows.length c0, .slice a1 st.fSpace.fRefs.length c1, .slice a2 st.fSpace.fLast.length c2, .int .i64 st.fTxg, .slice a4 st.fGone.length c4, .int .i64 st.fKeep, .slice a6 st.fDead.length c6, .bool st.fSame])]) w3 := ⟨_, _, HS.out⟩; replace HS := Bx.mk hh; clear hh
      refine wl_y rfl HF rfl rfl (yl_move rfl (HF.ev rfl)) ?_; clear HF; clear a; intro a HF
      refine wl_y rfl HF rfl rfl (yl_move rfl (HF.ev rfl)) ?_; clear HF; clear a; intro a HF
      refine wl_call rfl HF rfl (enter_of Try.func25 (by kernel_rfl) rfl) (args := #[u2, .string text, .int .i64 level]) rfl (specStoreWrite_any _ st text level _ _ _ hf hi (by omega) (HS.out.iv 0 rfl)) rfl rfl ?_
      rintro _ w4 ⟨u5, rfl, ho, hb⟩
      refine ⟨_, rfl, ?_⟩; replace HS := Bx.mk (HS.out.add (St.ivNew (loc := StoreD.Own.loc) ho hb)); clear ho hb HF; clear a; intro a HF
      obtain ⟨B6, C7, hh⟩ : ∃ B B1, St w0 ([ivA StoreD.Own StoreD.Own.loc B B1 u5 (st.wrote text level), ivA StoreD.Own StoreD.Own.loc B3 C4 u2 st, boxA b1 8 60 (.agg #[.slice a0 st.fRows.length c0, .slice a1 st.fSpace.fRefs.length c1, .slice a2 st.fSpace.fLast.length c2, .int .i64 st.fTxg, .slice a4 st.fGone.length c4, .int .i64 st.fKeep, .slice a6 st.fDead.length c6, .bool st.fSame])]) w4 := ⟨_, _, HS.out⟩; replace HS := Bx.mk hh; clear hh
      refine wl_y rfl HF rfl rfl (yl_move rfl (HF.ev rfl)) ?_; clear HF; clear a; intro a HF
      refine wl_y rfl HF rfl rfl (yl_extract rfl (HF.ev rfl) rfl) ?_; clear HF; clear a; intro a HF
      refine wl_y rfl HF rfl rfl (yl_extract rfl (HF.ev rfl) rfl) ?_; clear HF; clear a; intro a HF
      refine wl_y rfl HF rfl rfl (yl_extract rfl (HF.ev rfl) rfl) ?_; clear HF; clear a; intro a HF
      refine wl_alloc rfl HF rfl rfl rfl (Z := [.slice none 0 0, .slice none 0 0, .slice none 0 0, .int .i64 0, .slice none 0 0, .int .i64 0, .slice none 0 0, .bool false]) (by kernel_rfl) rfl HS.out ?_; clear HF HS; clear a; intro a w5 b8 HF HS; replace HS := Bx.mk HS
      refine wl_alloc rfl HF rfl rfl rfl (Z := [.int .i64 0, .int .i64 0, .int .i64 0, .int .i64 0, .int .i64 0]) (by kernel_rfl) rfl HS.out ?_; clear HF HS; clear a; intro a w6 b9 HF HS; replace HS := Bx.mk HS
      refine wl_storeBox rfl HF rfl rfl (HF.ev rfl) (HF.ev rfl) HS.out 1 rfl (StoreD.Own.cells (HS.out.iv 2 rfl)) (by kernel_rfl) ?_; clear HS; intro w7 HS; replace HS := Bx.mk HS
      have HS : Bx (St w0 ([boxA b9 5 33 (.agg #[.int .i64 0, .int .i64 0, .int .i64 0, .int .i64 0, .int .i64 0]), boxA b8 8 65 u5, ivA StoreD.Own StoreD.Own.loc B6 C7 u5 (st.wrote text level), ivA StoreD.Own StoreD.Own.loc B3 C4 u2 st, boxA b1 8 60 (.agg #[.slice a0 st.fRows.length c0, .slice a1 st.fSpace.fRefs.length c1, .slice a2 st.fSpace.fLast.length c2, .int .i64 st.fTxg, .slice a4 st.fGone.length c4, .int .i64 st.fKeep, .slice a6 st.fDead.length c6, .bool st.fSame])]) _) := HS
      refine wl_storeBox rfl HF rfl rfl (HF.ev rfl) (HF.ev rfl) HS.out 0 rfl (cells_lit [.int .i64 ((st.wptr text level).fAt), .int .i64 ((st.wptr text level).fBirth), .int .i64 ((st.wptr text level).fSize), .int .i64 ((st.wptr text level).fSum), .int .i64 ((st.wptr text level).fLevel)] rfl rfl) (by kernel_rfl) ?_; clear HS; intro w8 HS; replace HS := Bx.mk HS
      have HS : Bx (St w0 ([boxA b9 5 33 (.agg #[.int .i64 ((st.wptr text level).fAt), .int .i64 ((st.wptr text level).fBirth), .int .i64 ((st.wptr text level).fSize), .int .i64 ((st.wptr text level).fSum), .int .i64 ((st.wptr text level).fLevel)]), boxA b8 8 65 u5, ivA StoreD.Own StoreD.Own.loc B6 C7 u5 (st.wrote text level), ivA StoreD.Own StoreD.Own.loc B3 C4 u2 st, boxA b1 8 60 (.agg #[.slice a0 st.fRows.length c0, .slice a1 st.fSpace.fRefs.length c1, .slice a2 st.fSpace.fLast.length c2, .int .i64 st.fTxg, .slice a4 st.fGone.length c4, .int .i64 st.fKeep, .slice a6 st.fDead.length c6, .bool st.fSame])]) _) := HS
      refine wl_y rfl HF rfl rfl (yl_assign rfl (HF.ev rfl)) ?_; clear HF; clear a; intro a HF
      refine wpList_nil ?_
      refine ex_then ?_
      refine wp_seq ?_
      refine wp_region_lit ?_
      refine wl_y rfl HF rfl rfl (yl_loadR (cs := [.slice a0 st.fRows.length c0, .slice a1 st.fSpace.fRefs.length c1, .slice a2 st.fSpace.fLast.length c2, .int .i64 st.fTxg, .slice a4 st.fGone.length c4, .int .i64 st.fKeep, .slice a6 st.fDead.length c6, .bool st.fSame]) rfl (HF.ev rfl) ((HS.out.box 4 rfl).sub 0 8) (by kernel_rfl)) ?_; clear HF; clear a; intro a HF
      refine wl_call rfl HF rfl (enter_of Try.func26 (by kernel_rfl) rfl) (args := #[.agg #[.slice a0 st.fRows.length c0, .slice a1 st.fSpace.fRefs.length c1, .slice a2 st.fSpace.fLast.length c2, .int .i64 st.fTxg, .slice a4 st.fGone.length c4, .int .i64 st.fKeep, .slice a6 st.fDead.length c6, .bool st.fSame]]) rfl (toStore_any _ st _ hf (HR.out.below HS.out.bel)) rfl rfl ?_
      rintro _ w9 ⟨u10, rfl, ho, hb⟩
      refine ⟨_, rfl, ?_⟩; replace HS := Bx.mk (HS.out.add (St.ivNew (loc := StoreD.Own.loc) ho hb)); clear ho hb HF; clear a; intro a HF
      obtain ⟨B11, C12, hh⟩ : ∃ B B1, St w0 ([ivA StoreD.Own StoreD.Own.loc B B1 u10 st, boxA b9 5 33 (.agg #[.int .i64 ((st.wptr text level).fAt), .int .i64 ((st.wptr text level).fBirth), .int .i64 ((st.wptr text level).fSize), .int .i64 ((st.wptr text level).fSum), .int .i64 ((st.wptr text level).fLevel)]), boxA b8 8 65 u5, ivA StoreD.Own StoreD.Own.loc B6 C7 u5 (st.wrote text level), ivA StoreD.Own StoreD.Own.loc B3 C4 u2 st, boxA b1 8 60 (.agg #[.slice a0 st.fRows.length c0, .slice a1 st.fSpace.fRefs.length c1, .slice a2 st.fSpace.fLast.length c2, .int .i64 st.fTxg, .slice a4 st.fGone.length c4, .int .i64 st.fKeep, .slice a6 st.fDead.length c6, .bool st.fSame])]) w9 := ⟨_, _, HS.out⟩; replace HS := Bx.mk hh; clear hh
      refine wl_alloc rfl HF rfl rfl rfl (Z := [.slice none 0 0, .slice none 0 0, .slice none 0 0, .int .i64 0, .slice none 0 0, .int .i64 0, .slice none 0 0, .bool false]) (by kernel_rfl) rfl HS.out ?_; clear HF HS; clear a; intro a w10 b13 HF HS; replace HS := Bx.mk HS
      refine wl_storeBox rfl HF rfl rfl (HF.ev rfl) (HF.ev rfl) HS.out 0 rfl (StoreD.Own.cells (HS.out.iv 1 rfl)) (by kernel_rfl) ?_; clear HS; intro w11 HS; replace HS := Bx.mk HS
      have HS : Bx (St w0 ([boxA b13 8 65 u10, ivA StoreD.Own StoreD.Own.loc B11 C12 u10 st, boxA b9 5 33 (.agg #[.int .i64 ((st.wptr text level).fAt), .int .i64 ((st.wptr text level).fBirth), .int .i64 ((st.wptr text level).fSize), .int .i64 ((st.wptr text level).fSum), .int .i64 ((st.wptr text level).fLevel)]), boxA b8 8 65 u5, ivA StoreD.Own StoreD.Own.loc B6 C7 u5 (st.wrote text level), ivA StoreD.Own StoreD.Own.loc B3 C4 u2 st, boxA b1 8 60 (.agg #[.slice a0 st.fRows.length c0, .slice a1 st.fSpace.fRefs.length c1, .slice a2 st.fSpace.fLast.length c2, .int .i64 st.fTxg, .slice a4 st.fGone.length c4, .int .i64 st.fKeep, .slice a6 st.fDead.length c6, .bool st.fSame])]) _) := HS
      refine wpList_nil ?_
      refine ex_then ?_
      refine wp_seq ?_
      refine wp_region_lit ?_
      refine wl_y rfl HF rfl rfl (yl_loadB (v := u10) rfl (HF.ev rfl) (HS.out.box 0 rfl) (by kernel_rfl)) ?_; clear HF; clear a; intro a HF
      refine wl_y rfl HF rfl rfl (yl_move rfl (HF.ev rfl)) ?_; clear HF; clear a; intro a HF
      refine wl_y rfl HF rfl rfl (yl_move rfl (HF.ev rfl)) ?_; clear HF; clear a; intro a HF
      refine wl_call rfl HF rfl (enter_of Try.func27 (by kernel_rfl) rfl) (args := #[u10, .string text, .int .i64 level]) rfl (implStoreWrite_any _ st text level _ _ _ hf hi (by omega) (HS.out.iv 1 rfl)) rfl rfl ?_
      rintro _ w12 ⟨u14, rfl, ho, hb⟩
      refine ⟨_, rfl, ?_⟩; replace HS := Bx.mk (HS.out.add (St.ivNew (loc := StoreD.Own.loc) ho hb)); clear ho hb HF; clear a; intro a HF
      obtain ⟨B15, C16, hh⟩ : ∃ B B1, St w0 ([ivA StoreD.Own StoreD.Own.loc B B1 u14 (st.wrote text level), boxA b13 8 65 u10, ivA StoreD.Own StoreD.Own.loc B11 C12 u10 st, boxA b9 5 33 (.agg #[.int .i64 ((st.wptr text level).fAt), .int .i64 ((st.wptr text level).fBirth), .int .i64 ((st.wptr text level).fSize), .int .i64 ((st.wptr text level).fSum), .int .i64 ((st.wptr text level).fLevel)]), boxA b8 8 65 u5, ivA StoreD.Own StoreD.Own.loc B6 C7 u5 (st.wrote text level), ivA StoreD.Own StoreD.Own.loc B3 C4 u2 st, boxA b1 8 60 (.agg #[.slice a0 st.fRows.length c0, .slice a1 st.fSpace.fRefs.length c1, .slice a2 st.fSpace.fLast.length c2, .int .i64 st.fTxg, .slice a4 st.fGone.length c4, .int .i64 st.fKeep, .slice a6 st.fDead.length c6, .bool st.fSame])]) w12 := ⟨_, _, HS.out⟩; replace HS := Bx.mk hh; clear hh
      refine wl_y rfl HF rfl rfl (yl_move rfl (HF.ev rfl)) ?_; clear HF; clear a; intro a HF
      refine wl_y rfl HF rfl rfl (yl_extract rfl (HF.ev rfl) rfl) ?_; clear HF; clear a; intro a HF
      refine wl_y rfl HF rfl rfl (yl_extract rfl (HF.ev rfl) rfl) ?_; clear HF; clear a; intro a HF
      refine wl_y rfl HF rfl rfl (yl_extract rfl (HF.ev rfl) rfl) ?_; clear HF; clear a; intro a HF
      refine wl_alloc rfl HF rfl rfl rfl (Z := [.slice none 0 0, .slice none 0 0, .slice none 0 0, .int .i64 0, .slice none 0 0, .int .i64 0, .slice none 0 0, .bool false]) (by kernel_rfl) rfl HS.out ?_; clear HF HS; clear a; intro a w13 b17 HF HS; replace HS := Bx.mk HS
      refine wl_alloc rfl HF rfl rfl rfl (Z := [.int .i64 0, .int .i64 0, .int .i64 0, .int .i64 0, .int .i64 0]) (by kernel_rfl) rfl HS.out ?_; clear HF HS; clear a; intro a w14 b18 HF HS; replace HS := Bx.mk HS
      refine wl_storeBox rfl HF rfl rfl (HF.ev rfl) (HF.ev rfl) HS.out 1 rfl (StoreD.Own.cells (HS.out.iv 2 rfl)) (by kernel_rfl) ?_; clear HS; intro w15 HS; replace HS := Bx.mk HS
      have HS : Bx (St w0 ([boxA b18 5 33 (.agg #[.int .i64 0, .int .i64 0, .int .i64 0, .int .i64 0, .int .i64 0]), boxA b17 8 65 u14, ivA StoreD.Own StoreD.Own.loc B15 C16 u14 (st.wrote text level), boxA b13 8 65 u10, ivA StoreD.Own StoreD.Own.loc B11 C12 u10 st, boxA b9 5 33 (.agg #[.int .i64 ((st.wptr text level).fAt), .int .i64 ((st.wptr text level).fBirth), .int .i64 ((st.wptr text level).fSize), .int .i64 ((st.wptr text level).fSum), .int .i64 ((st.wptr text level).fLevel)]), boxA b8 8 65 u5, ivA StoreD.Own StoreD.Own.loc B6 C7 u5 (st.wrote text level), ivA StoreD.Own StoreD.Own.loc B3 C4 u2 st, boxA b1 8 60 (.agg #[.slice a0 st.fRows.length c0, .slice a1 st.fSpace.fRefs.length c1, .slice a2 st.fSpace.fLast.length c2, .int .i64 st.fTxg, .slice a4 st.fGone.length c4, .int .i64 st.fKeep, .slice a6 st.fDead.length c6, .bool st.fSame])]) _) := HS
      refine wl_storeBox rfl HF rfl rfl (HF.ev rfl) (HF.ev rfl) HS.out 0 rfl (cells_lit [.int .i64 ((st.wptr text level).fAt), .int .i64 ((st.wptr text level).fBirth), .int .i64 ((st.wptr text level).fSize), .int .i64 ((st.wptr text level).fSum), .int .i64 ((st.wptr text level).fLevel)] rfl rfl) (by kernel_rfl) ?_; clear HS; intro w16 HS; replace HS := Bx.mk HS
      have HS : Bx (St w0 ([boxA b18 5 33 (.agg #[.int .i64 ((st.wptr text level).fAt), .int .i64 ((st.wptr text level).fBirth), .int .i64 ((st.wptr text level).fSize), .int .i64 ((st.wptr text level).fSum), .int .i64 ((st.wptr text level).fLevel)]), boxA b17 8 65 u14, ivA StoreD.Own StoreD.Own.loc B15 C16 u14 (st.wrote text level), boxA b13 8 65 u10, ivA StoreD.Own StoreD.Own.loc B11 C12 u10 st, boxA b9 5 33 (.agg #[.int .i64 ((st.wptr text level).fAt), .int .i64 ((st.wptr text level).fBirth), .int .i64 ((st.wptr text level).fSize), .int .i64 ((st.wptr text level).fSum), .int .i64 ((st.wptr text level).fLevel)]), boxA b8 8 65 u5, ivA StoreD.Own StoreD.Own.loc B6 C7 u5 (st.wrote text level), ivA StoreD.Own StoreD.Own.loc B3 C4 u2 st, boxA b1 8 60 (.agg #[.slice a0 st.fRows.length c0, .slice a1 st.fSpace.fRefs.length c1, .slice a2 st.fSpace.fLast.length c2, .int .i64 st.fTxg, .slice a4 st.fGone.length c4, .int .i64 st.fKeep, .slice a6 st.fDead.length c6, .bool st.fSame])]) _) := HS
      refine wl_y rfl HF rfl rfl (yl_assign rfl (HF.ev rfl)) ?_; clear HF; clear a; intro a HF
      refine wpList_nil ?_
      refine ex_then ?_
      refine wp_seq ?_
      refine wp_seq ?_
      refine wp_region_lit ?_
      refine wl_y rfl HF rfl rfl (yl_loadB (v := u14) rfl (HF.ev rfl) (HS.out.box 1 rfl) (by kernel_rfl)) ?_; clear HF; clear a; intro a HF
      refine wl_y rfl HF rfl rfl (yl_loadB (v := u5) rfl (HF.ev rfl) (HS.out.box 6 rfl) (by kernel_rfl)) ?_; clear HF; clear a; intro a HF
      refine wl_callB rfl HF rfl (enter_of Try.func28 (by kernel_rfl) rfl) (args := #[u14, u5]) rfl (v := .bool true) (eqStore_yes _ _ (st.wrote text level) _ hfy (StoreD.Own.rd (HS.out.iv 2 rfl)) (StoreD.Own.rd (HS.out.iv 7 rfl))) rfl rfl HS.out ?_; clear HF HS; clear a; intro w17 a HS HF; replace HS := Bx.mk HS
      refine wl_y rfl HF rfl rfl (yl_not rfl (HF.ev rfl)) ?_; clear HF; clear a; intro a HF
      refine wl_y rfl HF rfl rfl (yl_move rfl (HF.ev rfl)) ?_; clear HF; clear a; intro a HF
      refine wl_yg HF rfl rfl rfl rfl rfl (yl_loadR (cs := [.int .i64 ((st.wptr text level).fAt), .int .i64 ((st.wptr text level).fBirth), .int .i64 ((st.wptr text level).fSize), .int .i64 ((st.wptr text level).fSum), .int .i64 ((st.wptr text level).fLevel)]) rfl (HF.ev rfl) ((HS.out.box 0 rfl).sub 0 5) (by kernel_rfl)) ?_; clear HF; clear a; intro a HF
      refine wl_yg HF rfl rfl rfl rfl rfl (yl_loadR (cs := [.int .i64 ((st.wptr text level).fAt), .int .i64 ((st.wptr text level).fBirth), .int .i64 ((st.wptr text level).fSize), .int .i64 ((st.wptr text level).fSum), .int .i64 ((st.wptr text level).fLevel)]) rfl (HF.ev rfl) ((HS.out.box 5 rfl).sub 0 5) (by kernel_rfl)) ?_; clear HF; clear a; intro a HF
      refine wl_callBg HF rfl rfl rfl rfl (enter_of Try.func29 (by kernel_rfl) rfl) (args := #[.agg #[.int .i64 ((st.wptr text level).fAt), .int .i64 ((st.wptr text level).fBirth), .int .i64 ((st.wptr text level).fSize), .int .i64 ((st.wptr text level).fSum), .int .i64 ((st.wptr text level).fLevel)], .agg #[.int .i64 ((st.wptr text level).fAt), .int .i64 ((st.wptr text level).fBirth), .int .i64 ((st.wptr text level).fSize), .int .i64 ((st.wptr text level).fSum), .int .i64 ((st.wptr text level).fLevel)]]) rfl (v := .bool true) (eqPtr_yes (st.wptr text level) _) rfl rfl HS.out ?_; clear HF HS; clear a; intro w18 a HS HF; replace HS := Bx.mk HS
      refine wl_yg HF rfl rfl rfl rfl rfl (yl_not rfl (HF.ev rfl)) ?_; clear HF; clear a; intro a HF
      refine wl_y rfl HF rfl rfl (yl_pick_f rfl (HF.ev rfl) (HF.ev rfl)) ?_; clear HF; clear a; intro a HF
      refine wl_y rfl HF rfl rfl (yl_move rfl (HF.ev rfl)) ?_; clear HF; clear a; intro a HF
      refine wl_yg HF rfl rfl rfl rfl rfl (yl_move rfl (HF.ev rfl)) ?_; clear HF; clear a; intro a HF
      refine wl_yg HF rfl rfl rfl rfl rfl (yl_move rfl (HF.ev rfl)) ?_; clear HF; clear a; intro a HF
      refine wl_yg HF rfl rfl rfl rfl rfl (yl_neqBs rfl (HF.ev rfl) (HF.ev rfl) (by kernel_rfl)) ?_; clear HF; clear a; intro a HF
      refine wl_y rfl HF rfl rfl (yl_pick_f rfl (HF.ev rfl) (HF.ev rfl)) ?_; clear HF; clear a; intro a HF
      refine wpList_nil ?_
      refine ex_then ?_
      refine wc_false HF rfl ?_
      refine wp_skip ?_
      refine ex_then ?_
      refine wp_seq ?_
      refine wp_seq ?_
      refine wr_heldS (s := [boxA b18 5 33 (.agg #[.int .i64 ((st.wptr text level).fAt), .int .i64 ((st.wptr text level).fBirth), .int .i64 ((st.wptr text level).fSize), .int .i64 ((st.wptr text level).fSum), .int .i64 ((st.wptr text level).fLevel)]), boxA b17 8 65 u14, ivA StoreD.Own StoreD.Own.loc B15 C16 u14 (st.wrote text level), boxA b13 8 65 u10, ivA StoreD.Own StoreD.Own.loc B11 C12 u10 st, boxA b9 5 33 (.agg #[.int .i64 ((st.wptr text level).fAt), .int .i64 ((st.wptr text level).fBirth), .int .i64 ((st.wptr text level).fSize), .int .i64 ((st.wptr text level).fSum), .int .i64 ((st.wptr text level).fLevel)]), boxA b8 8 65 u5, ivA StoreD.Own StoreD.Own.loc B6 C7 u5 (st.wrote text level), ivA StoreD.Own StoreD.Own.loc B3 C4 u2 st, boxA b1 8 60 (.agg #[.slice a0 st.fRows.length c0, .slice a1 st.fSpace.fRefs.length c1, .slice a2 st.fSpace.fLast.length c2, .int .i64 st.fTxg, .slice a4 st.fGone.length c4, .int .i64 st.fKeep, .slice a6 st.fDead.length c6, .bool st.fSame])]) (by kernel_rfl) (St.drew (HS.out)) ?_
      have HS2 := Bx.mk HS.out.drew; replace HS := Bx.mk (show St w0 ([boxA b18 5 33 (.agg #[.int .i64 ((st.wptr text level).fAt), .int .i64 ((st.wptr text level).fBirth), .int .i64 ((st.wptr text level).fSize), .int .i64 ((st.wptr text level).fSum), .int .i64 ((st.wptr text level).fLevel)]), boxA b17 8 65 u14, ivA StoreD.Own StoreD.Own.loc B15 C16 u14 (st.wrote text level), boxA b13 8 65 u10, ivA StoreD.Own StoreD.Own.loc B11 C12 u10 st, boxA b9 5 33 (.agg #[.int .i64 ((st.wptr text level).fAt), .int .i64 ((st.wptr text level).fBirth), .int .i64 ((st.wptr text level).fSize), .int .i64 ((st.wptr text level).fSum), .int .i64 ((st.wptr text level).fLevel)]), boxA b8 8 65 u5, ivA StoreD.Own StoreD.Own.loc B6 C7 u5 (st.wrote text level), ivA StoreD.Own StoreD.Own.loc B3 C4 u2 st, boxA b1 8 60 (.agg #[.slice a0 st.fRows.length c0, .slice a1 st.fSpace.fRefs.length c1, .slice a2 st.fSpace.fLast.length c2, .int .i64 st.fTxg, .slice a4 st.fGone.length c4, .int .i64 st.fKeep, .slice a6 st.fDead.length c6, .bool st.fSame])]) _ from HS.out.drew)
      generalize World.drew _ = w19 at HS HS2 ⊢
      refine wh_y 0 rfl (by kernel_rfl) (by kernel_rfl) (by kernel_rfl) (fun _ _ _ h => h) rfl HF rfl rfl (fun _ HS => (yl_loadB (v := u10) rfl (HF.ev rfl) (HS.box 3 rfl) (by kernel_rfl))) HS.out ?_; clear HF; clear a; intro a HF
      refine wh_y 1 rfl (by kernel_rfl) (by kernel_rfl) (by kernel_rfl) (fun _ _ _ h => h) rfl HF rfl rfl (fun _ HS => (yl_loadR (cs := [.slice a0 st.fRows.length c0, .slice a1 st.fSpace.fRefs.length c1, .slice a2 st.fSpace.fLast.length c2, .int .i64 st.fTxg, .slice a4 st.fGone.length c4, .int .i64 st.fKeep, .slice a6 st.fDead.length c6, .bool st.fSame]) rfl (HF.ev rfl) ((HS.box 9 rfl).sub 0 8) (by kernel_rfl))) HS.out ?_; clear HF; clear a; intro a HF
      refine wh_one 2 (by kernel_rfl) ?_
      refine wo_call rfl rfl HF rfl (enter_of Try.func26 (by kernel_rfl) rfl) (args := #[.agg #[.slice a0 st.fRows.length c0, .slice a1 st.fSpace.fRefs.length c1, .slice a2 st.fSpace.fLast.length c2, .int .i64 st.fTxg, .slice a4 st.fGone.length c4, .int .i64 st.fKeep, .slice a6 st.fDead.length c6, .bool st.fSame]]) rfl (toStore_any _ st _ hf (HR.out.below HS.out.bel)) rfl rfl ?_
      rintro _ w21 ⟨u19, rfl, ho, hb⟩
      refine ⟨_, rfl, ?_⟩; replace HS := Bx.mk (HS.out.later hb); replace HS2 := Bx.mk (HS2.out.add (St.ivNew (loc := StoreD.Own.loc) ho hb)); clear ho hb HF; clear a; intro a HF; refine ⟨HS.out, ?_⟩
      obtain ⟨B20, C21, hh⟩ : ∃ B B1, St w0 ([ivA StoreD.Own StoreD.Own.loc B B1 u19 st, boxA b18 5 33 (.agg #[.int .i64 ((st.wptr text level).fAt), .int .i64 ((st.wptr text level).fBirth), .int .i64 ((st.wptr text level).fSize), .int .i64 ((st.wptr text level).fSum), .int .i64 ((st.wptr text level).fLevel)]), boxA b17 8 65 u14, ivA StoreD.Own StoreD.Own.loc B15 C16 u14 (st.wrote text level), boxA b13 8 65 u10, ivA StoreD.Own StoreD.Own.loc B11 C12 u10 st, boxA b9 5 33 (.agg #[.int .i64 ((st.wptr text level).fAt), .int .i64 ((st.wptr text level).fBirth), .int .i64 ((st.wptr text level).fSize), .int .i64 ((st.wptr text level).fSum), .int .i64 ((st.wptr text level).fLevel)]), boxA b8 8 65 u5, ivA StoreD.Own StoreD.Own.loc B6 C7 u5 (st.wrote text level), ivA StoreD.Own StoreD.Own.loc B3 C4 u2 st, boxA b1 8 60 (.agg #[.slice a0 st.fRows.length c0, .slice a1 st.fSpace.fRefs.length c1, .slice a2 st.fSpace.fLast.length c2, .int .i64 st.fTxg, .slice a4 st.fGone.length c4, .int .i64 st.fKeep, .slice a6 st.fDead.length c6, .bool st.fSame])]) w21 := ⟨_, _, HS2.out⟩; replace HS2 := Bx.mk hh; clear hh
      refine wh_one 3 (by kernel_rfl) ?_
      refine wo_callB rfl rfl HF rfl (enter_of Try.func28 (by kernel_rfl) rfl) (args := #[u10, u19]) rfl (v := .bool true) (eqStore_yes _ _ st _ hf (StoreD.Own.rd (HS2.out.iv 5 rfl)) (StoreD.Own.rd (HS2.out.iv 0 rfl))) rfl rfl ?_
      intro w22 hb; replace HS := Bx.mk (HS.out.later hb); replace HS2 := Bx.mk (HS2.out.later hb); clear hb HF; clear a; intro a HF; refine ⟨HS.out, ?_⟩
      refine wh_y 4 rfl (by kernel_rfl) (by kernel_rfl) (by kernel_rfl) (fun _ _ _ h => h) rfl HF rfl rfl (fun _ HS => (yl_not rfl (HF.ev rfl))) HS.out ?_; clear HF; clear a; intro a HF
      refine wh_done (by kernel_rfl) ?_
      replace HS := HS2; clear HS2
      refine ex_then ?_
      refine wc_false HF rfl ?_
      refine wp_skip ?_
      refine ex_then ?_
      refine wp_seq ?_
      refine wp_region_lit ?_
      refine wl_y rfl HF rfl rfl (yl_assign rfl (HF.ev rfl)) ?_; clear HF; clear a; intro a HF
      refine wpList_nil ?_
      refine ex_then ?_
      refine wp_seq ?_
      refine wp_region_lit ?_
      refine wl_y rfl HF rfl rfl (yl_loadB (v := u10) rfl (HF.ev rfl) (HS.out.box 4 rfl) (by kernel_rfl)) ?_; clear HF; clear a; intro a HF
      refine wl_y rfl HF rfl rfl (yl_move rfl (HF.ev rfl)) ?_; clear HF; clear a; intro a HF
      refine wl_call rfl HF rfl (enter_of Try.func30 (by kernel_rfl) rfl) (args := #[u10, .int .i64 1]) rfl (markStore_any _ st _ _ 1 _ (by omega) (by omega) hf (HS.out.iv 5 rfl) (HS.out.ivLe 5 rfl)) rfl rfl ?_
      rintro _ w23 ⟨rfl, ho, hO⟩; refine ⟨_, rfl, ?_⟩; replace HS := Bx.mk (HS.out.ivMark 5 rfl ho hO); clear ho hO HF; clear a; intro a HF
      have HS : Bx (St w0 ([ivA StoreD.Own StoreD.Own.loc B20 C21 u19 st, boxA b18 5 33 (.agg #[.int .i64 ((st.wptr text level).fAt), .int .i64 ((st.wptr text level).fBirth), .int .i64 ((st.wptr text level).fSize), .int .i64 ((st.wptr text level).fSum), .int .i64 ((st.wptr text level).fLevel)]), boxA b17 8 65 u14, ivA StoreD.Own StoreD.Own.loc B15 C16 u14 (st.wrote text level), boxA b13 8 65 u10, ivA StoreD.Own StoreD.Own.loc B11 C12 u10 (st.marked 1), boxA b9 5 33 (.agg #[.int .i64 ((st.wptr text level).fAt), .int .i64 ((st.wptr text level).fBirth), .int .i64 ((st.wptr text level).fSize), .int .i64 ((st.wptr text level).fSum), .int .i64 ((st.wptr text level).fLevel)]), boxA b8 8 65 u5, ivA StoreD.Own StoreD.Own.loc B6 C7 u5 (st.wrote text level), ivA StoreD.Own StoreD.Own.loc B3 C4 u2 st, boxA b1 8 60 (.agg #[.slice a0 st.fRows.length c0, .slice a1 st.fSpace.fRefs.length c1, .slice a2 st.fSpace.fLast.length c2, .int .i64 st.fTxg, .slice a4 st.fGone.length c4, .int .i64 st.fKeep, .slice a6 st.fDead.length c6, .bool st.fSame])]) _) := HS
      have hpast := StoreD.past_pos1 st
      refine wl_y rfl HF rfl rfl (yl_assign rfl (HF.ev rfl)) ?_; clear HF; clear a; intro a HF
      refine wpList_nil ?_
      refine ex_then ?_
      refine wp_seq ?_
      refine wp_seq ?_
      refine wp_region_lit ?_
      refine wl_y rfl HF rfl rfl (yl_move rfl (HF.ev rfl)) ?_; clear HF; clear a; intro a HF
      refine wl_y rfl HF rfl rfl (yl_lssI rfl (HF.ev rfl) (HF.ev rfl)) ?_; clear HF; clear a; intro a HF
      refine wl_y rfl HF rfl rfl (yl_move rfl (HF.ev rfl)) ?_; clear HF; clear a; intro a HF
      refine HF.cases 73 rfl (fun cc3 HF1 => ?_) (fun cc3 HF1 => ?_)
      · clear HF; have HF := HF1; clear HF1
        exact absurd (of_decide_eq_true cc3) (by omega)
      · clear HF; have HF := HF1; clear HF1
        refine wl_yg HF rfl rfl rfl rfl rfl (yl_loadB (v := u14) rfl (HF.ev rfl) (HS.out.box 2 rfl) (by kernel_rfl)) ?_; clear HF; clear a; intro a HF
        refine wl_yg HF rfl rfl rfl rfl rfl (yl_loadB (v := u5) rfl (HF.ev rfl) (HS.out.box 7 rfl) (by kernel_rfl)) ?_; clear HF; clear a; intro a HF
        refine wl_callBg HF rfl rfl rfl rfl (enter_of Try.func28 (by kernel_rfl) rfl) (args := #[u14, u5]) rfl (v := .bool true) (eqStore_yes _ _ (st.wrote text level) _ hfy (StoreD.Own.rd (HS.out.iv 3 rfl)) (StoreD.Own.rd (HS.out.iv 8 rfl))) rfl rfl HS.out ?_; clear HF HS; clear a; intro w24 a HS HF; replace HS := Bx.mk HS
        refine wl_yg HF rfl rfl rfl rfl rfl (yl_not rfl (HF.ev rfl)) ?_; clear HF; clear a; intro a HF
        refine wl_y rfl HF rfl rfl (yl_pick_f rfl (HF.ev rfl) (HF.ev rfl)) ?_; clear HF; clear a; intro a HF
        refine wl_y rfl HF rfl rfl (yl_move rfl (HF.ev rfl)) ?_; clear HF; clear a; intro a HF
        refine wl_yg HF rfl rfl rfl rfl rfl (yl_loadR (cs := [.int .i64 ((st.wptr text level).fAt), .int .i64 ((st.wptr text level).fBirth), .int .i64 ((st.wptr text level).fSize), .int .i64 ((st.wptr text level).fSum), .int .i64 ((st.wptr text level).fLevel)]) rfl (HF.ev rfl) ((HS.out.box 1 rfl).sub 0 5) (by kernel_rfl)) ?_; clear HF; clear a; intro a HF
        refine wl_yg HF rfl rfl rfl rfl rfl (yl_loadR (cs := [.int .i64 ((st.wptr text level).fAt), .int .i64 ((st.wptr text level).fBirth), .int .i64 ((st.wptr text level).fSize), .int .i64 ((st.wptr text level).fSum), .int .i64 ((st.wptr text level).fLevel)]) rfl (HF.ev rfl) ((HS.out.box 6 rfl).sub 0 5) (by kernel_rfl)) ?_; clear HF; clear a; intro a HF
        refine wl_callBg HF rfl rfl rfl rfl (enter_of Try.func29 (by kernel_rfl) rfl) (args := #[.agg #[.int .i64 ((st.wptr text level).fAt), .int .i64 ((st.wptr text level).fBirth), .int .i64 ((st.wptr text level).fSize), .int .i64 ((st.wptr text level).fSum), .int .i64 ((st.wptr text level).fLevel)], .agg #[.int .i64 ((st.wptr text level).fAt), .int .i64 ((st.wptr text level).fBirth), .int .i64 ((st.wptr text level).fSize), .int .i64 ((st.wptr text level).fSum), .int .i64 ((st.wptr text level).fLevel)]]) rfl (v := .bool true) (eqPtr_yes (st.wptr text level) _) rfl rfl HS.out ?_; clear HF HS; clear a; intro w25 a HS HF; replace HS := Bx.mk HS
        refine wl_yg HF rfl rfl rfl rfl rfl (yl_not rfl (HF.ev rfl)) ?_; clear HF; clear a; intro a HF
        refine wl_y rfl HF rfl rfl (yl_pick_f rfl (HF.ev rfl) (HF.ev rfl)) ?_; clear HF; clear a; intro a HF
        refine wl_y rfl HF rfl rfl (yl_move rfl (HF.ev rfl)) ?_; clear HF; clear a; intro a HF
        refine wl_yg HF rfl rfl rfl rfl rfl (yl_move rfl (HF.ev rfl)) ?_; clear HF; clear a; intro a HF
        refine wl_yg HF rfl rfl rfl rfl rfl (yl_move rfl (HF.ev rfl)) ?_; clear HF; clear a; intro a HF
        refine wl_yg HF rfl rfl rfl rfl rfl (yl_neqBs rfl (HF.ev rfl) (HF.ev rfl) (by kernel_rfl)) ?_; clear HF; clear a; intro a HF
        refine wl_y rfl HF rfl rfl (yl_pick_f rfl (HF.ev rfl) (HF.ev rfl)) ?_; clear HF; clear a; intro a HF
        refine wpList_nil ?_
        refine ex_then ?_
        refine wc_false HF rfl ?_
        refine wp_skip ?_
        refine ex_then ?_
        refine wp_seq ?_
        refine wp_region_lit ?_
        refine wl_y rfl HF rfl rfl (yl_assign rfl (HF.ev rfl)) ?_; clear HF; clear a; intro a HF
        refine wpList_nil ?_
        refine ex_then ?_
        refine wp_seq ?_
        refine wp_region_lit ?_
        refine wl_y rfl HF rfl rfl (yl_loadB (v := u14) rfl (HF.ev rfl) (HS.out.box 2 rfl) (by kernel_rfl)) ?_; clear HF; clear a; intro a HF
        refine wl_y rfl HF rfl rfl (yl_move rfl (HF.ev rfl)) ?_; clear HF; clear a; intro a HF
        refine wl_call rfl HF rfl (enter_of Try.func30 (by kernel_rfl) rfl) (args := #[u14, .int .i64 1]) rfl (markStore_any _ (st.wrote text level) _ _ 1 _ (by omega) (by omega) hfy (HS.out.iv 3 rfl) (HS.out.ivLe 3 rfl)) rfl rfl ?_
        rintro _ w26 ⟨rfl, ho, hO⟩; refine ⟨_, rfl, ?_⟩; replace HS := Bx.mk (HS.out.ivMark 3 rfl ho hO); clear ho hO HF; clear a; intro a HF
        have HS : Bx (St w0 ([ivA StoreD.Own StoreD.Own.loc B20 C21 u19 st, boxA b18 5 33 (.agg #[.int .i64 ((st.wptr text level).fAt), .int .i64 ((st.wptr text level).fBirth), .int .i64 ((st.wptr text level).fSize), .int .i64 ((st.wptr text level).fSum), .int .i64 ((st.wptr text level).fLevel)]), boxA b17 8 65 u14, ivA StoreD.Own StoreD.Own.loc B15 C16 u14 ((st.wrote text level).marked 1), boxA b13 8 65 u10, ivA StoreD.Own StoreD.Own.loc B11 C12 u10 (st.marked 1), boxA b9 5 33 (.agg #[.int .i64 ((st.wptr text level).fAt), .int .i64 ((st.wptr text level).fBirth), .int .i64 ((st.wptr text level).fSize), .int .i64 ((st.wptr text level).fSum), .int .i64 ((st.wptr text level).fLevel)]), boxA b8 8 65 u5, ivA StoreD.Own StoreD.Own.loc B6 C7 u5 (st.wrote text level), ivA StoreD.Own StoreD.Own.loc B3 C4 u2 st, boxA b1 8 60 (.agg #[.slice a0 st.fRows.length c0, .slice a1 st.fSpace.fRefs.length c1, .slice a2 st.fSpace.fLast.length c2, .int .i64 st.fTxg, .slice a4 st.fGone.length c4, .int .i64 st.fKeep, .slice a6 st.fDead.length c6, .bool st.fSame])]) _) := HS
        have hpast := StoreD.past_pos1 (st.wrote text level)
        refine wl_y rfl HF rfl rfl (yl_assign rfl (HF.ev rfl)) ?_; clear HF; clear a; intro a HF
        refine wpList_nil ?_
        refine ex_then ?_
        refine wp_seq ?_
        refine wp_region_lit ?_
        refine wl_y rfl HF rfl rfl (yl_assign rfl (HF.ev rfl)) ?_; clear HF; clear a; intro a HF
        refine wpList_nil ?_
        refine ex_then ?_
        refine wp_seq ?_
        refine wp_region_lit ?_
        refine wl_y rfl HF rfl rfl (yl_loadB (v := u14) rfl (HF.ev rfl) (HS.out.box 2 rfl) (by kernel_rfl)) ?_; clear HF; clear a; intro a HF
        refine wl_y rfl HF rfl rfl (yl_move rfl (HF.ev rfl)) ?_; clear HF; clear a; intro a HF
        refine wl_callB rfl HF rfl (enter_of Try.func31 (by kernel_rfl) rfl) (args := #[u14, .int .i64 1]) rfl (v := .int .i64 ((st.wrote text level).past 1)) (heldStore_any _ (st.wrote text level) 1 _ (by omega) (by omega) hfy (StoreD.Own.rd (HS.out.iv 3 rfl))) rfl rfl HS.out ?_; clear HF HS; clear a; intro w27 a HS HF; replace HS := Bx.mk HS
        refine wl_y rfl HF rfl rfl (yl_assign rfl (HF.ev rfl)) ?_; clear HF; clear a; intro a HF
        refine wpList_nil ?_
        refine ex_then ?_
        refine wp_seq ?_
        refine wp_seq ?_
        refine wp_region_lit ?_
        refine wl_y rfl HF rfl rfl (yl_move rfl (HF.ev rfl)) ?_; clear HF; clear a; intro a HF
        refine wl_y rfl HF rfl rfl (yl_lssI rfl (HF.ev rfl) (HF.ev rfl)) ?_; clear HF; clear a; intro a HF
        refine wpList_nil ?_
        refine ex_then ?_
        refine HF.cases 97 rfl (fun cc4 HF1 => ?_) (fun cc4 HF1 => ?_)
        · clear HF; have HF := HF1; clear HF1
          exact absurd (of_decide_eq_true cc4) (by omega)
        · clear HF; have HF := HF1; clear HF1
          refine wc_false HF rfl ?_
          refine wp_skip ?_
          refine ex_then ?_
          refine wp_seq ?_
          refine wp_seq ?_
          refine wp_region_lit ?_
          refine wl_y rfl HF rfl rfl (yl_move rfl (HF.ev rfl)) ?_; clear HF; clear a; intro a HF
          refine wl_y rfl HF rfl rfl (yl_move rfl (HF.ev rfl)) ?_; clear HF; clear a; intro a HF
          refine wl_y rfl HF rfl rfl (yl_neqI rfl (HF.ev rfl) (HF.ev rfl)) ?_; clear HF; clear a; intro a HF
          refine wpList_nil ?_
          refine ex_then ?_
          refine HF.cases 100 rfl (fun cc5 HF1 => ?_) (fun cc5 HF1 => ?_)
          · clear HF; have HF := HF1; clear HF1
            exact absurd cc5 (by simp)
          · clear HF; have HF := HF1; clear HF1
            refine wc_false HF rfl ?_
            refine wp_skip ?_
            refine ex_then ?_
            refine wp_seq ?_
            refine wp_region_lit ?_
            refine wl_y rfl HF rfl rfl (yl_loadR (cs := [.slice a0 st.fRows.length c0, .slice a1 st.fSpace.fRefs.length c1, .slice a2 st.fSpace.fLast.length c2, .int .i64 st.fTxg, .slice a4 st.fGone.length c4, .int .i64 st.fKeep, .slice a6 st.fDead.length c6, .bool st.fSame]) rfl (HF.ev rfl) ((HS.out.box 10 rfl).sub 0 8) (by kernel_rfl)) ?_; clear HF; clear a; intro a HF
            refine wl_call rfl HF rfl (enter_of Try.func26 (by kernel_rfl) rfl) (args := #[.agg #[.slice a0 st.fRows.length c0, .slice a1 st.fSpace.fRefs.length c1, .slice a2 st.fSpace.fLast.length c2, .int .i64 st.fTxg, .slice a4 st.fGone.length c4, .int .i64 st.fKeep, .slice a6 st.fDead.length c6, .bool st.fSame]]) rfl (toStore_any _ st _ hf (HR.out.below HS.out.bel)) rfl rfl ?_
            rintro _ w28 ⟨u22, rfl, ho, hb⟩
            refine ⟨_, rfl, ?_⟩; replace HS := Bx.mk (HS.out.add (St.ivNew (loc := StoreD.Own.loc) ho hb)); clear ho hb HF; clear a; intro a HF
            obtain ⟨B23, C24, hh⟩ : ∃ B B1, St w0 ([ivA StoreD.Own StoreD.Own.loc B B1 u22 st, ivA StoreD.Own StoreD.Own.loc B20 C21 u19 st, boxA b18 5 33 (.agg #[.int .i64 ((st.wptr text level).fAt), .int .i64 ((st.wptr text level).fBirth), .int .i64 ((st.wptr text level).fSize), .int .i64 ((st.wptr text level).fSum), .int .i64 ((st.wptr text level).fLevel)]), boxA b17 8 65 u14, ivA StoreD.Own StoreD.Own.loc B15 C16 u14 ((st.wrote text level).marked 1), boxA b13 8 65 u10, ivA StoreD.Own StoreD.Own.loc B11 C12 u10 (st.marked 1), boxA b9 5 33 (.agg #[.int .i64 ((st.wptr text level).fAt), .int .i64 ((st.wptr text level).fBirth), .int .i64 ((st.wptr text level).fSize), .int .i64 ((st.wptr text level).fSum), .int .i64 ((st.wptr text level).fLevel)]), boxA b8 8 65 u5, ivA StoreD.Own StoreD.Own.loc B6 C7 u5 (st.wrote text level), ivA StoreD.Own StoreD.Own.loc B3 C4 u2 st, boxA b1 8 60 (.agg #[.slice a0 st.fRows.length c0, .slice a1 st.fSpace.fRefs.length c1, .slice a2 st.fSpace.fLast.length c2, .int .i64 st.fTxg, .slice a4 st.fGone.length c4, .int .i64 st.fKeep, .slice a6 st.fDead.length c6, .bool st.fSame])]) w28 := ⟨_, _, HS.out⟩; replace HS := Bx.mk hh; clear hh
            refine wl_y rfl HF rfl rfl (yl_move rfl (HF.ev rfl)) ?_; clear HF; clear a; intro a HF
            refine wl_y rfl HF rfl rfl (yl_move rfl (HF.ev rfl)) ?_; clear HF; clear a; intro a HF
            refine wl_call rfl HF rfl (enter_of Try.func27 (by kernel_rfl) rfl) (args := #[u22, .string text, .int .i64 level]) rfl (implStoreWrite_any _ st text level _ _ _ hf hi (by omega) (HS.out.iv 0 rfl)) rfl rfl ?_
            rintro _ w29 ⟨u25, rfl, ho, hb⟩
            refine ⟨_, rfl, ?_⟩; replace HS := Bx.mk (HS.out.add (St.ivNew (loc := StoreD.Own.loc) ho hb)); clear ho hb HF; clear a; intro a HF
            obtain ⟨B26, C27, hh⟩ : ∃ B B1, St w0 ([ivA StoreD.Own StoreD.Own.loc B B1 u25 (st.wrote text level), ivA StoreD.Own StoreD.Own.loc B23 C24 u22 st, ivA StoreD.Own StoreD.Own.loc B20 C21 u19 st, boxA b18 5 33 (.agg #[.int .i64 ((st.wptr text level).fAt), .int .i64 ((st.wptr text level).fBirth), .int .i64 ((st.wptr text level).fSize), .int .i64 ((st.wptr text level).fSum), .int .i64 ((st.wptr text level).fLevel)]), boxA b17 8 65 u14, ivA StoreD.Own StoreD.Own.loc B15 C16 u14 ((st.wrote text level).marked 1), boxA b13 8 65 u10, ivA StoreD.Own StoreD.Own.loc B11 C12 u10 (st.marked 1), boxA b9 5 33 (.agg #[.int .i64 ((st.wptr text level).fAt), .int .i64 ((st.wptr text level).fBirth), .int .i64 ((st.wptr text level).fSize), .int .i64 ((st.wptr text level).fSum), .int .i64 ((st.wptr text level).fLevel)]), boxA b8 8 65 u5, ivA StoreD.Own StoreD.Own.loc B6 C7 u5 (st.wrote text level), ivA StoreD.Own StoreD.Own.loc B3 C4 u2 st, boxA b1 8 60 (.agg #[.slice a0 st.fRows.length c0, .slice a1 st.fSpace.fRefs.length c1, .slice a2 st.fSpace.fLast.length c2, .int .i64 st.fTxg, .slice a4 st.fGone.length c4, .int .i64 st.fKeep, .slice a6 st.fDead.length c6, .bool st.fSame])]) w29 := ⟨_, _, HS.out⟩; replace HS := Bx.mk hh; clear hh
            refine wl_y rfl HF rfl rfl (yl_move rfl (HF.ev rfl)) ?_; clear HF; clear a; intro a HF
            refine wl_y rfl HF rfl rfl (yl_extract rfl (HF.ev rfl) rfl) ?_; clear HF; clear a; intro a HF
            refine wl_y rfl HF rfl rfl (yl_extract rfl (HF.ev rfl) rfl) ?_; clear HF; clear a; intro a HF
            refine wl_y rfl HF rfl rfl (yl_extract rfl (HF.ev rfl) rfl) ?_; clear HF; clear a; intro a HF
            refine wl_alloc rfl HF rfl rfl rfl (Z := [.slice none 0 0, .slice none 0 0, .slice none 0 0, .int .i64 0, .slice none 0 0, .int .i64 0, .slice none 0 0, .bool false]) (by kernel_rfl) rfl HS.out ?_; clear HF HS; clear a; intro a w30 b28 HF HS; replace HS := Bx.mk HS
            refine wl_alloc rfl HF rfl rfl rfl (Z := [.int .i64 0, .int .i64 0, .int .i64 0, .int .i64 0, .int .i64 0]) (by kernel_rfl) rfl HS.out ?_; clear HF HS; clear a; intro a w31 b29 HF HS; replace HS := Bx.mk HS
            refine wl_storeBox rfl HF rfl rfl (HF.ev rfl) (HF.ev rfl) HS.out 1 rfl (StoreD.Own.cells (HS.out.iv 2 rfl)) (by kernel_rfl) ?_; clear HS; intro w32 HS; replace HS := Bx.mk HS
            have HS : Bx (St w0 ([boxA b29 5 33 (.agg #[.int .i64 0, .int .i64 0, .int .i64 0, .int .i64 0, .int .i64 0]), boxA b28 8 65 u25, ivA StoreD.Own StoreD.Own.loc B26 C27 u25 (st.wrote text level), ivA StoreD.Own StoreD.Own.loc B23 C24 u22 st, ivA StoreD.Own StoreD.Own.loc B20 C21 u19 st, boxA b18 5 33 (.agg #[.int .i64 ((st.wptr text level).fAt), .int .i64 ((st.wptr text level).fBirth), .int .i64 ((st.wptr text level).fSize), .int .i64 ((st.wptr text level).fSum), .int .i64 ((st.wptr text level).fLevel)]), boxA b17 8 65 u14, ivA StoreD.Own StoreD.Own.loc B15 C16 u14 ((st.wrote text level).marked 1), boxA b13 8 65 u10, ivA StoreD.Own StoreD.Own.loc B11 C12 u10 (st.marked 1), boxA b9 5 33 (.agg #[.int .i64 ((st.wptr text level).fAt), .int .i64 ((st.wptr text level).fBirth), .int .i64 ((st.wptr text level).fSize), .int .i64 ((st.wptr text level).fSum), .int .i64 ((st.wptr text level).fLevel)]), boxA b8 8 65 u5, ivA StoreD.Own StoreD.Own.loc B6 C7 u5 (st.wrote text level), ivA StoreD.Own StoreD.Own.loc B3 C4 u2 st, boxA b1 8 60 (.agg #[.slice a0 st.fRows.length c0, .slice a1 st.fSpace.fRefs.length c1, .slice a2 st.fSpace.fLast.length c2, .int .i64 st.fTxg, .slice a4 st.fGone.length c4, .int .i64 st.fKeep, .slice a6 st.fDead.length c6, .bool st.fSame])]) _) := HS
            refine wl_storeBox rfl HF rfl rfl (HF.ev rfl) (HF.ev rfl) HS.out 0 rfl (cells_lit [.int .i64 ((st.wptr text level).fAt), .int .i64 ((st.wptr text level).fBirth), .int .i64 ((st.wptr text level).fSize), .int .i64 ((st.wptr text level).fSum), .int .i64 ((st.wptr text level).fLevel)] rfl rfl) (by kernel_rfl) ?_; clear HS; intro w33 HS; replace HS := Bx.mk HS
            have HS : Bx (St w0 ([boxA b29 5 33 (.agg #[.int .i64 ((st.wptr text level).fAt), .int .i64 ((st.wptr text level).fBirth), .int .i64 ((st.wptr text level).fSize), .int .i64 ((st.wptr text level).fSum), .int .i64 ((st.wptr text level).fLevel)]), boxA b28 8 65 u25, ivA StoreD.Own StoreD.Own.loc B26 C27 u25 (st.wrote text level), ivA StoreD.Own StoreD.Own.loc B23 C24 u22 st, ivA StoreD.Own StoreD.Own.loc B20 C21 u19 st, boxA b18 5 33 (.agg #[.int .i64 ((st.wptr text level).fAt), .int .i64 ((st.wptr text level).fBirth), .int .i64 ((st.wptr text level).fSize), .int .i64 ((st.wptr text level).fSum), .int .i64 ((st.wptr text level).fLevel)]), boxA b17 8 65 u14, ivA StoreD.Own StoreD.Own.loc B15 C16 u14 ((st.wrote text level).marked 1), boxA b13 8 65 u10, ivA StoreD.Own StoreD.Own.loc B11 C12 u10 (st.marked 1), boxA b9 5 33 (.agg #[.int .i64 ((st.wptr text level).fAt), .int .i64 ((st.wptr text level).fBirth), .int .i64 ((st.wptr text level).fSize), .int .i64 ((st.wptr text level).fSum), .int .i64 ((st.wptr text level).fLevel)]), boxA b8 8 65 u5, ivA StoreD.Own StoreD.Own.loc B6 C7 u5 (st.wrote text level), ivA StoreD.Own StoreD.Own.loc B3 C4 u2 st, boxA b1 8 60 (.agg #[.slice a0 st.fRows.length c0, .slice a1 st.fSpace.fRefs.length c1, .slice a2 st.fSpace.fLast.length c2, .int .i64 st.fTxg, .slice a4 st.fGone.length c4, .int .i64 st.fKeep, .slice a6 st.fDead.length c6, .bool st.fSame])]) _) := HS
            refine wl_y rfl HF rfl rfl (yl_assign rfl (HF.ev rfl)) ?_; clear HF; clear a; intro a HF
            refine wpList_nil ?_
            refine ex_then ?_
            refine wp_seq ?_
            refine wp_seq ?_
            refine wp_region_lit ?_
            refine wl_y rfl HF rfl rfl (yl_loadB (v := u25) rfl (HF.ev rfl) (HS.out.box 1 rfl) (by kernel_rfl)) ?_; clear HF; clear a; intro a HF
            refine wl_y rfl HF rfl rfl (yl_loadB (v := u5) rfl (HF.ev rfl) (HS.out.box 11 rfl) (by kernel_rfl)) ?_; clear HF; clear a; intro a HF
            refine wl_callB rfl HF rfl (enter_of Try.func28 (by kernel_rfl) rfl) (args := #[u25, u5]) rfl (v := .bool true) (eqStore_yes _ _ (st.wrote text level) _ hfy (StoreD.Own.rd (HS.out.iv 2 rfl)) (StoreD.Own.rd (HS.out.iv 12 rfl))) rfl rfl HS.out ?_; clear HF HS; clear a; intro w34 a HS HF; replace HS := Bx.mk HS
            refine wl_y rfl HF rfl rfl (yl_not rfl (HF.ev rfl)) ?_; clear HF; clear a; intro a HF
            refine wl_y rfl HF rfl rfl (yl_move rfl (HF.ev rfl)) ?_; clear HF; clear a; intro a HF
            refine wl_yg HF rfl rfl rfl rfl rfl (yl_loadR (cs := [.int .i64 ((st.wptr text level).fAt), .int .i64 ((st.wptr text level).fBirth), .int .i64 ((st.wptr text level).fSize), .int .i64 ((st.wptr text level).fSum), .int .i64 ((st.wptr text level).fLevel)]) rfl (HF.ev rfl) ((HS.out.box 0 rfl).sub 0 5) (by kernel_rfl)) ?_; clear HF; clear a; intro a HF
            refine wl_yg HF rfl rfl rfl rfl rfl (yl_loadR (cs := [.int .i64 ((st.wptr text level).fAt), .int .i64 ((st.wptr text level).fBirth), .int .i64 ((st.wptr text level).fSize), .int .i64 ((st.wptr text level).fSum), .int .i64 ((st.wptr text level).fLevel)]) rfl (HF.ev rfl) ((HS.out.box 10 rfl).sub 0 5) (by kernel_rfl)) ?_; clear HF; clear a; intro a HF
            refine wl_callBg HF rfl rfl rfl rfl (enter_of Try.func29 (by kernel_rfl) rfl) (args := #[.agg #[.int .i64 ((st.wptr text level).fAt), .int .i64 ((st.wptr text level).fBirth), .int .i64 ((st.wptr text level).fSize), .int .i64 ((st.wptr text level).fSum), .int .i64 ((st.wptr text level).fLevel)], .agg #[.int .i64 ((st.wptr text level).fAt), .int .i64 ((st.wptr text level).fBirth), .int .i64 ((st.wptr text level).fSize), .int .i64 ((st.wptr text level).fSum), .int .i64 ((st.wptr text level).fLevel)]]) rfl (v := .bool true) (eqPtr_yes (st.wptr text level) _) rfl rfl HS.out ?_; clear HF HS; clear a; intro w35 a HS HF; replace HS := Bx.mk HS
            refine wl_yg HF rfl rfl rfl rfl rfl (yl_not rfl (HF.ev rfl)) ?_; clear HF; clear a; intro a HF
            refine wl_y rfl HF rfl rfl (yl_pick_f rfl (HF.ev rfl) (HF.ev rfl)) ?_; clear HF; clear a; intro a HF
            refine wl_y rfl HF rfl rfl (yl_move rfl (HF.ev rfl)) ?_; clear HF; clear a; intro a HF
            refine wl_yg HF rfl rfl rfl rfl rfl (yl_move rfl (HF.ev rfl)) ?_; clear HF; clear a; intro a HF
            refine wl_yg HF rfl rfl rfl rfl rfl (yl_move rfl (HF.ev rfl)) ?_; clear HF; clear a; intro a HF
            refine wl_yg HF rfl rfl rfl rfl rfl (yl_neqBs rfl (HF.ev rfl) (HF.ev rfl) (by kernel_rfl)) ?_; clear HF; clear a; intro a HF
            refine wl_y rfl HF rfl rfl (yl_pick_f rfl (HF.ev rfl) (HF.ev rfl)) ?_; clear HF; clear a; intro a HF
            refine wpList_nil ?_
            refine ex_then ?_
            refine wc_false HF rfl ?_
            refine wp_skip ?_
            refine ex_then ?_
            refine wp_seq ?_
            refine wp_region_lit ?_
            refine wl_y rfl HF rfl rfl (yl_assign rfl (HF.ev rfl)) ?_; clear HF; clear a; intro a HF
            refine wpList_nil ?_
            refine ex_then ?_
            refine wp_seq ?_
            refine wp_region_lit ?_
            refine wl_y rfl HF rfl rfl (yl_loadB (v := u14) rfl (HF.ev rfl) (HS.out.box 6 rfl) (by kernel_rfl)) ?_; clear HF; clear a; intro a HF
            refine wl_y rfl HF rfl rfl (yl_move rfl (HF.ev rfl)) ?_; clear HF; clear a; intro a HF
            refine wl_callB rfl HF rfl (enter_of Try.func31 (by kernel_rfl) rfl) (args := #[u14, .int .i64 1]) rfl (v := .int .i64 ((st.wrote text level).past 1)) (heldStore_any _ (st.wrote text level) 1 _ (by omega) (by omega) hfy (StoreD.Own.rd (HS.out.iv 7 rfl))) rfl rfl HS.out ?_; clear HF HS; clear a; intro w36 a HS HF; replace HS := Bx.mk HS
            refine wl_y rfl HF rfl rfl (yl_assign rfl (HF.ev rfl)) ?_; clear HF; clear a; intro a HF
            refine wpList_nil ?_
            refine ex_then ?_
            refine wp_seq ?_
            refine wp_seq ?_
            refine wp_region_lit ?_
            refine wl_y rfl HF rfl rfl (yl_move rfl (HF.ev rfl)) ?_; clear HF; clear a; intro a HF
            refine wl_y rfl HF rfl rfl (yl_lssI rfl (HF.ev rfl) (HF.ev rfl)) ?_; clear HF; clear a; intro a HF
            refine wpList_nil ?_
            refine ex_then ?_
            refine HF.cases 129 rfl (fun cc6 HF1 => ?_) (fun cc6 HF1 => ?_)
            · clear HF; have HF := HF1; clear HF1
              exact absurd (of_decide_eq_true cc6) (by omega)
            · clear HF; have HF := HF1; clear HF1
              refine wc_false HF rfl ?_
              refine wp_skip ?_
              refine ex_then ?_
              refine wp_seq ?_
              refine wp_seq ?_
              refine wp_region_lit ?_
              refine wl_y rfl HF rfl rfl (yl_move rfl (HF.ev rfl)) ?_; clear HF; clear a; intro a HF
              refine wl_y rfl HF rfl rfl (yl_move rfl (HF.ev rfl)) ?_; clear HF; clear a; intro a HF
              refine wl_y rfl HF rfl rfl (yl_neqI rfl (HF.ev rfl) (HF.ev rfl)) ?_; clear HF; clear a; intro a HF
              refine wpList_nil ?_
              refine ex_then ?_
              refine HF.cases 132 rfl (fun cc7 HF1 => ?_) (fun cc7 HF1 => ?_)
              · clear HF; have HF := HF1; clear HF1
                exact absurd cc7 (by simp)
              · clear HF; have HF := HF1; clear HF1
                refine wc_false HF rfl ?_
                refine wp_skip ?_
                refine ex_then ?_
                refine wp_seq ?_
                refine wp_region_lit ?_
                refine wl_y rfl HF rfl rfl (yl_assign rfl (HF.ev rfl)) ?_; clear HF; clear a; intro a HF
                refine wpList_nil ?_
                refine ex_then ?_
                refine wp_ret ?_
                refine bp_ret1 HF Try.results6 (HF.res rfl) ?_
                exact ⟨rfl, HS.out.bel⟩
end Go.Proofs.Ytfijfjjleelphaa
