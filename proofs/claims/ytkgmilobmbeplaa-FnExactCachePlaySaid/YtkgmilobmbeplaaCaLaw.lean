/- FnExactCachePlay: the law's walk. -/
import Derived.Test.YtkgmilobmbeplaaCaI
import Derived.Test.YtkgmilobmbeplaaCacheM
namespace Go.Proofs.Ytkgmilobmbeplaa
open Go.RowKit

theorem cells_cache (r g : Int) (a2 : Option Addr) (n2 c2 : Nat) (a3 : Option Addr) (n3 c3 : Nat) (a4 : Option Addr) (n4 c4 : Nat) (a5 : Option Addr) (n5 c5 : Nat) : Cells 6 (.agg #[.int .i64 r, .int .i64 g, .slice a2 n2 c2, .slice a3 n3 c3, .slice a4 n4 c4, .slice a5 n5 c5]) := cells_lit [.int .i64 r, .int .i64 g, .slice a2 n2 c2, .slice a3 n3 c3, .slice a4 n4 c4, .slice a5 n5 c5] rfl rfl
theorem CacheD.Own.cells {w : World} {B B1 : Nat} {v : Value} {x : CacheD} (h : CacheD.Own w B B1 v x) : Cells 6 v := by
  obtain ⟨a2, c2, a3, c3, a4, c4, a5, c5, rfl, _⟩ := h
  exact cells_cache _ _ _ _ _ _ _ _ _ _ _ _ _ _
theorem CacheD.past_pos1 (x : CacheD) : 0 < x.past 1 := by unfold CacheD.past; omega
theorem past_le1 {x : CacheD} (h : x.Fit) : x.past 1 ≤ 100000000 := by
  have := h.f2; have := h.f3; have := h.f4; have := h.f5
  unfold CacheD.past; omega
theorem play_fit {c : CacheD} (hf : c.Fit) (rs : List Int) : (c.play rs).1.Fit := by
  unfold CacheD.play
  split
  · rename_i h
    have := (play_inv (CacheD.ok_inv h) rs rs.length (Nat.le_refl _)).1
    rw [List.take_length] at this
    exact this.fit
  · exact ⟨Nat.zero_le _, Nat.zero_le _, Nat.zero_le _, Nat.zero_le _⟩
theorem toIntS_row (ao : Option Addr) (cap : Nat) (xs : List Int) (w : World) (hlen : xs.length ≤ 1048576) (hr : Rd encI 1 w ao xs.length xs) :
    Calls Try.prog 24 #[.slice ao xs.length cap] w fun e w' => ∃ ao' cap', e = .returned (.slice ao' xs.length cap') ∧ St w [rowA encI 1 3 (.slice ao' xs.length cap') xs] w' := by
  refine (toIntS_any ao xs.length cap xs w hlen hr).mono ?_
  rintro e w' ⟨rfl, ho, hb⟩
  exact ⟨_, _, rfl, St.ofRow (RowO.mk ho (fun g hg => (ho.lt g hg).2)) hb⟩
set_option maxHeartbeats 4000000 in
set_option maxRecDepth 100000 in
theorem lawCachePlay_any (va : Value) (c : CacheD) (ao : Option Addr) (cap : Nat) (rs : List Int) (w0 : World) (hr : CacheD.Reads w0 va c) (hsm : c.Small) (hs : rs.length ≤ 9223372036854775807) (hR : Rd encI 1 w0 ao rs.length rs) : Calls Try.prog 6 #[va, .slice ao rs.length cap] w0 fun e w' => e = .returned (.bool true) ∧ Below w0.heap.size w0 w' := by
  have HR := Bx.mk hr
  obtain ⟨a2, c2, a3, c3, a4, c4, a5, c5, rfl, _⟩ := hr
  have RR := Bx.mk hR
  clear hR
  have HS := Bx.mk (St.start w0)
  refine wc_enter Try.func6 rfl Try.ntmps6 [(0, .agg #[.int .i64 c.fRoom, .int .i64 c.fGoal, .slice a2 c.fOnce.length c2, .slice a3 c.fOften.length c3, .slice a4 c.fPast.length c4, .slice a5 c.fFormer.length c5]), (1, .slice ao rs.length cap)] ⟨rfl, rfl, trivial⟩ rfl ?_; intro a HF
  refine wp_seq ?_
  refine wp_region_lit ?_
  refine wl_box rfl HF rfl (HF.ev rfl) (Z := [.int .i64 c.fRoom, .int .i64 c.fGoal, .slice a2 c.fOnce.length c2, .slice a3 c.fOften.length c3, .slice a4 c.fPast.length c4, .slice a5 c.fFormer.length c5]) rfl rfl rfl rfl HS.out ?_; clear HF HS; clear a; intro a w1 b1 HF HS; replace HS := Bx.mk HS
  refine wl_y rfl HF rfl rfl (yl_assign rfl (HF.ev rfl)) ?_; clear HF; clear a; intro a HF
  refine wpList_nil ?_
  refine ex_then ?_
  refine wp_seq ?_
  refine wp_seq ?_
  refine wp_region_lit ?_
  refine wl_y rfl HF rfl rfl (yl_move rfl (HF.ev rfl)) ?_; clear HF; clear a; intro a HF
  refine wl_y rfl HF rfl rfl (yl_lenL (e := 3) (size := 1) rfl (HF.ev rfl) (by kernel_rfl)) ?_; clear HF; clear a; intro a HF
  refine wl_y rfl HF rfl rfl (yl_gtrI rfl (HF.ev rfl) (HF.ev rfl)) ?_; clear HF; clear a; intro a HF
  refine wpList_nil ?_
  refine ex_then ?_
  refine HF.cases 19 rfl (fun cc1 HF1 => ?_) (fun cc1 HF1 => ?_)
  · clear HF; have HF := HF1; clear HF1
    have hts := of_decide_eq_true cc1
    refine wc_true HF rfl ?_
    refine wp_seq ?_
    refine wp_region_lit ?_
    refine wl_y rfl HF rfl rfl (yl_assign rfl (HF.ev rfl)) ?_; clear HF; clear a; intro a HF
    refine wpList_nil ?_
    refine ex_then ?_
    refine wp_ret ?_
    refine ex_then_ret ?_
    refine bp_ret1 HF Try.results6 (HF.res rfl) ?_
    exact ⟨rfl, HS.out.bel⟩
  · clear HF; have HF := HF1; clear HF1
    have hts := of_decide_eq_false cc1
    refine wc_false HF rfl ?_
    refine wp_skip ?_
    refine ex_then ?_
    refine wp_seq ?_
    refine wp_region_lit ?_
    refine wl_y rfl HF rfl rfl (yl_assign rfl (HF.ev rfl)) ?_; clear HF; clear a; intro a HF
    refine wpList_nil ?_
    refine ex_then ?_
    refine wp_seq ?_
    refine wp_region_lit ?_
    refine wl_y rfl HF rfl rfl (yl_loadR (cs := [.int .i64 c.fRoom, .int .i64 c.fGoal, .slice a2 c.fOnce.length c2, .slice a3 c.fOften.length c3, .slice a4 c.fPast.length c4, .slice a5 c.fFormer.length c5]) rfl (HF.ev rfl) ((HS.out.box 0 rfl).sub 0 6) (by kernel_rfl)) ?_; clear HF; clear a; intro a HF
    refine wl_y rfl HF rfl rfl (yl_move rfl (HF.ev rfl)) ?_; clear HF; clear a; intro a HF
    refine wl_callB rfl HF rfl (enter_of Try.func21 (by kernel_rfl) rfl) (args := #[.agg #[.int .i64 c.fRoom, .int .i64 c.fGoal, .slice a2 c.fOnce.length c2, .slice a3 c.fOften.length c3, .slice a4 c.fPast.length c4, .slice a5 c.fFormer.length c5], .int .i64 1048576]) rfl (v := .int .i64 (leftOf 1048576 c.bulk)) (szCache_any _ c 1048576 _ (by omega) (by omega) (HR.out.below HS.out.bel) hsm) rfl rfl HS.out ?_; clear HF HS; clear a; intro w2 a HS HF; replace HS := Bx.mk HS
    refine wl_y rfl HF rfl rfl (yl_assign rfl (HF.ev rfl)) ?_; clear HF; clear a; intro a HF
    refine wpList_nil ?_
    refine ex_then ?_
    refine wp_seq ?_
    refine wp_seq ?_
    refine wp_region_lit ?_
    refine wl_y rfl HF rfl rfl (yl_move rfl (HF.ev rfl)) ?_; clear HF; clear a; intro a HF
    refine wl_y rfl HF rfl rfl (yl_lssI rfl (HF.ev rfl) (HF.ev rfl)) ?_; clear HF; clear a; intro a HF
    refine wpList_nil ?_
    refine ex_then ?_
    refine HF.cases 24 rfl (fun cc2 HF1 => ?_) (fun cc2 HF1 => ?_)
    · clear HF; have HF := HF1; clear HF1
      refine wc_true HF rfl ?_
      refine wp_seq ?_
      refine wp_region_lit ?_
      refine wl_y rfl HF rfl rfl (yl_assign rfl (HF.ev rfl)) ?_; clear HF; clear a; intro a HF
      refine wpList_nil ?_
      refine ex_then ?_
      refine wp_ret ?_
      refine ex_then_ret ?_
      refine bp_ret1 HF Try.results6 (HF.res rfl) ?_
      exact ⟨rfl, HS.out.bel⟩
    · clear HF; have HF := HF1; clear HF1
      have hbk : c.bulk ≤ 1048576 := by have := of_decide_eq_false cc2; unfold leftOf at this; split at this <;> omega
      have hf := CacheD.fit hbk
      have hfp : (c.play rs).1.Fit := play_fit hf rs
      have hpl := past_le1 hf
      refine wc_false HF rfl ?_
      refine wp_skip ?_
      refine ex_then ?_
      refine wp_seq ?_
      refine wp_region_lit ?_
      refine wl_y rfl HF rfl rfl (yl_loadR (cs := [.int .i64 c.fRoom, .int .i64 c.fGoal, .slice a2 c.fOnce.length c2, .slice a3 c.fOften.length c3, .slice a4 c.fPast.length c4, .slice a5 c.fFormer.length c5]) rfl (HF.ev rfl) ((HS.out.box 0 rfl).sub 0 6) (by kernel_rfl)) ?_; clear HF; clear a; intro a HF
      refine wl_call rfl HF rfl (enter_of Try.func23 (by kernel_rfl) rfl) (args := #[.agg #[.int .i64 c.fRoom, .int .i64 c.fGoal, .slice a2 c.fOnce.length c2, .slice a3 c.fOften.length c3, .slice a4 c.fPast.length c4, .slice a5 c.fFormer.length c5]]) rfl (toCache_any _ c _ hf (HR.out.below HS.out.bel)) rfl rfl ?_
      rintro _ w3 ⟨u2, rfl, ho, hb⟩
      refine ⟨_, rfl, ?_⟩; replace HS := Bx.mk (HS.out.add (St.ivNew (loc := CacheD.Own.loc) ho hb)); clear ho hb HF; clear a; intro a HF
      obtain ⟨B3, C4, hh⟩ : ∃ B B1, St w0 ([ivA CacheD.Own CacheD.Own.loc B B1 u2 c, boxA b1 6 46 (.agg #[.int .i64 c.fRoom, .int .i64 c.fGoal, .slice a2 c.fOnce.length c2, .slice a3 c.fOften.length c3, .slice a4 c.fPast.length c4, .slice a5 c.fFormer.length c5])]) w3 := ⟨_, _, HS.out⟩; replace HS := Bx.mk hh; clear hh
      refine wl_y rfl HF rfl rfl (yl_move rfl (HF.ev rfl)) ?_; clear HF; clear a; intro a HF
      refine wl_call rfl HF rfl (enter_of Try.func24 (by kernel_rfl) rfl) (args := #[.slice ao rs.length cap]) rfl (toIntS_row _ _ rs _ (by omega) (RR.out.below HS.out.bel)) rfl rfl ?_
      rintro _ w4 ⟨ao5, cp6, rfl, hn⟩
      refine ⟨_, rfl, ?_⟩; replace HS := Bx.mk (HS.out.add hn); clear hn HF; clear a; intro a HF
      replace HS : Bx (St w0 ([rowA encI 1 3 (.slice ao5 rs.length cp6) rs, ivA CacheD.Own CacheD.Own.loc B3 C4 u2 c, boxA b1 6 46 (.agg #[.int .i64 c.fRoom, .int .i64 c.fGoal, .slice a2 c.fOnce.length c2, .slice a3 c.fOften.length c3, .slice a4 c.fPast.length c4, .slice a5 c.fFormer.length c5])]) _) := ⟨HS.out⟩
      refine wl_call rfl HF rfl (enter_of Try.func22 (by kernel_rfl) rfl) (args := #[u2, .slice ao5 rs.length cp6]) rfl (specCachePlay_any _ c _ _ rs _ (CacheD.Own.rd (HS.out.iv 1 rfl)) hf (by omega) (St.rdOf HS.out encI_len 0 rfl)) rfl rfl ?_
      rintro _ w5 ⟨u8, rfl, ho, hb⟩
      refine ⟨_, rfl, ?_⟩; replace HS := Bx.mk (HS.out.add (St.ivNew (loc := CacheD.Own.loc) ho hb)); clear ho hb HF; clear a; intro a HF
      obtain ⟨B9, C10, hh⟩ : ∃ B B1, St w0 ([ivA CacheD.Own CacheD.Own.loc B B1 u8 ((c.play rs).1), rowA encI 1 3 (.slice ao5 rs.length cp6) rs, ivA CacheD.Own CacheD.Own.loc B3 C4 u2 c, boxA b1 6 46 (.agg #[.int .i64 c.fRoom, .int .i64 c.fGoal, .slice a2 c.fOnce.length c2, .slice a3 c.fOften.length c3, .slice a4 c.fPast.length c4, .slice a5 c.fFormer.length c5])]) w5 := ⟨_, _, HS.out⟩; replace HS := Bx.mk hh; clear hh
      refine wl_y rfl HF rfl rfl (yl_move rfl (HF.ev rfl)) ?_; clear HF; clear a; intro a HF
      refine wl_y rfl HF rfl rfl (yl_extract rfl (HF.ev rfl) rfl) ?_; clear HF; clear a; intro a HF
      refine wl_y rfl HF rfl rfl (yl_extract rfl (HF.ev rfl) rfl) ?_; clear HF; clear a; intro a HF
      refine wl_alloc rfl HF rfl rfl rfl (Z := [.int .i64 0, .int .i64 0, .slice none 0 0, .slice none 0 0, .slice none 0 0, .slice none 0 0]) (by kernel_rfl) rfl HS.out ?_; clear HF HS; clear a; intro a w6 b11 HF HS; replace HS := Bx.mk HS
      refine wl_storeBox rfl HF rfl rfl (HF.ev rfl) (HF.ev rfl) HS.out 0 rfl (CacheD.Own.cells (HS.out.iv 1 rfl)) (by kernel_rfl) ?_; clear HS; intro w7 HS; replace HS := Bx.mk HS
      have HS : Bx (St w0 ([boxA b11 6 48 u8, ivA CacheD.Own CacheD.Own.loc B9 C10 u8 ((c.play rs).1), rowA encI 1 3 (.slice ao5 rs.length cp6) rs, ivA CacheD.Own CacheD.Own.loc B3 C4 u2 c, boxA b1 6 46 (.agg #[.int .i64 c.fRoom, .int .i64 c.fGoal, .slice a2 c.fOnce.length c2, .slice a3 c.fOften.length c3, .slice a4 c.fPast.length c4, .slice a5 c.fFormer.length c5])]) _) := HS
      refine wl_y rfl HF rfl rfl (yl_assign rfl (HF.ev rfl)) ?_; clear HF; clear a; intro a HF
      refine wpList_nil ?_
      refine ex_then ?_
      refine wp_seq ?_
      refine wp_region_lit ?_
      refine wl_y rfl HF rfl rfl (yl_loadR (cs := [.int .i64 c.fRoom, .int .i64 c.fGoal, .slice a2 c.fOnce.length c2, .slice a3 c.fOften.length c3, .slice a4 c.fPast.length c4, .slice a5 c.fFormer.length c5]) rfl (HF.ev rfl) ((HS.out.box 4 rfl).sub 0 6) (by kernel_rfl)) ?_; clear HF; clear a; intro a HF
      refine wl_call rfl HF rfl (enter_of Try.func23 (by kernel_rfl) rfl) (args := #[.agg #[.int .i64 c.fRoom, .int .i64 c.fGoal, .slice a2 c.fOnce.length c2, .slice a3 c.fOften.length c3, .slice a4 c.fPast.length c4, .slice a5 c.fFormer.length c5]]) rfl (toCache_any _ c _ hf (HR.out.below HS.out.bel)) rfl rfl ?_
      rintro _ w8 ⟨u12, rfl, ho, hb⟩
      refine ⟨_, rfl, ?_⟩; replace HS := Bx.mk (HS.out.add (St.ivNew (loc := CacheD.Own.loc) ho hb)); clear ho hb HF; clear a; intro a HF
      obtain ⟨B13, C14, hh⟩ : ∃ B B1, St w0 ([ivA CacheD.Own CacheD.Own.loc B B1 u12 c, boxA b11 6 48 u8, ivA CacheD.Own CacheD.Own.loc B9 C10 u8 ((c.play rs).1), rowA encI 1 3 (.slice ao5 rs.length cp6) rs, ivA CacheD.Own CacheD.Own.loc B3 C4 u2 c, boxA b1 6 46 (.agg #[.int .i64 c.fRoom, .int .i64 c.fGoal, .slice a2 c.fOnce.length c2, .slice a3 c.fOften.length c3, .slice a4 c.fPast.length c4, .slice a5 c.fFormer.length c5])]) w8 := ⟨_, _, HS.out⟩; replace HS := Bx.mk hh; clear hh
      refine wl_alloc rfl HF rfl rfl rfl (Z := [.int .i64 0, .int .i64 0, .slice none 0 0, .slice none 0 0, .slice none 0 0, .slice none 0 0]) (by kernel_rfl) rfl HS.out ?_; clear HF HS; clear a; intro a w9 b15 HF HS; replace HS := Bx.mk HS
      refine wl_storeBox rfl HF rfl rfl (HF.ev rfl) (HF.ev rfl) HS.out 0 rfl (CacheD.Own.cells (HS.out.iv 1 rfl)) (by kernel_rfl) ?_; clear HS; intro w10 HS; replace HS := Bx.mk HS
      have HS : Bx (St w0 ([boxA b15 6 48 u12, ivA CacheD.Own CacheD.Own.loc B13 C14 u12 c, boxA b11 6 48 u8, ivA CacheD.Own CacheD.Own.loc B9 C10 u8 ((c.play rs).1), rowA encI 1 3 (.slice ao5 rs.length cp6) rs, ivA CacheD.Own CacheD.Own.loc B3 C4 u2 c, boxA b1 6 46 (.agg #[.int .i64 c.fRoom, .int .i64 c.fGoal, .slice a2 c.fOnce.length c2, .slice a3 c.fOften.length c3, .slice a4 c.fPast.length c4, .slice a5 c.fFormer.length c5])]) _) := HS
      refine wpList_nil ?_
      refine ex_then ?_
      refine wp_seq ?_
      refine wp_region_lit ?_
      refine wl_y rfl HF rfl rfl (yl_move rfl (HF.ev rfl)) ?_; clear HF; clear a; intro a HF
      refine wl_call rfl HF rfl (enter_of Try.func24 (by kernel_rfl) rfl) (args := #[.slice ao rs.length cap]) rfl (toIntS_row _ _ rs _ (by omega) (RR.out.below HS.out.bel)) rfl rfl ?_
      rintro _ w11 ⟨ao16, cp17, rfl, hn⟩
      refine ⟨_, rfl, ?_⟩; replace HS := Bx.mk (HS.out.add hn); clear hn HF; clear a; intro a HF
      replace HS : Bx (St w0 ([rowA encI 1 3 (.slice ao16 rs.length cp17) rs, boxA b15 6 48 u12, ivA CacheD.Own CacheD.Own.loc B13 C14 u12 c, boxA b11 6 48 u8, ivA CacheD.Own CacheD.Own.loc B9 C10 u8 ((c.play rs).1), rowA encI 1 3 (.slice ao5 rs.length cp6) rs, ivA CacheD.Own CacheD.Own.loc B3 C4 u2 c, boxA b1 6 46 (.agg #[.int .i64 c.fRoom, .int .i64 c.fGoal, .slice a2 c.fOnce.length c2, .slice a3 c.fOften.length c3, .slice a4 c.fPast.length c4, .slice a5 c.fFormer.length c5])]) _) := ⟨HS.out⟩
      refine wl_y rfl HF rfl rfl (yl_assign rfl (HF.ev rfl)) ?_; clear HF; clear a; intro a HF
      refine wpList_nil ?_
      refine ex_then ?_
      refine wp_seq ?_
      refine wp_region_lit ?_
      refine wl_y rfl HF rfl rfl (yl_loadB (v := u12) rfl (HF.ev rfl) (HS.out.box 1 rfl) (by kernel_rfl)) ?_; clear HF; clear a; intro a HF
      refine wl_y rfl HF rfl rfl (yl_move rfl (HF.ev rfl)) ?_; clear HF; clear a; intro a HF
      refine wl_call rfl HF rfl (enter_of Try.func25 (by kernel_rfl) rfl) (args := #[u12, .slice ao16 rs.length cp17]) rfl (implCachePlay_any _ c _ _ rs _ (CacheD.Own.rd (HS.out.iv 2 rfl)) hf (by omega) (St.rdOf HS.out encI_len 0 rfl)) rfl rfl ?_
      rintro _ w12 ⟨u19, rfl, ho, hb⟩
      refine ⟨_, rfl, ?_⟩; replace HS := Bx.mk (HS.out.add (St.ivNew (loc := CacheD.Own.loc) ho hb)); clear ho hb HF; clear a; intro a HF
      obtain ⟨B20, C21, hh⟩ : ∃ B B1, St w0 ([ivA CacheD.Own CacheD.Own.loc B B1 u19 ((c.play rs).1), rowA encI 1 3 (.slice ao16 rs.length cp17) rs, boxA b15 6 48 u12, ivA CacheD.Own CacheD.Own.loc B13 C14 u12 c, boxA b11 6 48 u8, ivA CacheD.Own CacheD.Own.loc B9 C10 u8 ((c.play rs).1), rowA encI 1 3 (.slice ao5 rs.length cp6) rs, ivA CacheD.Own CacheD.Own.loc B3 C4 u2 c, boxA b1 6 46 (.agg #[.int .i64 c.fRoom, .int .i64 c.fGoal, .slice a2 c.fOnce.length c2, .slice a3 c.fOften.length c3, .slice a4 c.fPast.length c4, .slice a5 c.fFormer.length c5])]) w12 := ⟨_, _, HS.out⟩; replace HS := Bx.mk hh; clear hh
      refine wl_y rfl HF rfl rfl (yl_move rfl (HF.ev rfl)) ?_; clear HF; clear a; intro a HF
      refine wl_y rfl HF rfl rfl (yl_extract rfl (HF.ev rfl) rfl) ?_; clear HF; clear a; intro a HF
      refine wl_y rfl HF rfl rfl (yl_extract rfl (HF.ev rfl) rfl) ?_; clear HF; clear a; intro a HF
      refine wl_alloc rfl HF rfl rfl rfl (Z := [.int .i64 0, .int .i64 0, .slice none 0 0, .slice none 0 0, .slice none 0 0, .slice none 0 0]) (by kernel_rfl) rfl HS.out ?_; clear HF HS; clear a; intro a w13 b22 HF HS; replace HS := Bx.mk HS
      refine wl_storeBox rfl HF rfl rfl (HF.ev rfl) (HF.ev rfl) HS.out 0 rfl (CacheD.Own.cells (HS.out.iv 1 rfl)) (by kernel_rfl) ?_; clear HS; intro w14 HS; replace HS := Bx.mk HS
      have HS : Bx (St w0 ([boxA b22 6 48 u19, ivA CacheD.Own CacheD.Own.loc B20 C21 u19 ((c.play rs).1), rowA encI 1 3 (.slice ao16 rs.length cp17) rs, boxA b15 6 48 u12, ivA CacheD.Own CacheD.Own.loc B13 C14 u12 c, boxA b11 6 48 u8, ivA CacheD.Own CacheD.Own.loc B9 C10 u8 ((c.play rs).1), rowA encI 1 3 (.slice ao5 rs.length cp6) rs, ivA CacheD.Own CacheD.Own.loc B3 C4 u2 c, boxA b1 6 46 (.agg #[.int .i64 c.fRoom, .int .i64 c.fGoal, .slice a2 c.fOnce.length c2, .slice a3 c.fOften.length c3, .slice a4 c.fPast.length c4, .slice a5 c.fFormer.length c5])]) _) := HS
      refine wl_y rfl HF rfl rfl (yl_assign rfl (HF.ev rfl)) ?_; clear HF; clear a; intro a HF
      refine wpList_nil ?_
      refine ex_then ?_
      refine wp_seq ?_
      refine wp_seq ?_
      refine wp_region_lit ?_
      refine wl_y rfl HF rfl rfl (yl_loadB (v := u19) rfl (HF.ev rfl) (HS.out.box 0 rfl) (by kernel_rfl)) ?_; clear HF; clear a; intro a HF
      refine wl_y rfl HF rfl rfl (yl_loadB (v := u8) rfl (HF.ev rfl) (HS.out.box 5 rfl) (by kernel_rfl)) ?_; clear HF; clear a; intro a HF
      refine wl_callB rfl HF rfl (enter_of Try.func26 (by kernel_rfl) rfl) (args := #[u19, u8]) rfl (v := .bool true) (eqCache_yes _ _ ((c.play rs).1) _ hfp (CacheD.Own.rd (HS.out.iv 1 rfl)) (CacheD.Own.rd (HS.out.iv 6 rfl))) rfl rfl HS.out ?_; clear HF HS; clear a; intro w15 a HS HF; replace HS := Bx.mk HS
      refine wl_y rfl HF rfl rfl (yl_not rfl (HF.ev rfl)) ?_; clear HF; clear a; intro a HF
      refine wl_y rfl HF rfl rfl (yl_move rfl (HF.ev rfl)) ?_; clear HF; clear a; intro a HF
      refine wl_yg HF rfl rfl rfl rfl rfl (yl_move rfl (HF.ev rfl)) ?_; clear HF; clear a; intro a HF
      refine wl_yg HF rfl rfl rfl rfl rfl (yl_move rfl (HF.ev rfl)) ?_; clear HF; clear a; intro a HF
      refine wl_yg HF rfl rfl rfl rfl rfl (yl_neqI rfl (HF.ev rfl) (HF.ev rfl)) ?_; clear HF; clear a; intro a HF
      refine wl_y rfl HF rfl rfl (yl_pick_f rfl (HF.ev rfl) (HF.ev rfl)) ?_; clear HF; clear a; intro a HF
      refine wpList_nil ?_
      refine ex_then ?_
      refine HF.cases 51 rfl (fun cc3 HF1 => ?_) (fun cc3 HF1 => ?_)
      · clear HF; have HF := HF1; clear HF1
        exact absurd cc3 (by simp)
      · clear HF; have HF := HF1; clear HF1
        refine wc_false HF rfl ?_
        refine wp_skip ?_
        refine ex_then ?_
        refine wp_seq ?_
        refine wp_seq ?_
        refine wr_heldS (s := [boxA b22 6 48 u19, ivA CacheD.Own CacheD.Own.loc B20 C21 u19 ((c.play rs).1), rowA encI 1 3 (.slice ao16 rs.length cp17) rs, boxA b15 6 48 u12, ivA CacheD.Own CacheD.Own.loc B13 C14 u12 c, boxA b11 6 48 u8, ivA CacheD.Own CacheD.Own.loc B9 C10 u8 ((c.play rs).1), rowA encI 1 3 (.slice ao5 rs.length cp6) rs, ivA CacheD.Own CacheD.Own.loc B3 C4 u2 c, boxA b1 6 46 (.agg #[.int .i64 c.fRoom, .int .i64 c.fGoal, .slice a2 c.fOnce.length c2, .slice a3 c.fOften.length c3, .slice a4 c.fPast.length c4, .slice a5 c.fFormer.length c5])]) (by kernel_rfl) (St.drew (HS.out)) ?_
        have HS2 := Bx.mk HS.out.drew; replace HS := Bx.mk (show St w0 ([boxA b22 6 48 u19, ivA CacheD.Own CacheD.Own.loc B20 C21 u19 ((c.play rs).1), rowA encI 1 3 (.slice ao16 rs.length cp17) rs, boxA b15 6 48 u12, ivA CacheD.Own CacheD.Own.loc B13 C14 u12 c, boxA b11 6 48 u8, ivA CacheD.Own CacheD.Own.loc B9 C10 u8 ((c.play rs).1), rowA encI 1 3 (.slice ao5 rs.length cp6) rs, ivA CacheD.Own CacheD.Own.loc B3 C4 u2 c, boxA b1 6 46 (.agg #[.int .i64 c.fRoom, .int .i64 c.fGoal, .slice a2 c.fOnce.length c2, .slice a3 c.fOften.length c3, .slice a4 c.fPast.length c4, .slice a5 c.fFormer.length c5])]) _ from HS.out.drew)
        generalize World.drew _ = w16 at HS HS2 ⊢
        refine wh_y 0 rfl (by kernel_rfl) (by kernel_rfl) (by kernel_rfl) (fun _ _ _ h => h) rfl HF rfl rfl (fun _ HS => (yl_loadB (v := u12) rfl (HF.ev rfl) (HS.box 3 rfl) (by kernel_rfl))) HS.out ?_; clear HF; clear a; intro a HF
        refine wh_y 1 rfl (by kernel_rfl) (by kernel_rfl) (by kernel_rfl) (fun _ _ _ h => h) rfl HF rfl rfl (fun _ HS => (yl_loadR (cs := [.int .i64 c.fRoom, .int .i64 c.fGoal, .slice a2 c.fOnce.length c2, .slice a3 c.fOften.length c3, .slice a4 c.fPast.length c4, .slice a5 c.fFormer.length c5]) rfl (HF.ev rfl) ((HS.box 9 rfl).sub 0 6) (by kernel_rfl))) HS.out ?_; clear HF; clear a; intro a HF
        refine wh_one 2 (by kernel_rfl) ?_
        refine wo_call rfl rfl HF rfl (enter_of Try.func23 (by kernel_rfl) rfl) (args := #[.agg #[.int .i64 c.fRoom, .int .i64 c.fGoal, .slice a2 c.fOnce.length c2, .slice a3 c.fOften.length c3, .slice a4 c.fPast.length c4, .slice a5 c.fFormer.length c5]]) rfl (toCache_any _ c _ hf (HR.out.below HS.out.bel)) rfl rfl ?_
        rintro _ w18 ⟨u23, rfl, ho, hb⟩
        refine ⟨_, rfl, ?_⟩; replace HS := Bx.mk (HS.out.later hb); replace HS2 := Bx.mk (HS2.out.add (St.ivNew (loc := CacheD.Own.loc) ho hb)); clear ho hb HF; clear a; intro a HF; refine ⟨HS.out, ?_⟩
        obtain ⟨B24, C25, hh⟩ : ∃ B B1, St w0 ([ivA CacheD.Own CacheD.Own.loc B B1 u23 c, boxA b22 6 48 u19, ivA CacheD.Own CacheD.Own.loc B20 C21 u19 ((c.play rs).1), rowA encI 1 3 (.slice ao16 rs.length cp17) rs, boxA b15 6 48 u12, ivA CacheD.Own CacheD.Own.loc B13 C14 u12 c, boxA b11 6 48 u8, ivA CacheD.Own CacheD.Own.loc B9 C10 u8 ((c.play rs).1), rowA encI 1 3 (.slice ao5 rs.length cp6) rs, ivA CacheD.Own CacheD.Own.loc B3 C4 u2 c, boxA b1 6 46 (.agg #[.int .i64 c.fRoom, .int .i64 c.fGoal, .slice a2 c.fOnce.length c2, .slice a3 c.fOften.length c3, .slice a4 c.fPast.length c4, .slice a5 c.fFormer.length c5])]) w18 := ⟨_, _, HS2.out⟩; replace HS2 := Bx.mk hh; clear hh
        refine wh_one 3 (by kernel_rfl) ?_
        refine wo_callB rfl rfl HF rfl (enter_of Try.func26 (by kernel_rfl) rfl) (args := #[u12, u23]) rfl (v := .bool true) (eqCache_yes _ _ c _ hf (CacheD.Own.rd (HS2.out.iv 5 rfl)) (CacheD.Own.rd (HS2.out.iv 0 rfl))) rfl rfl ?_
        intro w19 hb; replace HS := Bx.mk (HS.out.later hb); replace HS2 := Bx.mk (HS2.out.later hb); clear hb HF; clear a; intro a HF; refine ⟨HS.out, ?_⟩
        refine wh_y 4 rfl (by kernel_rfl) (by kernel_rfl) (by kernel_rfl) (fun _ _ _ h => h) rfl HF rfl rfl (fun _ HS => (yl_not rfl (HF.ev rfl))) HS.out ?_; clear HF; clear a; intro a HF
        refine wh_done (by kernel_rfl) ?_
        replace HS := HS2; clear HS2
        refine ex_then ?_
        refine wc_false HF rfl ?_
        refine wp_skip ?_
        refine ex_then ?_
        refine wp_seq ?_
        refine wp_seq ?_
        refine wp_region_lit ?_
        refine wl_y rfl HF rfl rfl (yl_move rfl (HF.ev rfl)) ?_; clear HF; clear a; intro a HF
        refine wl_y rfl HF rfl rfl (yl_move rfl (HF.ev rfl)) ?_; clear HF; clear a; intro a HF
        refine wl_call rfl HF rfl (enter_of Try.func24 (by kernel_rfl) rfl) (args := #[.slice ao rs.length cap]) rfl (toIntS_row _ _ rs _ (by omega) (RR.out.below HS.out.bel)) rfl rfl ?_
        rintro _ w20 ⟨ao26, cp27, rfl, hn⟩
        refine ⟨_, rfl, ?_⟩; replace HS := Bx.mk (HS.out.add hn); clear hn HF; clear a; intro a HF
        replace HS : Bx (St w0 ([rowA encI 1 3 (.slice ao26 rs.length cp27) rs, ivA CacheD.Own CacheD.Own.loc B24 C25 u23 c, boxA b22 6 48 u19, ivA CacheD.Own CacheD.Own.loc B20 C21 u19 ((c.play rs).1), rowA encI 1 3 (.slice ao16 rs.length cp17) rs, boxA b15 6 48 u12, ivA CacheD.Own CacheD.Own.loc B13 C14 u12 c, boxA b11 6 48 u8, ivA CacheD.Own CacheD.Own.loc B9 C10 u8 ((c.play rs).1), rowA encI 1 3 (.slice ao5 rs.length cp6) rs, ivA CacheD.Own CacheD.Own.loc B3 C4 u2 c, boxA b1 6 46 (.agg #[.int .i64 c.fRoom, .int .i64 c.fGoal, .slice a2 c.fOnce.length c2, .slice a3 c.fOften.length c3, .slice a4 c.fPast.length c4, .slice a5 c.fFormer.length c5])]) _) := ⟨HS.out⟩
        refine wl_callB rfl HF rfl (enter_of Try.func27 (by kernel_rfl) rfl) (args := #[.slice ao16 rs.length cp17, .slice ao26 rs.length cp27]) rfl (v := .bool true) (eqIntS_yes _ _ _ _ _ rs _ (by omega) (St.rdOf HS.out encI_len 4 rfl) (St.rdOf HS.out encI_len 0 rfl)) rfl rfl HS.out ?_; clear HF HS; clear a; intro w21 a HS HF; replace HS := Bx.mk HS
        refine wl_y rfl HF rfl rfl (yl_not rfl (HF.ev rfl)) ?_; clear HF; clear a; intro a HF
        refine wpList_nil ?_
        refine ex_then ?_
        refine wc_false HF rfl ?_
        refine wp_skip ?_
        refine ex_then ?_
        refine wp_seq ?_
        refine wp_region_lit ?_
        refine wl_y rfl HF rfl rfl (yl_assign rfl (HF.ev rfl)) ?_; clear HF; clear a; intro a HF
        refine wpList_nil ?_
        refine ex_then ?_
        refine wp_seq ?_
        refine wp_region_lit ?_
        refine wl_y rfl HF rfl rfl (yl_loadB (v := u12) rfl (HF.ev rfl) (HS.out.box 5 rfl) (by kernel_rfl)) ?_; clear HF; clear a; intro a HF
        refine wl_y rfl HF rfl rfl (yl_move rfl (HF.ev rfl)) ?_; clear HF; clear a; intro a HF
        refine wl_call rfl HF rfl (enter_of Try.func28 (by kernel_rfl) rfl) (args := #[u12, .int .i64 1]) rfl (markCache_any _ c _ _ 1 _ (by omega) (by omega) hf (HS.out.iv 6 rfl) (HS.out.ivLe 6 rfl)) rfl rfl ?_
        rintro _ w22 ⟨rfl, ho, hO⟩; refine ⟨_, rfl, ?_⟩; replace HS := Bx.mk (HS.out.ivMark 6 rfl ho hO); clear ho hO HF; clear a; intro a HF
        have HS : Bx (St w0 ([rowA encI 1 3 (.slice ao26 rs.length cp27) rs, ivA CacheD.Own CacheD.Own.loc B24 C25 u23 c, boxA b22 6 48 u19, ivA CacheD.Own CacheD.Own.loc B20 C21 u19 ((c.play rs).1), rowA encI 1 3 (.slice ao16 rs.length cp17) rs, boxA b15 6 48 u12, ivA CacheD.Own CacheD.Own.loc B13 C14 u12 (c.marked 1), boxA b11 6 48 u8, ivA CacheD.Own CacheD.Own.loc B9 C10 u8 ((c.play rs).1), rowA encI 1 3 (.slice ao5 rs.length cp6) rs, ivA CacheD.Own CacheD.Own.loc B3 C4 u2 c, boxA b1 6 46 (.agg #[.int .i64 c.fRoom, .int .i64 c.fGoal, .slice a2 c.fOnce.length c2, .slice a3 c.fOften.length c3, .slice a4 c.fPast.length c4, .slice a5 c.fFormer.length c5])]) _) := HS
        have hpast := CacheD.past_pos1 c
        refine wl_y rfl HF rfl rfl (yl_assign rfl (HF.ev rfl)) ?_; clear HF; clear a; intro a HF
        refine wpList_nil ?_
        refine ex_then ?_
        refine wp_seq ?_
        refine wp_region_lit ?_
        refine wl_y rfl HF rfl rfl (yl_move rfl (HF.ev rfl)) ?_; clear HF; clear a; intro a HF
        refine wl_y rfl HF rfl rfl (yl_move rfl (HF.ev rfl)) ?_; clear HF; clear a; intro a HF
        refine wl_call rfl HF rfl (enter_of Try.func29 (by kernel_rfl) rfl) (args := #[.slice ao16 rs.length cp17, .int .i64 (c.past 1)]) rfl (markIntS_r _ _ _ _ rs (c.past 1) _ (by omega) (by omega) (by omega) (HS.out.row 4 rfl)) rfl rfl ?_
        rintro _ w23 ⟨rfl, ho, hg⟩
        refine ⟨_, rfl, ?_⟩; replace HS := Bx.mk (HS.out.mutRow 4 rfl (ho.mono (Nat.le_refl _) hg.size) hg (fun g hg => .inl hg)); clear ho hg HF; clear a; intro a HF
        replace HS : Bx (St w0 ([rowA encI 1 3 (.slice ao26 rs.length cp27) rs, ivA CacheD.Own CacheD.Own.loc B24 C25 u23 c, boxA b22 6 48 u19, ivA CacheD.Own CacheD.Own.loc B20 C21 u19 ((c.play rs).1), rowA encI 1 3 (.slice ao16 rs.length cp17) (marks mkI 1 (c.past 1) rs.length), boxA b15 6 48 u12, ivA CacheD.Own CacheD.Own.loc B13 C14 u12 (c.marked 1), boxA b11 6 48 u8, ivA CacheD.Own CacheD.Own.loc B9 C10 u8 ((c.play rs).1), rowA encI 1 3 (.slice ao5 rs.length cp6) rs, ivA CacheD.Own CacheD.Own.loc B3 C4 u2 c, boxA b1 6 46 (.agg #[.int .i64 c.fRoom, .int .i64 c.fGoal, .slice a2 c.fOnce.length c2, .slice a3 c.fOften.length c3, .slice a4 c.fPast.length c4, .slice a5 c.fFormer.length c5])]) _) := ⟨HS.out⟩
        refine wl_y rfl HF rfl rfl (yl_assign rfl (HF.ev rfl)) ?_; clear HF; clear a; intro a HF
        refine wpList_nil ?_
        refine ex_then ?_
        refine wp_seq ?_
        refine wp_seq ?_
        refine wp_region_lit ?_
        refine wl_y rfl HF rfl rfl (yl_move rfl (HF.ev rfl)) ?_; clear HF; clear a; intro a HF
        refine wl_y rfl HF rfl rfl (yl_lssI rfl (HF.ev rfl) (HF.ev rfl)) ?_; clear HF; clear a; intro a HF
        refine wl_y rfl HF rfl rfl (yl_move rfl (HF.ev rfl)) ?_; clear HF; clear a; intro a HF
        refine HF.cases 70 rfl (fun cc4 HF1 => ?_) (fun cc4 HF1 => ?_)
        · clear HF; have HF := HF1; clear HF1
          exact absurd (of_decide_eq_true cc4) (by omega)
        · clear HF; have HF := HF1; clear HF1
          refine wl_yg HF rfl rfl rfl rfl rfl (yl_loadB (v := u19) rfl (HF.ev rfl) (HS.out.box 2 rfl) (by kernel_rfl)) ?_; clear HF; clear a; intro a HF
          refine wl_yg HF rfl rfl rfl rfl rfl (yl_loadB (v := u8) rfl (HF.ev rfl) (HS.out.box 7 rfl) (by kernel_rfl)) ?_; clear HF; clear a; intro a HF
          refine wl_callBg HF rfl rfl rfl rfl (enter_of Try.func26 (by kernel_rfl) rfl) (args := #[u19, u8]) rfl (v := .bool true) (eqCache_yes _ _ ((c.play rs).1) _ hfp (CacheD.Own.rd (HS.out.iv 3 rfl)) (CacheD.Own.rd (HS.out.iv 8 rfl))) rfl rfl HS.out ?_; clear HF HS; clear a; intro w24 a HS HF; replace HS := Bx.mk HS
          refine wl_yg HF rfl rfl rfl rfl rfl (yl_not rfl (HF.ev rfl)) ?_; clear HF; clear a; intro a HF
          refine wl_y rfl HF rfl rfl (yl_pick_f rfl (HF.ev rfl) (HF.ev rfl)) ?_; clear HF; clear a; intro a HF
          refine wl_y rfl HF rfl rfl (yl_move rfl (HF.ev rfl)) ?_; clear HF; clear a; intro a HF
          refine wl_yg HF rfl rfl rfl rfl rfl (yl_move rfl (HF.ev rfl)) ?_; clear HF; clear a; intro a HF
          refine wl_yg HF rfl rfl rfl rfl rfl (yl_move rfl (HF.ev rfl)) ?_; clear HF; clear a; intro a HF
          refine wl_yg HF rfl rfl rfl rfl rfl (yl_neqI rfl (HF.ev rfl) (HF.ev rfl)) ?_; clear HF; clear a; intro a HF
          refine wl_y rfl HF rfl rfl (yl_pick_f rfl (HF.ev rfl) (HF.ev rfl)) ?_; clear HF; clear a; intro a HF
          refine wpList_nil ?_
          refine ex_then ?_
          refine HF.cases 80 rfl (fun cc5 HF1 => ?_) (fun cc5 HF1 => ?_)
          · clear HF; have HF := HF1; clear HF1
            exact absurd cc5 (by simp)
          · clear HF; have HF := HF1; clear HF1
            refine wc_false HF rfl ?_
            refine wp_skip ?_
            refine ex_then ?_
            refine wp_seq ?_
            refine wp_region_lit ?_
            refine wl_y rfl HF rfl rfl (yl_assign rfl (HF.ev rfl)) ?_; clear HF; clear a; intro a HF
            refine wpList_nil ?_
            refine ex_then ?_
            refine wp_seq ?_
            refine wp_region_lit ?_
            refine wl_y rfl HF rfl rfl (yl_loadB (v := u19) rfl (HF.ev rfl) (HS.out.box 2 rfl) (by kernel_rfl)) ?_; clear HF; clear a; intro a HF
            refine wl_y rfl HF rfl rfl (yl_move rfl (HF.ev rfl)) ?_; clear HF; clear a; intro a HF
            refine wl_call rfl HF rfl (enter_of Try.func28 (by kernel_rfl) rfl) (args := #[u19, .int .i64 1]) rfl (markCache_any _ ((c.play rs).1) _ _ 1 _ (by omega) (by omega) hfp (HS.out.iv 3 rfl) (HS.out.ivLe 3 rfl)) rfl rfl ?_
            rintro _ w25 ⟨rfl, ho, hO⟩; refine ⟨_, rfl, ?_⟩; replace HS := Bx.mk (HS.out.ivMark 3 rfl ho hO); clear ho hO HF; clear a; intro a HF
            have HS : Bx (St w0 ([rowA encI 1 3 (.slice ao26 rs.length cp27) rs, ivA CacheD.Own CacheD.Own.loc B24 C25 u23 c, boxA b22 6 48 u19, ivA CacheD.Own CacheD.Own.loc B20 C21 u19 (((c.play rs).1).marked 1), rowA encI 1 3 (.slice ao16 rs.length cp17) (marks mkI 1 (c.past 1) rs.length), boxA b15 6 48 u12, ivA CacheD.Own CacheD.Own.loc B13 C14 u12 (c.marked 1), boxA b11 6 48 u8, ivA CacheD.Own CacheD.Own.loc B9 C10 u8 ((c.play rs).1), rowA encI 1 3 (.slice ao5 rs.length cp6) rs, ivA CacheD.Own CacheD.Own.loc B3 C4 u2 c, boxA b1 6 46 (.agg #[.int .i64 c.fRoom, .int .i64 c.fGoal, .slice a2 c.fOnce.length c2, .slice a3 c.fOften.length c3, .slice a4 c.fPast.length c4, .slice a5 c.fFormer.length c5])]) _) := HS
            have hpast := CacheD.past_pos1 ((c.play rs).1)
            refine wl_y rfl HF rfl rfl (yl_assign rfl (HF.ev rfl)) ?_; clear HF; clear a; intro a HF
            refine wpList_nil ?_
            refine ex_then ?_
            refine wp_seq ?_
            refine wp_region_lit ?_
            refine wl_y rfl HF rfl rfl (yl_assign rfl (HF.ev rfl)) ?_; clear HF; clear a; intro a HF
            refine wpList_nil ?_
            refine ex_then ?_
            refine wp_seq ?_
            refine wp_region_lit ?_
            refine wl_y rfl HF rfl rfl (yl_loadB (v := u19) rfl (HF.ev rfl) (HS.out.box 2 rfl) (by kernel_rfl)) ?_; clear HF; clear a; intro a HF
            refine wl_y rfl HF rfl rfl (yl_move rfl (HF.ev rfl)) ?_; clear HF; clear a; intro a HF
            refine wl_callB rfl HF rfl (enter_of Try.func30 (by kernel_rfl) rfl) (args := #[u19, .int .i64 1]) rfl (v := .int .i64 (((c.play rs).1).past 1)) (heldCache_any _ ((c.play rs).1) 1 _ (by omega) (by omega) hfp (CacheD.Own.rd (HS.out.iv 3 rfl))) rfl rfl HS.out ?_; clear HF HS; clear a; intro w26 a HS HF; replace HS := Bx.mk HS
            refine wl_y rfl HF rfl rfl (yl_assign rfl (HF.ev rfl)) ?_; clear HF; clear a; intro a HF
            refine wpList_nil ?_
            refine ex_then ?_
            refine wp_seq ?_
            refine wp_seq ?_
            refine wp_region_lit ?_
            refine wl_y rfl HF rfl rfl (yl_move rfl (HF.ev rfl)) ?_; clear HF; clear a; intro a HF
            refine wl_y rfl HF rfl rfl (yl_lssI rfl (HF.ev rfl) (HF.ev rfl)) ?_; clear HF; clear a; intro a HF
            refine wpList_nil ?_
            refine ex_then ?_
            refine HF.cases 88 rfl (fun cc6 HF1 => ?_) (fun cc6 HF1 => ?_)
            · clear HF; have HF := HF1; clear HF1
              exact absurd (of_decide_eq_true cc6) (by omega)
            · clear HF; have HF := HF1; clear HF1
              refine wc_false HF rfl ?_
              refine wp_skip ?_
              refine ex_then ?_
              refine wp_seq ?_
              refine wp_seq ?_
              refine wp_region_lit ?_
              refine wl_y rfl HF rfl rfl (yl_move rfl (HF.ev rfl)) ?_; clear HF; clear a; intro a HF
              refine wl_y rfl HF rfl rfl (yl_move rfl (HF.ev rfl)) ?_; clear HF; clear a; intro a HF
              refine wl_y rfl HF rfl rfl (yl_neqI rfl (HF.ev rfl) (HF.ev rfl)) ?_; clear HF; clear a; intro a HF
              refine wpList_nil ?_
              refine ex_then ?_
              refine HF.cases 91 rfl (fun cc7 HF1 => ?_) (fun cc7 HF1 => ?_)
              · clear HF; have HF := HF1; clear HF1
                exact absurd cc7 (by simp)
              · clear HF; have HF := HF1; clear HF1
                refine wc_false HF rfl ?_
                refine wp_skip ?_
                refine ex_then ?_
                refine wp_seq ?_
                refine wp_region_lit ?_
                refine wl_y rfl HF rfl rfl (yl_loadR (cs := [.int .i64 c.fRoom, .int .i64 c.fGoal, .slice a2 c.fOnce.length c2, .slice a3 c.fOften.length c3, .slice a4 c.fPast.length c4, .slice a5 c.fFormer.length c5]) rfl (HF.ev rfl) ((HS.out.box 11 rfl).sub 0 6) (by kernel_rfl)) ?_; clear HF; clear a; intro a HF
                refine wl_call rfl HF rfl (enter_of Try.func23 (by kernel_rfl) rfl) (args := #[.agg #[.int .i64 c.fRoom, .int .i64 c.fGoal, .slice a2 c.fOnce.length c2, .slice a3 c.fOften.length c3, .slice a4 c.fPast.length c4, .slice a5 c.fFormer.length c5]]) rfl (toCache_any _ c _ hf (HR.out.below HS.out.bel)) rfl rfl ?_
                rintro _ w27 ⟨u29, rfl, ho, hb⟩
                refine ⟨_, rfl, ?_⟩; replace HS := Bx.mk (HS.out.add (St.ivNew (loc := CacheD.Own.loc) ho hb)); clear ho hb HF; clear a; intro a HF
                obtain ⟨B30, C31, hh⟩ : ∃ B B1, St w0 ([ivA CacheD.Own CacheD.Own.loc B B1 u29 c, rowA encI 1 3 (.slice ao26 rs.length cp27) rs, ivA CacheD.Own CacheD.Own.loc B24 C25 u23 c, boxA b22 6 48 u19, ivA CacheD.Own CacheD.Own.loc B20 C21 u19 (((c.play rs).1).marked 1), rowA encI 1 3 (.slice ao16 rs.length cp17) (marks mkI 1 (c.past 1) rs.length), boxA b15 6 48 u12, ivA CacheD.Own CacheD.Own.loc B13 C14 u12 (c.marked 1), boxA b11 6 48 u8, ivA CacheD.Own CacheD.Own.loc B9 C10 u8 ((c.play rs).1), rowA encI 1 3 (.slice ao5 rs.length cp6) rs, ivA CacheD.Own CacheD.Own.loc B3 C4 u2 c, boxA b1 6 46 (.agg #[.int .i64 c.fRoom, .int .i64 c.fGoal, .slice a2 c.fOnce.length c2, .slice a3 c.fOften.length c3, .slice a4 c.fPast.length c4, .slice a5 c.fFormer.length c5])]) w27 := ⟨_, _, HS.out⟩; replace HS := Bx.mk hh; clear hh
                refine wl_y rfl HF rfl rfl (yl_move rfl (HF.ev rfl)) ?_; clear HF; clear a; intro a HF
                refine wl_call rfl HF rfl (enter_of Try.func24 (by kernel_rfl) rfl) (args := #[.slice ao rs.length cap]) rfl (toIntS_row _ _ rs _ (by omega) (RR.out.below HS.out.bel)) rfl rfl ?_
                rintro _ w28 ⟨ao32, cp33, rfl, hn⟩
                refine ⟨_, rfl, ?_⟩; replace HS := Bx.mk (HS.out.add hn); clear hn HF; clear a; intro a HF
                replace HS : Bx (St w0 ([rowA encI 1 3 (.slice ao32 rs.length cp33) rs, ivA CacheD.Own CacheD.Own.loc B30 C31 u29 c, rowA encI 1 3 (.slice ao26 rs.length cp27) rs, ivA CacheD.Own CacheD.Own.loc B24 C25 u23 c, boxA b22 6 48 u19, ivA CacheD.Own CacheD.Own.loc B20 C21 u19 (((c.play rs).1).marked 1), rowA encI 1 3 (.slice ao16 rs.length cp17) (marks mkI 1 (c.past 1) rs.length), boxA b15 6 48 u12, ivA CacheD.Own CacheD.Own.loc B13 C14 u12 (c.marked 1), boxA b11 6 48 u8, ivA CacheD.Own CacheD.Own.loc B9 C10 u8 ((c.play rs).1), rowA encI 1 3 (.slice ao5 rs.length cp6) rs, ivA CacheD.Own CacheD.Own.loc B3 C4 u2 c, boxA b1 6 46 (.agg #[.int .i64 c.fRoom, .int .i64 c.fGoal, .slice a2 c.fOnce.length c2, .slice a3 c.fOften.length c3, .slice a4 c.fPast.length c4, .slice a5 c.fFormer.length c5])]) _) := ⟨HS.out⟩
                refine wl_call rfl HF rfl (enter_of Try.func25 (by kernel_rfl) rfl) (args := #[u29, .slice ao32 rs.length cp33]) rfl (implCachePlay_any _ c _ _ rs _ (CacheD.Own.rd (HS.out.iv 1 rfl)) hf (by omega) (St.rdOf HS.out encI_len 0 rfl)) rfl rfl ?_
                rintro _ w29 ⟨u35, rfl, ho, hb⟩
                refine ⟨_, rfl, ?_⟩; replace HS := Bx.mk (HS.out.add (St.ivNew (loc := CacheD.Own.loc) ho hb)); clear ho hb HF; clear a; intro a HF
                obtain ⟨B36, C37, hh⟩ : ∃ B B1, St w0 ([ivA CacheD.Own CacheD.Own.loc B B1 u35 ((c.play rs).1), rowA encI 1 3 (.slice ao32 rs.length cp33) rs, ivA CacheD.Own CacheD.Own.loc B30 C31 u29 c, rowA encI 1 3 (.slice ao26 rs.length cp27) rs, ivA CacheD.Own CacheD.Own.loc B24 C25 u23 c, boxA b22 6 48 u19, ivA CacheD.Own CacheD.Own.loc B20 C21 u19 (((c.play rs).1).marked 1), rowA encI 1 3 (.slice ao16 rs.length cp17) (marks mkI 1 (c.past 1) rs.length), boxA b15 6 48 u12, ivA CacheD.Own CacheD.Own.loc B13 C14 u12 (c.marked 1), boxA b11 6 48 u8, ivA CacheD.Own CacheD.Own.loc B9 C10 u8 ((c.play rs).1), rowA encI 1 3 (.slice ao5 rs.length cp6) rs, ivA CacheD.Own CacheD.Own.loc B3 C4 u2 c, boxA b1 6 46 (.agg #[.int .i64 c.fRoom, .int .i64 c.fGoal, .slice a2 c.fOnce.length c2, .slice a3 c.fOften.length c3, .slice a4 c.fPast.length c4, .slice a5 c.fFormer.length c5])]) w29 := ⟨_, _, HS.out⟩; replace HS := Bx.mk hh; clear hh
                refine wl_y rfl HF rfl rfl (yl_move rfl (HF.ev rfl)) ?_; clear HF; clear a; intro a HF
                refine wl_y rfl HF rfl rfl (yl_extract rfl (HF.ev rfl) rfl) ?_; clear HF; clear a; intro a HF
                refine wl_y rfl HF rfl rfl (yl_extract rfl (HF.ev rfl) rfl) ?_; clear HF; clear a; intro a HF
                refine wl_alloc rfl HF rfl rfl rfl (Z := [.int .i64 0, .int .i64 0, .slice none 0 0, .slice none 0 0, .slice none 0 0, .slice none 0 0]) (by kernel_rfl) rfl HS.out ?_; clear HF HS; clear a; intro a w30 b38 HF HS; replace HS := Bx.mk HS
                refine wl_storeBox rfl HF rfl rfl (HF.ev rfl) (HF.ev rfl) HS.out 0 rfl (CacheD.Own.cells (HS.out.iv 1 rfl)) (by kernel_rfl) ?_; clear HS; intro w31 HS; replace HS := Bx.mk HS
                have HS : Bx (St w0 ([boxA b38 6 48 u35, ivA CacheD.Own CacheD.Own.loc B36 C37 u35 ((c.play rs).1), rowA encI 1 3 (.slice ao32 rs.length cp33) rs, ivA CacheD.Own CacheD.Own.loc B30 C31 u29 c, rowA encI 1 3 (.slice ao26 rs.length cp27) rs, ivA CacheD.Own CacheD.Own.loc B24 C25 u23 c, boxA b22 6 48 u19, ivA CacheD.Own CacheD.Own.loc B20 C21 u19 (((c.play rs).1).marked 1), rowA encI 1 3 (.slice ao16 rs.length cp17) (marks mkI 1 (c.past 1) rs.length), boxA b15 6 48 u12, ivA CacheD.Own CacheD.Own.loc B13 C14 u12 (c.marked 1), boxA b11 6 48 u8, ivA CacheD.Own CacheD.Own.loc B9 C10 u8 ((c.play rs).1), rowA encI 1 3 (.slice ao5 rs.length cp6) rs, ivA CacheD.Own CacheD.Own.loc B3 C4 u2 c, boxA b1 6 46 (.agg #[.int .i64 c.fRoom, .int .i64 c.fGoal, .slice a2 c.fOnce.length c2, .slice a3 c.fOften.length c3, .slice a4 c.fPast.length c4, .slice a5 c.fFormer.length c5])]) _) := HS
                refine wl_y rfl HF rfl rfl (yl_assign rfl (HF.ev rfl)) ?_; clear HF; clear a; intro a HF
                refine wpList_nil ?_
                refine ex_then ?_
                refine wp_seq ?_
                refine wp_seq ?_
                refine wp_region_lit ?_
                refine wl_y rfl HF rfl rfl (yl_loadB (v := u35) rfl (HF.ev rfl) (HS.out.box 0 rfl) (by kernel_rfl)) ?_; clear HF; clear a; intro a HF
                refine wl_y rfl HF rfl rfl (yl_loadB (v := u8) rfl (HF.ev rfl) (HS.out.box 11 rfl) (by kernel_rfl)) ?_; clear HF; clear a; intro a HF
                refine wl_callB rfl HF rfl (enter_of Try.func26 (by kernel_rfl) rfl) (args := #[u35, u8]) rfl (v := .bool true) (eqCache_yes _ _ ((c.play rs).1) _ hfp (CacheD.Own.rd (HS.out.iv 1 rfl)) (CacheD.Own.rd (HS.out.iv 12 rfl))) rfl rfl HS.out ?_; clear HF HS; clear a; intro w32 a HS HF; replace HS := Bx.mk HS
                refine wl_y rfl HF rfl rfl (yl_not rfl (HF.ev rfl)) ?_; clear HF; clear a; intro a HF
                refine wl_y rfl HF rfl rfl (yl_move rfl (HF.ev rfl)) ?_; clear HF; clear a; intro a HF
                refine wl_yg HF rfl rfl rfl rfl rfl (yl_move rfl (HF.ev rfl)) ?_; clear HF; clear a; intro a HF
                refine wl_yg HF rfl rfl rfl rfl rfl (yl_move rfl (HF.ev rfl)) ?_; clear HF; clear a; intro a HF
                refine wl_yg HF rfl rfl rfl rfl rfl (yl_neqI rfl (HF.ev rfl) (HF.ev rfl)) ?_; clear HF; clear a; intro a HF
                refine wl_y rfl HF rfl rfl (yl_pick_f rfl (HF.ev rfl) (HF.ev rfl)) ?_; clear HF; clear a; intro a HF
                refine wpList_nil ?_
                refine ex_then ?_
                refine HF.cases 108 rfl (fun cc8 HF1 => ?_) (fun cc8 HF1 => ?_)
                · clear HF; have HF := HF1; clear HF1
                  exact absurd cc8 (by simp)
                · clear HF; have HF := HF1; clear HF1
                  refine wc_false HF rfl ?_
                  refine wp_skip ?_
                  refine ex_then ?_
                  refine wp_seq ?_
                  refine wp_region_lit ?_
                  refine wl_y rfl HF rfl rfl (yl_assign rfl (HF.ev rfl)) ?_; clear HF; clear a; intro a HF
                  refine wpList_nil ?_
                  refine ex_then ?_
                  refine wp_seq ?_
                  refine wp_region_lit ?_
                  refine wl_y rfl HF rfl rfl (yl_loadB (v := u19) rfl (HF.ev rfl) (HS.out.box 6 rfl) (by kernel_rfl)) ?_; clear HF; clear a; intro a HF
                  refine wl_y rfl HF rfl rfl (yl_move rfl (HF.ev rfl)) ?_; clear HF; clear a; intro a HF
                  refine wl_callB rfl HF rfl (enter_of Try.func30 (by kernel_rfl) rfl) (args := #[u19, .int .i64 1]) rfl (v := .int .i64 (((c.play rs).1).past 1)) (heldCache_any _ ((c.play rs).1) 1 _ (by omega) (by omega) hfp (CacheD.Own.rd (HS.out.iv 7 rfl))) rfl rfl HS.out ?_; clear HF HS; clear a; intro w33 a HS HF; replace HS := Bx.mk HS
                  refine wl_y rfl HF rfl rfl (yl_assign rfl (HF.ev rfl)) ?_; clear HF; clear a; intro a HF
                  refine wpList_nil ?_
                  refine ex_then ?_
                  refine wp_seq ?_
                  refine wp_seq ?_
                  refine wp_region_lit ?_
                  refine wl_y rfl HF rfl rfl (yl_move rfl (HF.ev rfl)) ?_; clear HF; clear a; intro a HF
                  refine wl_y rfl HF rfl rfl (yl_lssI rfl (HF.ev rfl) (HF.ev rfl)) ?_; clear HF; clear a; intro a HF
                  refine wpList_nil ?_
                  refine ex_then ?_
                  refine HF.cases 113 rfl (fun cc9 HF1 => ?_) (fun cc9 HF1 => ?_)
                  · clear HF; have HF := HF1; clear HF1
                    exact absurd (of_decide_eq_true cc9) (by omega)
                  · clear HF; have HF := HF1; clear HF1
                    refine wc_false HF rfl ?_
                    refine wp_skip ?_
                    refine ex_then ?_
                    refine wp_seq ?_
                    refine wp_seq ?_
                    refine wp_region_lit ?_
                    refine wl_y rfl HF rfl rfl (yl_move rfl (HF.ev rfl)) ?_; clear HF; clear a; intro a HF
                    refine wl_y rfl HF rfl rfl (yl_move rfl (HF.ev rfl)) ?_; clear HF; clear a; intro a HF
                    refine wl_y rfl HF rfl rfl (yl_neqI rfl (HF.ev rfl) (HF.ev rfl)) ?_; clear HF; clear a; intro a HF
                    refine wpList_nil ?_
                    refine ex_then ?_
                    refine HF.cases 116 rfl (fun cc10 HF1 => ?_) (fun cc10 HF1 => ?_)
                    · clear HF; have HF := HF1; clear HF1
                      exact absurd cc10 (by simp)
                    · clear HF; have HF := HF1; clear HF1
                      refine wc_false HF rfl ?_
                      refine wp_skip ?_
                      refine ex_then ?_
                      refine wp_seq ?_
                      refine wp_region_lit ?_
                      refine wl_y rfl HF rfl rfl (yl_assign rfl (HF.ev rfl)) ?_; clear HF; clear a; intro a HF
                      refine wpList_nil ?_
                      refine ex_then ?_
                      refine wp_ret ?_
                      refine bp_ret1 HF Try.results6 (HF.res rfl) ?_
                      exact ⟨rfl, HS.out.bel⟩
end Go.Proofs.Ytkgmilobmbeplaa
