/- The cache, walked: l27Ask and CachePlay of the reference. -/
import Derived.Test.YtkgmilobmbeplaaCaF
import Derived.Test.YtkgmilobmbeplaaCaG
namespace Go.Proofs.Ytkgmilobmbeplaa
open Go.RowKit

theorem way_le2 (c : CacheD) (f : Bool) : (c.wayC f).fPast.length ≤ c.fPast.length + 1 ∧ (c.wayC f).fFormer.length ≤ c.fFormer.length + 1 := by
  unfold CacheD.wayC
  split
  · exact ⟨by omega, by omega⟩
  · split
    · exact ⟨by simp, by simp⟩
    · exact ⟨by simp, by simp⟩
theorem CacheD.Inv.fit {c : CacheD} (h : c.Inv) : c.Fit := by
  have := h.bounds
  exact ⟨by omega, by omega, by omega, by omega⟩

set_option maxHeartbeats 2000000 in
set_option maxRecDepth 100000 in
theorem l27Ask_any (w0 w : World) (a2 : Option Addr) (c2 : Nat) (a3 : Option Addr) (c3 : Nat) (a4 : Option Addr) (c4 : Nat) (a5 : Option Addr) (c5 : Nat) (c : CacheD) (r : Int) (F : List Asr) (hI : c.Inv) (hS : St w0 (rowA encI 1 3 (.slice a2 c.fOnce.length c2) c.fOnce :: rowA encI 1 3 (.slice a3 c.fOften.length c3) c.fOften :: rowA encI 1 3 (.slice a4 c.fPast.length c4) c.fPast :: rowA encI 1 3 (.slice a5 c.fFormer.length c5) c.fFormer :: F) w) : Calls Try.prog 60 #[.agg #[.int .i64 c.fRoom, .int .i64 c.fGoal, .slice a2 c.fOnce.length c2, .slice a3 c.fOften.length c3, .slice a4 c.fPast.length c4, .slice a5 c.fFormer.length c5], .int .i64 r] w fun e w' => ∃ v', e = .returned (.tuple #[v', .bool (c.ask r).2]) ∧ CacheV w0 v' (c.ask r).1 F w' := by
  have HS := Bx.mk hS
  clear hS
  have hb := hI.bounds
  have g1 := hI.hot; have g2 := hI.one; have g3 := hI.all
  unfold CacheD.total at g3
  refine wc_enter Try.func60 rfl Try.ntmps60 [(0, .agg #[.int .i64 c.fRoom, .int .i64 c.fGoal, .slice a2 c.fOnce.length c2, .slice a3 c.fOften.length c3, .slice a4 c.fPast.length c4, .slice a5 c.fFormer.length c5]), (1, .int .i64 r)] ⟨rfl, rfl, trivial⟩ rfl ?_; intro a HF
  refine wp_seq ?_
  refine wp_region_lit ?_
  refine wl_box rfl HF rfl (HF.ev rfl) (Z := [.int .i64 c.fRoom, .int .i64 c.fGoal, .slice a2 c.fOnce.length c2, .slice a3 c.fOften.length c3, .slice a4 c.fPast.length c4, .slice a5 c.fFormer.length c5]) rfl rfl rfl rfl HS.out ?_; clear HF HS; clear a; intro a w1 b1 HF HS; replace HS := Bx.mk HS
  refine wl_alloc rfl HF rfl rfl rfl (Z := [.int .i64 0, .int .i64 0, .slice none 0 0, .slice none 0 0, .slice none 0 0, .slice none 0 0]) (by kernel_rfl) rfl HS.out ?_; clear HF HS; clear a; intro a w2 b2 HF HS; replace HS := Bx.mk HS
  refine wl_y rfl HF rfl rfl (yl_assign rfl (HF.ev rfl)) ?_; clear HF; clear a; intro a HF
  refine wpList_nil ?_
  refine ex_then ?_
  refine wp_seq ?_
  refine wp_block ?_
  refine wp_seq ?_
  refine wp_region_lit ?_
  refine wl_y rfl HF rfl rfl (yl_fieldAddr (j := 2) rfl (HF.ev rfl) (by kernel_rfl)) ?_; clear HF; clear a; intro a HF
  refine wl_y rfl HF rfl rfl (yl_load (v := .slice a2 c.fOnce.length c2) rfl (HF.ev rfl) (((HS.out.box 1 rfl).cell 2).trans rfl) (by kernel_rfl)) ?_; clear HF; clear a; intro a HF
  refine wl_y rfl HF rfl rfl (yl_move rfl (HF.ev rfl)) ?_; clear HF; clear a; intro a HF
  refine wl_callB rfl HF rfl (enter_of Try.func103 (by kernel_rfl) rfl) (args := #[.slice a2 c.fOnce.length c2, .int .i64 r]) rfl (v := .bool (inI c.fOnce r)) (l5InI_any _ _ _ c.fOnce r _ (by first | omega | (simp; omega)) (St.rdOf HS.out encI_len 2 rfl)) rfl rfl HS.out ?_; clear HF HS; clear a; intro w3 a HS HF; replace HS := Bx.mk HS
  refine wl_y rfl HF rfl rfl (yl_move rfl (HF.ev rfl)) ?_; clear HF; clear a; intro a HF
  refine HF.cases 11 rfl (fun cc1 HF1 => ?_) (fun cc1 HF1 => ?_)
  · clear HF; have HF := HF1; clear HF1
    have q2 := cc1
    have hps := inI_pos q2
    refine wl_skip HF rfl rfl rfl rfl rfl rfl ?_; clear HF; clear a; intro a HF
    refine wl_skip HF rfl rfl rfl rfl rfl rfl ?_; clear HF; clear a; intro a HF
    refine wl_skip HF rfl rfl rfl rfl rfl rfl ?_; clear HF; clear a; intro a HF
    refine wl_skip HF rfl rfl rfl rfl rfl rfl ?_; clear HF; clear a; intro a HF
    refine wl_y rfl HF rfl rfl (yl_pick_t rfl (HF.ev rfl) (HF.ev rfl)) ?_; clear HF; clear a; intro a HF
    refine wl_y rfl HF rfl rfl (yl_assign rfl (HF.ev rfl)) ?_; clear HF; clear a; intro a HF
    refine wpList_nil ?_
    refine ex_then ?_
    refine wc_true HF rfl ?_
    refine wp_seq ?_
    refine wp_region_lit ?_
    refine wl_y rfl HF rfl rfl (yl_fieldAddr (j := 2) rfl (HF.ev rfl) (by kernel_rfl)) ?_; clear HF; clear a; intro a HF
    refine wl_y rfl HF rfl rfl (yl_load (v := .slice a2 c.fOnce.length c2) rfl (HF.ev rfl) (((HS.out.box 1 rfl).cell 2).trans rfl) (by kernel_rfl)) ?_; clear HF; clear a; intro a HF
    refine wl_y rfl HF rfl rfl (yl_move rfl (HF.ev rfl)) ?_; clear HF; clear a; intro a HF
    refine wl_call rfl HF rfl (enter_of Try.func104 (by kernel_rfl) rfl) (args := #[.slice a2 c.fOnce.length c2, .int .i64 r]) rfl (l27Less_any _ _ c.fOnce r _ (by first | omega | (simp; omega)) (St.rdOf HS.out encI_len 2 rfl)) rfl rfl ?_
    rintro _ w4 ⟨ao3, cp4, rfl, hn⟩
    refine ⟨_, rfl, ?_⟩; replace HS := Bx.mk (HS.out.add hn); clear hn HF; clear a; intro a HF
    replace HS : Bx (St w0 (rowA encI 1 3 (.slice ao3 ((less c.fOnce r).length) cp4) (less c.fOnce r) :: boxA b2 6 48 (.agg #[.int .i64 0, .int .i64 0, .slice none 0 0, .slice none 0 0, .slice none 0 0, .slice none 0 0]) :: boxA b1 6 48 (.agg #[.int .i64 c.fRoom, .int .i64 c.fGoal, .slice a2 c.fOnce.length c2, .slice a3 c.fOften.length c3, .slice a4 c.fPast.length c4, .slice a5 c.fFormer.length c5]) :: rowA encI 1 3 (.slice a2 c.fOnce.length c2) c.fOnce :: rowA encI 1 3 (.slice a3 c.fOften.length c3) c.fOften :: rowA encI 1 3 (.slice a4 c.fPast.length c4) c.fPast :: rowA encI 1 3 (.slice a5 c.fFormer.length c5) c.fFormer :: F) _) := ⟨HS.out⟩
    refine wl_y rfl HF rfl rfl (yl_fieldAddr (j := 2) rfl (HF.ev rfl) (by kernel_rfl)) ?_; clear HF; clear a; intro a HF
    refine wl_storeF rfl rfl rfl (HF.ev rfl) (HF.ev rfl) (by kernel_rfl) HS.out 2 rfl rfl rfl ?_; clear HS; intro w5 HS; replace HS := Bx.mk HS
    have HS : Bx (St w0 (rowA encI 1 3 (.slice ao3 ((less c.fOnce r).length) cp4) (less c.fOnce r) :: boxA b2 6 48 (.agg #[.int .i64 0, .int .i64 0, .slice none 0 0, .slice none 0 0, .slice none 0 0, .slice none 0 0]) :: boxA b1 6 48 (.agg #[.int .i64 c.fRoom, .int .i64 c.fGoal, .slice ao3 ((less c.fOnce r).length) cp4, .slice a3 c.fOften.length c3, .slice a4 c.fPast.length c4, .slice a5 c.fFormer.length c5]) :: rowA encI 1 3 (.slice a2 c.fOnce.length c2) c.fOnce :: rowA encI 1 3 (.slice a3 c.fOften.length c3) c.fOften :: rowA encI 1 3 (.slice a4 c.fPast.length c4) c.fPast :: rowA encI 1 3 (.slice a5 c.fFormer.length c5) c.fFormer :: F) _) := HS
    refine wpList_nil ?_
    refine ex_then ?_
    refine wp_seq ?_
    refine wp_region_lit ?_
    refine wl_y rfl HF rfl rfl (yl_fieldAddr (j := 3) rfl (HF.ev rfl) (by kernel_rfl)) ?_; clear HF; clear a; intro a HF
    refine wl_y rfl HF rfl rfl (yl_load (v := .slice a3 c.fOften.length c3) rfl (HF.ev rfl) (((HS.out.box 2 rfl).cell 3).trans rfl) (by kernel_rfl)) ?_; clear HF; clear a; intro a HF
    refine wl_y rfl HF rfl rfl (yl_move rfl (HF.ev rfl)) ?_; clear HF; clear a; intro a HF
    refine wl_call rfl HF rfl (enter_of Try.func104 (by kernel_rfl) rfl) (args := #[.slice a3 c.fOften.length c3, .int .i64 r]) rfl (l27Less_any _ _ c.fOften r _ (by first | omega | (simp; omega)) (St.rdOf HS.out encI_len 4 rfl)) rfl rfl ?_
    rintro _ w6 ⟨ao6, cp7, rfl, hn⟩
    refine ⟨_, rfl, ?_⟩; replace HS := Bx.mk (HS.out.add hn); clear hn HF; clear a; intro a HF
    replace HS : Bx (St w0 (rowA encI 1 3 (.slice ao6 ((less c.fOften r).length) cp7) (less c.fOften r) :: rowA encI 1 3 (.slice ao3 ((less c.fOnce r).length) cp4) (less c.fOnce r) :: boxA b2 6 48 (.agg #[.int .i64 0, .int .i64 0, .slice none 0 0, .slice none 0 0, .slice none 0 0, .slice none 0 0]) :: boxA b1 6 48 (.agg #[.int .i64 c.fRoom, .int .i64 c.fGoal, .slice ao3 ((less c.fOnce r).length) cp4, .slice a3 c.fOften.length c3, .slice a4 c.fPast.length c4, .slice a5 c.fFormer.length c5]) :: rowA encI 1 3 (.slice a2 c.fOnce.length c2) c.fOnce :: rowA encI 1 3 (.slice a3 c.fOften.length c3) c.fOften :: rowA encI 1 3 (.slice a4 c.fPast.length c4) c.fPast :: rowA encI 1 3 (.slice a5 c.fFormer.length c5) c.fFormer :: F) _) := ⟨HS.out⟩
    refine wl_y rfl HF rfl rfl (yl_move rfl (HF.ev rfl)) ?_; clear HF; clear a; intro a HF
    have hln := less_len c.fOften r
    refine wl_call rfl HF rfl (enter_of Try.func105 (by kernel_rfl) rfl) (args := #[.slice ao6 ((less c.fOften r).length) cp7, .int .i64 r]) rfl (l27Front_any _ _ (less c.fOften r) r _ (by first | omega | (simp; omega)) (St.rdOf HS.out encI_len 0 rfl)) rfl rfl ?_
    rintro _ w7 ⟨ao9, cp10, rfl, hn⟩
    refine ⟨_, rfl, ?_⟩; replace HS := Bx.mk (HS.out.add hn); clear hn HF; clear a; intro a HF
    replace HS : Bx (St w0 (rowA encI 1 3 (.slice ao9 ((r :: (less c.fOften r)).length) cp10) (r :: (less c.fOften r)) :: rowA encI 1 3 (.slice ao6 ((less c.fOften r).length) cp7) (less c.fOften r) :: rowA encI 1 3 (.slice ao3 ((less c.fOnce r).length) cp4) (less c.fOnce r) :: boxA b2 6 48 (.agg #[.int .i64 0, .int .i64 0, .slice none 0 0, .slice none 0 0, .slice none 0 0, .slice none 0 0]) :: boxA b1 6 48 (.agg #[.int .i64 c.fRoom, .int .i64 c.fGoal, .slice ao3 ((less c.fOnce r).length) cp4, .slice a3 c.fOften.length c3, .slice a4 c.fPast.length c4, .slice a5 c.fFormer.length c5]) :: rowA encI 1 3 (.slice a2 c.fOnce.length c2) c.fOnce :: rowA encI 1 3 (.slice a3 c.fOften.length c3) c.fOften :: rowA encI 1 3 (.slice a4 c.fPast.length c4) c.fPast :: rowA encI 1 3 (.slice a5 c.fFormer.length c5) c.fFormer :: F) _) := ⟨HS.out⟩
    refine wl_y rfl HF rfl rfl (yl_fieldAddr (j := 3) rfl (HF.ev rfl) (by kernel_rfl)) ?_; clear HF; clear a; intro a HF
    refine wl_storeF rfl rfl rfl (HF.ev rfl) (HF.ev rfl) (by kernel_rfl) HS.out 4 rfl rfl rfl ?_; clear HS; intro w8 HS; replace HS := Bx.mk HS
    have HS : Bx (St w0 (rowA encI 1 3 (.slice ao9 ((r :: (less c.fOften r)).length) cp10) (r :: (less c.fOften r)) :: rowA encI 1 3 (.slice ao6 ((less c.fOften r).length) cp7) (less c.fOften r) :: rowA encI 1 3 (.slice ao3 ((less c.fOnce r).length) cp4) (less c.fOnce r) :: boxA b2 6 48 (.agg #[.int .i64 0, .int .i64 0, .slice none 0 0, .slice none 0 0, .slice none 0 0, .slice none 0 0]) :: boxA b1 6 48 (.agg #[.int .i64 c.fRoom, .int .i64 c.fGoal, .slice ao3 ((less c.fOnce r).length) cp4, .slice ao9 ((r :: (less c.fOften r)).length) cp10, .slice a4 c.fPast.length c4, .slice a5 c.fFormer.length c5]) :: rowA encI 1 3 (.slice a2 c.fOnce.length c2) c.fOnce :: rowA encI 1 3 (.slice a3 c.fOften.length c3) c.fOften :: rowA encI 1 3 (.slice a4 c.fPast.length c4) c.fPast :: rowA encI 1 3 (.slice a5 c.fFormer.length c5) c.fFormer :: F) _) := HS
    refine wpList_nil ?_
    refine ex_then ?_
    refine wp_seq ?_
    refine wp_region_lit ?_
    refine wl_y rfl HF rfl rfl (yl_loadR (cs := [.int .i64 c.fRoom, .int .i64 c.fGoal, .slice ao3 ((less c.fOnce r).length) cp4, .slice ao9 ((r :: (less c.fOften r)).length) cp10, .slice a4 c.fPast.length c4, .slice a5 c.fFormer.length c5]) rfl (HF.ev rfl) ((HS.out.box 4 rfl).sub 0 6) (by kernel_rfl)) ?_; clear HF; clear a; intro a HF
    refine wl_storeBox rfl HF rfl rfl (HF.ev rfl) (HF.ev rfl) HS.out 3 rfl (cells_lit [.int .i64 c.fRoom, .int .i64 c.fGoal, .slice ao3 ((less c.fOnce r).length) cp4, .slice ao9 ((r :: (less c.fOften r)).length) cp10, .slice a4 c.fPast.length c4, .slice a5 c.fFormer.length c5] rfl rfl) (by kernel_rfl) ?_; clear HS; intro w9 HS; replace HS := Bx.mk HS
    have HS : Bx (St w0 (rowA encI 1 3 (.slice ao9 ((r :: (less c.fOften r)).length) cp10) (r :: (less c.fOften r)) :: rowA encI 1 3 (.slice ao6 ((less c.fOften r).length) cp7) (less c.fOften r) :: rowA encI 1 3 (.slice ao3 ((less c.fOnce r).length) cp4) (less c.fOnce r) :: boxA b2 6 48 (.agg #[.int .i64 c.fRoom, .int .i64 c.fGoal, .slice ao3 ((less c.fOnce r).length) cp4, .slice ao9 ((r :: (less c.fOften r)).length) cp10, .slice a4 c.fPast.length c4, .slice a5 c.fFormer.length c5]) :: boxA b1 6 48 (.agg #[.int .i64 c.fRoom, .int .i64 c.fGoal, .slice ao3 ((less c.fOnce r).length) cp4, .slice ao9 ((r :: (less c.fOften r)).length) cp10, .slice a4 c.fPast.length c4, .slice a5 c.fFormer.length c5]) :: rowA encI 1 3 (.slice a2 c.fOnce.length c2) c.fOnce :: rowA encI 1 3 (.slice a3 c.fOften.length c3) c.fOften :: rowA encI 1 3 (.slice a4 c.fPast.length c4) c.fPast :: rowA encI 1 3 (.slice a5 c.fFormer.length c5) c.fFormer :: F) _) := HS
    refine wl_y rfl HF rfl rfl (yl_assign rfl (HF.ev rfl)) ?_; clear HF; clear a; intro a HF
    refine wpList_nil ?_
    refine ex_then ?_
    refine wp_ret ?_
    refine ex_block_ret ?_
    refine ex_then_ret ?_
    refine bp_ret2 HF Try.results60 (HF.resBox rfl (HS.out.box 3 rfl) (by kernel_rfl)) (HF.res rfl) ?_
    replace HS : Bx (St w0 (rowA encI 1 3 (.slice ao3 ((less c.fOnce r).length) cp4) (less c.fOnce r) :: rowA encI 1 3 (.slice ao9 ((r :: (less c.fOften r)).length) cp10) (r :: (less c.fOften r)) :: rowA encI 1 3 (.slice a4 c.fPast.length c4) c.fPast :: rowA encI 1 3 (.slice a5 c.fFormer.length c5) c.fFormer :: rowA encI 1 3 (.slice ao6 ((less c.fOften r).length) cp7) (less c.fOften r) :: boxA b2 6 48 (.agg #[.int .i64 c.fRoom, .int .i64 c.fGoal, .slice ao3 ((less c.fOnce r).length) cp4, .slice ao9 ((r :: (less c.fOften r)).length) cp10, .slice a4 c.fPast.length c4, .slice a5 c.fFormer.length c5]) :: boxA b1 6 48 (.agg #[.int .i64 c.fRoom, .int .i64 c.fGoal, .slice ao3 ((less c.fOnce r).length) cp4, .slice ao9 ((r :: (less c.fOften r)).length) cp10, .slice a4 c.fPast.length c4, .slice a5 c.fFormer.length c5]) :: rowA encI 1 3 (.slice a2 c.fOnce.length c2) c.fOnce :: rowA encI 1 3 (.slice a3 c.fOften.length c3) c.fOften :: F) _) := ⟨((((HS.out).pick 8 rfl).pick 8 rfl).pick 2 rfl).pick 4 rfl⟩
    have HT := (((((HS.out.erase 8).erase 7).erase 6).erase 5).erase 4)
    have ha : c.ask r = ({ c with fOnce := less c.fOnce r, fOften := r :: less c.fOften r }, true) := by simp only [CacheD.ask, q2, Bool.true_or, Bool.false_or, Bool.or_true, Bool.or_self, if_true, Bool.false_eq_true, if_false]
    rw [ha]; exact ⟨_, rfl, _, _, _, _, _, _, _, _, rfl, HT⟩
  · clear HF; have HF := HF1; clear HF1
    have q2 := cc1
    refine wl_yg HF rfl rfl rfl rfl rfl (yl_fieldAddr (j := 3) rfl (HF.ev rfl) (by kernel_rfl)) ?_; clear HF; clear a; intro a HF
    refine wl_yg HF rfl rfl rfl rfl rfl (yl_load (v := .slice a3 c.fOften.length c3) rfl (HF.ev rfl) (((HS.out.box 1 rfl).cell 3).trans rfl) (by kernel_rfl)) ?_; clear HF; clear a; intro a HF
    refine wl_yg HF rfl rfl rfl rfl rfl (yl_move rfl (HF.ev rfl)) ?_; clear HF; clear a; intro a HF
    refine wl_callBg HF rfl rfl rfl rfl (enter_of Try.func103 (by kernel_rfl) rfl) (args := #[.slice a3 c.fOften.length c3, .int .i64 r]) rfl (v := .bool (inI c.fOften r)) (l5InI_any _ _ _ c.fOften r _ (by first | omega | (simp; omega)) (St.rdOf HS.out encI_len 3 rfl)) rfl rfl HS.out ?_; clear HF HS; clear a; intro w10 a HS HF; replace HS := Bx.mk HS
    refine wl_y rfl HF rfl rfl (yl_pick_f rfl (HF.ev rfl) (HF.ev rfl)) ?_; clear HF; clear a; intro a HF
    refine wl_y rfl HF rfl rfl (yl_assign rfl (HF.ev rfl)) ?_; clear HF; clear a; intro a HF
    refine wpList_nil ?_
    refine ex_then ?_
    refine HF.cases 6 rfl (fun cc2 HF1 => ?_) (fun cc2 HF1 => ?_)
    · clear HF; have HF := HF1; clear HF1
      have q3 := cc2
      have hps := inI_pos q3
      refine wc_true HF rfl ?_
      refine wp_seq ?_
      refine wp_region_lit ?_
      refine wl_y rfl HF rfl rfl (yl_fieldAddr (j := 2) rfl (HF.ev rfl) (by kernel_rfl)) ?_; clear HF; clear a; intro a HF
      refine wl_y rfl HF rfl rfl (yl_load (v := .slice a2 c.fOnce.length c2) rfl (HF.ev rfl) (((HS.out.box 1 rfl).cell 2).trans rfl) (by kernel_rfl)) ?_; clear HF; clear a; intro a HF
      refine wl_y rfl HF rfl rfl (yl_move rfl (HF.ev rfl)) ?_; clear HF; clear a; intro a HF
      refine wl_call rfl HF rfl (enter_of Try.func104 (by kernel_rfl) rfl) (args := #[.slice a2 c.fOnce.length c2, .int .i64 r]) rfl (l27Less_any _ _ c.fOnce r _ (by first | omega | (simp; omega)) (St.rdOf HS.out encI_len 2 rfl)) rfl rfl ?_
      rintro _ w11 ⟨ao12, cp13, rfl, hn⟩
      refine ⟨_, rfl, ?_⟩; replace HS := Bx.mk (HS.out.add hn); clear hn HF; clear a; intro a HF
      replace HS : Bx (St w0 (rowA encI 1 3 (.slice ao12 ((less c.fOnce r).length) cp13) (less c.fOnce r) :: boxA b2 6 48 (.agg #[.int .i64 0, .int .i64 0, .slice none 0 0, .slice none 0 0, .slice none 0 0, .slice none 0 0]) :: boxA b1 6 48 (.agg #[.int .i64 c.fRoom, .int .i64 c.fGoal, .slice a2 c.fOnce.length c2, .slice a3 c.fOften.length c3, .slice a4 c.fPast.length c4, .slice a5 c.fFormer.length c5]) :: rowA encI 1 3 (.slice a2 c.fOnce.length c2) c.fOnce :: rowA encI 1 3 (.slice a3 c.fOften.length c3) c.fOften :: rowA encI 1 3 (.slice a4 c.fPast.length c4) c.fPast :: rowA encI 1 3 (.slice a5 c.fFormer.length c5) c.fFormer :: F) _) := ⟨HS.out⟩
      refine wl_y rfl HF rfl rfl (yl_fieldAddr (j := 2) rfl (HF.ev rfl) (by kernel_rfl)) ?_; clear HF; clear a; intro a HF
      refine wl_storeF rfl rfl rfl (HF.ev rfl) (HF.ev rfl) (by kernel_rfl) HS.out 2 rfl rfl rfl ?_; clear HS; intro w12 HS; replace HS := Bx.mk HS
      have HS : Bx (St w0 (rowA encI 1 3 (.slice ao12 ((less c.fOnce r).length) cp13) (less c.fOnce r) :: boxA b2 6 48 (.agg #[.int .i64 0, .int .i64 0, .slice none 0 0, .slice none 0 0, .slice none 0 0, .slice none 0 0]) :: boxA b1 6 48 (.agg #[.int .i64 c.fRoom, .int .i64 c.fGoal, .slice ao12 ((less c.fOnce r).length) cp13, .slice a3 c.fOften.length c3, .slice a4 c.fPast.length c4, .slice a5 c.fFormer.length c5]) :: rowA encI 1 3 (.slice a2 c.fOnce.length c2) c.fOnce :: rowA encI 1 3 (.slice a3 c.fOften.length c3) c.fOften :: rowA encI 1 3 (.slice a4 c.fPast.length c4) c.fPast :: rowA encI 1 3 (.slice a5 c.fFormer.length c5) c.fFormer :: F) _) := HS
      refine wpList_nil ?_
      refine ex_then ?_
      refine wp_seq ?_
      refine wp_region_lit ?_
      refine wl_y rfl HF rfl rfl (yl_fieldAddr (j := 3) rfl (HF.ev rfl) (by kernel_rfl)) ?_; clear HF; clear a; intro a HF
      refine wl_y rfl HF rfl rfl (yl_load (v := .slice a3 c.fOften.length c3) rfl (HF.ev rfl) (((HS.out.box 2 rfl).cell 3).trans rfl) (by kernel_rfl)) ?_; clear HF; clear a; intro a HF
      refine wl_y rfl HF rfl rfl (yl_move rfl (HF.ev rfl)) ?_; clear HF; clear a; intro a HF
      refine wl_call rfl HF rfl (enter_of Try.func104 (by kernel_rfl) rfl) (args := #[.slice a3 c.fOften.length c3, .int .i64 r]) rfl (l27Less_any _ _ c.fOften r _ (by first | omega | (simp; omega)) (St.rdOf HS.out encI_len 4 rfl)) rfl rfl ?_
      rintro _ w13 ⟨ao15, cp16, rfl, hn⟩
      refine ⟨_, rfl, ?_⟩; replace HS := Bx.mk (HS.out.add hn); clear hn HF; clear a; intro a HF
      replace HS : Bx (St w0 (rowA encI 1 3 (.slice ao15 ((less c.fOften r).length) cp16) (less c.fOften r) :: rowA encI 1 3 (.slice ao12 ((less c.fOnce r).length) cp13) (less c.fOnce r) :: boxA b2 6 48 (.agg #[.int .i64 0, .int .i64 0, .slice none 0 0, .slice none 0 0, .slice none 0 0, .slice none 0 0]) :: boxA b1 6 48 (.agg #[.int .i64 c.fRoom, .int .i64 c.fGoal, .slice ao12 ((less c.fOnce r).length) cp13, .slice a3 c.fOften.length c3, .slice a4 c.fPast.length c4, .slice a5 c.fFormer.length c5]) :: rowA encI 1 3 (.slice a2 c.fOnce.length c2) c.fOnce :: rowA encI 1 3 (.slice a3 c.fOften.length c3) c.fOften :: rowA encI 1 3 (.slice a4 c.fPast.length c4) c.fPast :: rowA encI 1 3 (.slice a5 c.fFormer.length c5) c.fFormer :: F) _) := ⟨HS.out⟩
      refine wl_y rfl HF rfl rfl (yl_move rfl (HF.ev rfl)) ?_; clear HF; clear a; intro a HF
      have hln := less_len c.fOften r
      refine wl_call rfl HF rfl (enter_of Try.func105 (by kernel_rfl) rfl) (args := #[.slice ao15 ((less c.fOften r).length) cp16, .int .i64 r]) rfl (l27Front_any _ _ (less c.fOften r) r _ (by first | omega | (simp; omega)) (St.rdOf HS.out encI_len 0 rfl)) rfl rfl ?_
      rintro _ w14 ⟨ao18, cp19, rfl, hn⟩
      refine ⟨_, rfl, ?_⟩; replace HS := Bx.mk (HS.out.add hn); clear hn HF; clear a; intro a HF
      replace HS : Bx (St w0 (rowA encI 1 3 (.slice ao18 ((r :: (less c.fOften r)).length) cp19) (r :: (less c.fOften r)) :: rowA encI 1 3 (.slice ao15 ((less c.fOften r).length) cp16) (less c.fOften r) :: rowA encI 1 3 (.slice ao12 ((less c.fOnce r).length) cp13) (less c.fOnce r) :: boxA b2 6 48 (.agg #[.int .i64 0, .int .i64 0, .slice none 0 0, .slice none 0 0, .slice none 0 0, .slice none 0 0]) :: boxA b1 6 48 (.agg #[.int .i64 c.fRoom, .int .i64 c.fGoal, .slice ao12 ((less c.fOnce r).length) cp13, .slice a3 c.fOften.length c3, .slice a4 c.fPast.length c4, .slice a5 c.fFormer.length c5]) :: rowA encI 1 3 (.slice a2 c.fOnce.length c2) c.fOnce :: rowA encI 1 3 (.slice a3 c.fOften.length c3) c.fOften :: rowA encI 1 3 (.slice a4 c.fPast.length c4) c.fPast :: rowA encI 1 3 (.slice a5 c.fFormer.length c5) c.fFormer :: F) _) := ⟨HS.out⟩
      refine wl_y rfl HF rfl rfl (yl_fieldAddr (j := 3) rfl (HF.ev rfl) (by kernel_rfl)) ?_; clear HF; clear a; intro a HF
      refine wl_storeF rfl rfl rfl (HF.ev rfl) (HF.ev rfl) (by kernel_rfl) HS.out 4 rfl rfl rfl ?_; clear HS; intro w15 HS; replace HS := Bx.mk HS
      have HS : Bx (St w0 (rowA encI 1 3 (.slice ao18 ((r :: (less c.fOften r)).length) cp19) (r :: (less c.fOften r)) :: rowA encI 1 3 (.slice ao15 ((less c.fOften r).length) cp16) (less c.fOften r) :: rowA encI 1 3 (.slice ao12 ((less c.fOnce r).length) cp13) (less c.fOnce r) :: boxA b2 6 48 (.agg #[.int .i64 0, .int .i64 0, .slice none 0 0, .slice none 0 0, .slice none 0 0, .slice none 0 0]) :: boxA b1 6 48 (.agg #[.int .i64 c.fRoom, .int .i64 c.fGoal, .slice ao12 ((less c.fOnce r).length) cp13, .slice ao18 ((r :: (less c.fOften r)).length) cp19, .slice a4 c.fPast.length c4, .slice a5 c.fFormer.length c5]) :: rowA encI 1 3 (.slice a2 c.fOnce.length c2) c.fOnce :: rowA encI 1 3 (.slice a3 c.fOften.length c3) c.fOften :: rowA encI 1 3 (.slice a4 c.fPast.length c4) c.fPast :: rowA encI 1 3 (.slice a5 c.fFormer.length c5) c.fFormer :: F) _) := HS
      refine wpList_nil ?_
      refine ex_then ?_
      refine wp_seq ?_
      refine wp_region_lit ?_
      refine wl_y rfl HF rfl rfl (yl_loadR (cs := [.int .i64 c.fRoom, .int .i64 c.fGoal, .slice ao12 ((less c.fOnce r).length) cp13, .slice ao18 ((r :: (less c.fOften r)).length) cp19, .slice a4 c.fPast.length c4, .slice a5 c.fFormer.length c5]) rfl (HF.ev rfl) ((HS.out.box 4 rfl).sub 0 6) (by kernel_rfl)) ?_; clear HF; clear a; intro a HF
      refine wl_storeBox rfl HF rfl rfl (HF.ev rfl) (HF.ev rfl) HS.out 3 rfl (cells_lit [.int .i64 c.fRoom, .int .i64 c.fGoal, .slice ao12 ((less c.fOnce r).length) cp13, .slice ao18 ((r :: (less c.fOften r)).length) cp19, .slice a4 c.fPast.length c4, .slice a5 c.fFormer.length c5] rfl rfl) (by kernel_rfl) ?_; clear HS; intro w16 HS; replace HS := Bx.mk HS
      have HS : Bx (St w0 (rowA encI 1 3 (.slice ao18 ((r :: (less c.fOften r)).length) cp19) (r :: (less c.fOften r)) :: rowA encI 1 3 (.slice ao15 ((less c.fOften r).length) cp16) (less c.fOften r) :: rowA encI 1 3 (.slice ao12 ((less c.fOnce r).length) cp13) (less c.fOnce r) :: boxA b2 6 48 (.agg #[.int .i64 c.fRoom, .int .i64 c.fGoal, .slice ao12 ((less c.fOnce r).length) cp13, .slice ao18 ((r :: (less c.fOften r)).length) cp19, .slice a4 c.fPast.length c4, .slice a5 c.fFormer.length c5]) :: boxA b1 6 48 (.agg #[.int .i64 c.fRoom, .int .i64 c.fGoal, .slice ao12 ((less c.fOnce r).length) cp13, .slice ao18 ((r :: (less c.fOften r)).length) cp19, .slice a4 c.fPast.length c4, .slice a5 c.fFormer.length c5]) :: rowA encI 1 3 (.slice a2 c.fOnce.length c2) c.fOnce :: rowA encI 1 3 (.slice a3 c.fOften.length c3) c.fOften :: rowA encI 1 3 (.slice a4 c.fPast.length c4) c.fPast :: rowA encI 1 3 (.slice a5 c.fFormer.length c5) c.fFormer :: F) _) := HS
      refine wl_y rfl HF rfl rfl (yl_assign rfl (HF.ev rfl)) ?_; clear HF; clear a; intro a HF
      refine wpList_nil ?_
      refine ex_then ?_
      refine wp_ret ?_
      refine ex_block_ret ?_
      refine ex_then_ret ?_
      refine bp_ret2 HF Try.results60 (HF.resBox rfl (HS.out.box 3 rfl) (by kernel_rfl)) (HF.res rfl) ?_
      replace HS : Bx (St w0 (rowA encI 1 3 (.slice ao12 ((less c.fOnce r).length) cp13) (less c.fOnce r) :: rowA encI 1 3 (.slice ao18 ((r :: (less c.fOften r)).length) cp19) (r :: (less c.fOften r)) :: rowA encI 1 3 (.slice a4 c.fPast.length c4) c.fPast :: rowA encI 1 3 (.slice a5 c.fFormer.length c5) c.fFormer :: rowA encI 1 3 (.slice ao15 ((less c.fOften r).length) cp16) (less c.fOften r) :: boxA b2 6 48 (.agg #[.int .i64 c.fRoom, .int .i64 c.fGoal, .slice ao12 ((less c.fOnce r).length) cp13, .slice ao18 ((r :: (less c.fOften r)).length) cp19, .slice a4 c.fPast.length c4, .slice a5 c.fFormer.length c5]) :: boxA b1 6 48 (.agg #[.int .i64 c.fRoom, .int .i64 c.fGoal, .slice ao12 ((less c.fOnce r).length) cp13, .slice ao18 ((r :: (less c.fOften r)).length) cp19, .slice a4 c.fPast.length c4, .slice a5 c.fFormer.length c5]) :: rowA encI 1 3 (.slice a2 c.fOnce.length c2) c.fOnce :: rowA encI 1 3 (.slice a3 c.fOften.length c3) c.fOften :: F) _) := ⟨((((HS.out).pick 8 rfl).pick 8 rfl).pick 2 rfl).pick 4 rfl⟩
      have HT := (((((HS.out.erase 8).erase 7).erase 6).erase 5).erase 4)
      have ha : c.ask r = ({ c with fOnce := less c.fOnce r, fOften := r :: less c.fOften r }, true) := by simp only [CacheD.ask, q2, q3, Bool.true_or, Bool.false_or, Bool.or_true, Bool.or_self, if_true, Bool.false_eq_true, if_false]
      rw [ha]; exact ⟨_, rfl, _, _, _, _, _, _, _, _, rfl, HT⟩
    · clear HF; have HF := HF1; clear HF1
      have q3 := cc2
      refine wc_false HF rfl ?_
      refine wp_seq ?_
      refine wp_region_lit ?_
      refine wl_y rfl HF rfl rfl (yl_fieldAddr (j := 4) rfl (HF.ev rfl) (by kernel_rfl)) ?_; clear HF; clear a; intro a HF
      refine wl_y rfl HF rfl rfl (yl_load (v := .slice a4 c.fPast.length c4) rfl (HF.ev rfl) (((HS.out.box 1 rfl).cell 4).trans rfl) (by kernel_rfl)) ?_; clear HF; clear a; intro a HF
      refine wl_y rfl HF rfl rfl (yl_move rfl (HF.ev rfl)) ?_; clear HF; clear a; intro a HF
      refine wl_callB rfl HF rfl (enter_of Try.func103 (by kernel_rfl) rfl) (args := #[.slice a4 c.fPast.length c4, .int .i64 r]) rfl (v := .bool (inI c.fPast r)) (l5InI_any _ _ _ c.fPast r _ (by first | omega | (simp; omega)) (St.rdOf HS.out encI_len 4 rfl)) rfl rfl HS.out ?_; clear HF HS; clear a; intro w17 a HS HF; replace HS := Bx.mk HS
      refine wl_y rfl HF rfl rfl (yl_assign rfl (HF.ev rfl)) ?_; clear HF; clear a; intro a HF
      refine wpList_nil ?_
      refine ex_then ?_
      refine HF.cases 30 rfl (fun cc3 HF1 => ?_) (fun cc3 HF1 => ?_)
      · clear HF; have HF := HF1; clear HF1
        have q4 := cc3
        have hps := inI_pos q4
        refine wc_true HF rfl ?_
        refine wp_seq ?_
        have hdv := div_le c.fFormer.length c.fPast.length
        refine wr_tail 15 (by kernel_rfl) (by kernel_rfl) HS.out ?_
        simp only [List.take_succ_cons, List.take_zero, List.drop_succ_cons, List.drop_zero]
        intro w18 HS
        replace HS := Bx.mk HS
        refine ws_y rfl HF rfl rfl (yl_fieldAddr (j := 0) rfl (HF.ev rfl) (by kernel_rfl)) ?_; clear HF; clear a; intro a HF
        refine ws_y rfl HF rfl rfl (yl_load (v := .int .i64 c.fRoom) rfl (HF.ev rfl) (((HS.out.box 1 rfl).cell 0).trans rfl) (by kernel_rfl)) ?_; clear HF; clear a; intro a HF
        refine ws_y rfl HF rfl rfl (yl_fieldAddr (j := 1) rfl (HF.ev rfl) (by kernel_rfl)) ?_; clear HF; clear a; intro a HF
        refine ws_y rfl HF rfl rfl (yl_load (v := .int .i64 c.fGoal) rfl (HF.ev rfl) (((HS.out.box 1 rfl).cell 1).trans rfl) (by kernel_rfl)) ?_; clear HF; clear a; intro a HF
        refine ws_y rfl HF rfl rfl (yl_fieldAddr (j := 5) rfl (HF.ev rfl) (by kernel_rfl)) ?_; clear HF; clear a; intro a HF
        refine ws_y rfl HF rfl rfl (yl_load (v := .slice a5 c.fFormer.length c5) rfl (HF.ev rfl) (((HS.out.box 1 rfl).cell 5).trans rfl) (by kernel_rfl)) ?_; clear HF; clear a; intro a HF
        refine ws_y rfl HF rfl rfl (yl_lenL (e := 3) (size := 1) rfl (HF.ev rfl) (by kernel_rfl)) ?_; clear HF; clear a; intro a HF
        refine ws_y rfl HF rfl rfl (yl_fieldAddr (j := 4) rfl (HF.ev rfl) (by kernel_rfl)) ?_; clear HF; clear a; intro a HF
        refine ws_y rfl HF rfl rfl (yl_load (v := .slice a4 c.fPast.length c4) rfl (HF.ev rfl) (((HS.out.box 1 rfl).cell 4).trans rfl) (by kernel_rfl)) ?_; clear HF; clear a; intro a HF
        refine ws_y rfl HF rfl rfl (yl_lenL (e := 3) (size := 1) rfl (HF.ev rfl) (by kernel_rfl)) ?_; clear HF; clear a; intro a HF
        refine ws_y rfl HF rfl rfl (yl_quoI rfl (HF.ev rfl) (HF.ev rfl) (by omega) (quo_pos (by omega) (by omega) (by omega))) ?_; clear HF; clear a; intro a HF
        refine ws_y rfl HF rfl rfl (yl_maxI rfl (HF.ev rfl) (HF.ev rfl)) ?_; clear HF; clear a; intro a HF
        refine ws_y rfl HF rfl rfl (yl_addI rfl (HF.ev rfl) (HF.ev rfl) (i64w (by omega))) ?_; clear HF; clear a; intro a HF
        refine ws_y rfl HF rfl rfl (yl_minI rfl (HF.ev rfl) (HF.ev rfl)) ?_; clear HF; clear a; intro a HF
        refine ws_y rfl HF rfl rfl (yl_fieldAddr (j := 1) rfl (HF.ev rfl) (by kernel_rfl)) ?_; clear HF; clear a; intro a HF
        refine wpStill_nil ?_
        refine wl_storeF rfl rfl rfl (HF.ev rfl) (HF.ev rfl) (by kernel_rfl) HS.out 1 rfl rfl rfl ?_; clear HS; intro w19 HS; replace HS := Bx.mk HS
        have HS : Bx (St w0 (boxA b2 6 48 (.agg #[.int .i64 0, .int .i64 0, .slice none 0 0, .slice none 0 0, .slice none 0 0, .slice none 0 0]) :: boxA b1 6 48 (.agg #[.int .i64 c.fRoom, .int .i64 (min c.fRoom (c.fGoal + (max (1 : Int) ((c.fFormer.length : Int) / (c.fPast.length : Int))))), .slice a2 c.fOnce.length c2, .slice a3 c.fOften.length c3, .slice a4 c.fPast.length c4, .slice a5 c.fFormer.length c5]) :: rowA encI 1 3 (.slice a2 c.fOnce.length c2) c.fOnce :: rowA encI 1 3 (.slice a3 c.fOften.length c3) c.fOften :: rowA encI 1 3 (.slice a4 c.fPast.length c4) c.fPast :: rowA encI 1 3 (.slice a5 c.fFormer.length c5) c.fFormer :: F) _) := HS
        refine wpList_nil ?_
        refine ex_then ?_
        refine wp_seq ?_
        refine wp_region_lit ?_
        refine wl_y rfl HF rfl rfl (yl_loadR (cs := [.int .i64 c.fRoom, .int .i64 (min c.fRoom (c.fGoal + (max (1 : Int) ((c.fFormer.length : Int) / (c.fPast.length : Int))))), .slice a2 c.fOnce.length c2, .slice a3 c.fOften.length c3, .slice a4 c.fPast.length c4, .slice a5 c.fFormer.length c5]) rfl (HF.ev rfl) ((HS.out.box 1 rfl).sub 0 6) (by kernel_rfl)) ?_; clear HF; clear a; intro a HF
        replace HS : Bx (St w0 (rowA encI 1 3 (.slice a2 c.fOnce.length c2) c.fOnce :: rowA encI 1 3 (.slice a3 c.fOften.length c3) c.fOften :: rowA encI 1 3 (.slice a4 c.fPast.length c4) c.fPast :: rowA encI 1 3 (.slice a5 c.fFormer.length c5) c.fFormer :: boxA b2 6 48 (.agg #[.int .i64 0, .int .i64 0, .slice none 0 0, .slice none 0 0, .slice none 0 0, .slice none 0 0]) :: boxA b1 6 48 (.agg #[.int .i64 c.fRoom, .int .i64 (min c.fRoom (c.fGoal + (max (1 : Int) ((c.fFormer.length : Int) / (c.fPast.length : Int))))), .slice a2 c.fOnce.length c2, .slice a3 c.fOften.length c3, .slice a4 c.fPast.length c4, .slice a5 c.fFormer.length c5]) :: F) _) := ⟨((((HS.out).pick 5 rfl).pick 5 rfl).pick 5 rfl).pick 5 rfl⟩
        refine wl_call rfl HF rfl (enter_of Try.func106 (by kernel_rfl) rfl) (args := #[.agg #[.int .i64 c.fRoom, .int .i64 (min c.fRoom (c.fGoal + (max (1 : Int) ((c.fFormer.length : Int) / (c.fPast.length : Int))))), .slice a2 c.fOnce.length c2, .slice a3 c.fOften.length c3, .slice a4 c.fPast.length c4, .slice a5 c.fFormer.length c5], .bool false]) rfl (l27Way_any w0 _ _ _ _ _ _ _ _ _ ({ c with fGoal := c.up }) false _ (by first | omega | (simp; omega)) (by first | omega | (simp; omega)) (by first | omega | (simp; omega)) (by first | omega | (simp; omega)) (by first | omega | (simp; omega)) HS.out) rfl rfl ?_
        rintro _ w20 ⟨_, rfl, hv⟩
        have hdl := way_le ({ c with fGoal := c.up }) false; have hdm := way_le2 ({ c with fGoal := c.up }) false
        obtain ⟨d, hd⟩ : ∃ d : CacheD, d = CacheD.wayC ({ c with fGoal := c.up }) false := ⟨_, rfl⟩; rw [← hd] at hv hdl hdm; obtain ⟨d2, f2, d3, f3, d4, f4, d5, f5, rfl, hs1⟩ := hv
        have hd2 : d.fOnce.length ≤ 100 := Nat.le_trans hdl.1 (by first | omega | (simp; omega)); have hd3 : d.fOften.length ≤ 100 := Nat.le_trans hdl.2 (by first | omega | (simp; omega)); have hd4 : d.fPast.length ≤ 100 := Nat.le_trans hdm.1 (by first | omega | (simp; omega)); have hd5 : d.fFormer.length ≤ 100 := Nat.le_trans hdm.2 (by first | omega | (simp; omega)); clear hdl hdm
        refine ⟨_, rfl, ?_⟩; replace HS := Bx.mk hs1; clear hs1 HF; clear a; intro a HF
        replace HS : Bx (St w0 (rowA encI 1 3 (.slice d2 d.fOnce.length f2) d.fOnce :: rowA encI 1 3 (.slice d3 d.fOften.length f3) d.fOften :: rowA encI 1 3 (.slice d4 d.fPast.length f4) d.fPast :: rowA encI 1 3 (.slice d5 d.fFormer.length f5) d.fFormer :: boxA b2 6 48 (.agg #[.int .i64 0, .int .i64 0, .slice none 0 0, .slice none 0 0, .slice none 0 0, .slice none 0 0]) :: boxA b1 6 48 (.agg #[.int .i64 c.fRoom, .int .i64 (min c.fRoom (c.fGoal + (max (1 : Int) ((c.fFormer.length : Int) / (c.fPast.length : Int))))), .slice a2 c.fOnce.length c2, .slice a3 c.fOften.length c3, .slice a4 c.fPast.length c4, .slice a5 c.fFormer.length c5]) :: F) _) := ⟨HS.out⟩
        refine wl_storeBox rfl HF rfl rfl (HF.ev rfl) (HF.ev rfl) HS.out 5 rfl (cells_lit [.int .i64 d.fRoom, .int .i64 d.fGoal, .slice d2 d.fOnce.length f2, .slice d3 d.fOften.length f3, .slice d4 d.fPast.length f4, .slice d5 d.fFormer.length f5] rfl rfl) (by kernel_rfl) ?_; clear HS; intro w21 HS; replace HS := Bx.mk HS
        have HS : Bx (St w0 (rowA encI 1 3 (.slice d2 d.fOnce.length f2) d.fOnce :: rowA encI 1 3 (.slice d3 d.fOften.length f3) d.fOften :: rowA encI 1 3 (.slice d4 d.fPast.length f4) d.fPast :: rowA encI 1 3 (.slice d5 d.fFormer.length f5) d.fFormer :: boxA b2 6 48 (.agg #[.int .i64 0, .int .i64 0, .slice none 0 0, .slice none 0 0, .slice none 0 0, .slice none 0 0]) :: boxA b1 6 48 (.agg #[.int .i64 d.fRoom, .int .i64 d.fGoal, .slice d2 d.fOnce.length f2, .slice d3 d.fOften.length f3, .slice d4 d.fPast.length f4, .slice d5 d.fFormer.length f5]) :: F) _) := HS
        refine wpList_nil ?_
        refine ex_then ?_
        refine wp_seq ?_
        refine wp_region_lit ?_
        refine wl_y rfl HF rfl rfl (yl_fieldAddr (j := 4) rfl (HF.ev rfl) (by kernel_rfl)) ?_; clear HF; clear a; intro a HF
        refine wl_y rfl HF rfl rfl (yl_load (v := .slice d4 d.fPast.length f4) rfl (HF.ev rfl) (((HS.out.box 5 rfl).cell 4).trans rfl) (by kernel_rfl)) ?_; clear HF; clear a; intro a HF
        refine wl_y rfl HF rfl rfl (yl_move rfl (HF.ev rfl)) ?_; clear HF; clear a; intro a HF
        refine wl_call rfl HF rfl (enter_of Try.func104 (by kernel_rfl) rfl) (args := #[.slice d4 d.fPast.length f4, .int .i64 r]) rfl (l27Less_any _ _ d.fPast r _ (by first | omega | (simp; omega)) (St.rdOf HS.out encI_len 2 rfl)) rfl rfl ?_
        rintro _ w22 ⟨ao21, cp22, rfl, hn⟩
        refine ⟨_, rfl, ?_⟩; replace HS := Bx.mk (HS.out.add hn); clear hn HF; clear a; intro a HF
        replace HS : Bx (St w0 (rowA encI 1 3 (.slice ao21 ((less d.fPast r).length) cp22) (less d.fPast r) :: rowA encI 1 3 (.slice d2 d.fOnce.length f2) d.fOnce :: rowA encI 1 3 (.slice d3 d.fOften.length f3) d.fOften :: rowA encI 1 3 (.slice d4 d.fPast.length f4) d.fPast :: rowA encI 1 3 (.slice d5 d.fFormer.length f5) d.fFormer :: boxA b2 6 48 (.agg #[.int .i64 0, .int .i64 0, .slice none 0 0, .slice none 0 0, .slice none 0 0, .slice none 0 0]) :: boxA b1 6 48 (.agg #[.int .i64 d.fRoom, .int .i64 d.fGoal, .slice d2 d.fOnce.length f2, .slice d3 d.fOften.length f3, .slice d4 d.fPast.length f4, .slice d5 d.fFormer.length f5]) :: F) _) := ⟨HS.out⟩
        refine wl_y rfl HF rfl rfl (yl_fieldAddr (j := 4) rfl (HF.ev rfl) (by kernel_rfl)) ?_; clear HF; clear a; intro a HF
        refine wl_storeF rfl rfl rfl (HF.ev rfl) (HF.ev rfl) (by kernel_rfl) HS.out 6 rfl rfl rfl ?_; clear HS; intro w23 HS; replace HS := Bx.mk HS
        have HS : Bx (St w0 (rowA encI 1 3 (.slice ao21 ((less d.fPast r).length) cp22) (less d.fPast r) :: rowA encI 1 3 (.slice d2 d.fOnce.length f2) d.fOnce :: rowA encI 1 3 (.slice d3 d.fOften.length f3) d.fOften :: rowA encI 1 3 (.slice d4 d.fPast.length f4) d.fPast :: rowA encI 1 3 (.slice d5 d.fFormer.length f5) d.fFormer :: boxA b2 6 48 (.agg #[.int .i64 0, .int .i64 0, .slice none 0 0, .slice none 0 0, .slice none 0 0, .slice none 0 0]) :: boxA b1 6 48 (.agg #[.int .i64 d.fRoom, .int .i64 d.fGoal, .slice d2 d.fOnce.length f2, .slice d3 d.fOften.length f3, .slice ao21 ((less d.fPast r).length) cp22, .slice d5 d.fFormer.length f5]) :: F) _) := HS
        refine wpList_nil ?_
        refine ex_then ?_
        refine wp_seq ?_
        refine wp_region_lit ?_
        refine wl_y rfl HF rfl rfl (yl_fieldAddr (j := 3) rfl (HF.ev rfl) (by kernel_rfl)) ?_; clear HF; clear a; intro a HF
        refine wl_y rfl HF rfl rfl (yl_load (v := .slice d3 d.fOften.length f3) rfl (HF.ev rfl) (((HS.out.box 6 rfl).cell 3).trans rfl) (by kernel_rfl)) ?_; clear HF; clear a; intro a HF
        refine wl_y rfl HF rfl rfl (yl_move rfl (HF.ev rfl)) ?_; clear HF; clear a; intro a HF
        refine wl_call rfl HF rfl (enter_of Try.func105 (by kernel_rfl) rfl) (args := #[.slice d3 d.fOften.length f3, .int .i64 r]) rfl (l27Front_any _ _ d.fOften r _ (by first | omega | (simp; omega)) (St.rdOf HS.out encI_len 2 rfl)) rfl rfl ?_
        rintro _ w24 ⟨ao24, cp25, rfl, hn⟩
        refine ⟨_, rfl, ?_⟩; replace HS := Bx.mk (HS.out.add hn); clear hn HF; clear a; intro a HF
        replace HS : Bx (St w0 (rowA encI 1 3 (.slice ao24 ((r :: d.fOften).length) cp25) (r :: d.fOften) :: rowA encI 1 3 (.slice ao21 ((less d.fPast r).length) cp22) (less d.fPast r) :: rowA encI 1 3 (.slice d2 d.fOnce.length f2) d.fOnce :: rowA encI 1 3 (.slice d3 d.fOften.length f3) d.fOften :: rowA encI 1 3 (.slice d4 d.fPast.length f4) d.fPast :: rowA encI 1 3 (.slice d5 d.fFormer.length f5) d.fFormer :: boxA b2 6 48 (.agg #[.int .i64 0, .int .i64 0, .slice none 0 0, .slice none 0 0, .slice none 0 0, .slice none 0 0]) :: boxA b1 6 48 (.agg #[.int .i64 d.fRoom, .int .i64 d.fGoal, .slice d2 d.fOnce.length f2, .slice d3 d.fOften.length f3, .slice ao21 ((less d.fPast r).length) cp22, .slice d5 d.fFormer.length f5]) :: F) _) := ⟨HS.out⟩
        refine wl_y rfl HF rfl rfl (yl_fieldAddr (j := 3) rfl (HF.ev rfl) (by kernel_rfl)) ?_; clear HF; clear a; intro a HF
        refine wl_storeF rfl rfl rfl (HF.ev rfl) (HF.ev rfl) (by kernel_rfl) HS.out 7 rfl rfl rfl ?_; clear HS; intro w25 HS; replace HS := Bx.mk HS
        have HS : Bx (St w0 (rowA encI 1 3 (.slice ao24 ((r :: d.fOften).length) cp25) (r :: d.fOften) :: rowA encI 1 3 (.slice ao21 ((less d.fPast r).length) cp22) (less d.fPast r) :: rowA encI 1 3 (.slice d2 d.fOnce.length f2) d.fOnce :: rowA encI 1 3 (.slice d3 d.fOften.length f3) d.fOften :: rowA encI 1 3 (.slice d4 d.fPast.length f4) d.fPast :: rowA encI 1 3 (.slice d5 d.fFormer.length f5) d.fFormer :: boxA b2 6 48 (.agg #[.int .i64 0, .int .i64 0, .slice none 0 0, .slice none 0 0, .slice none 0 0, .slice none 0 0]) :: boxA b1 6 48 (.agg #[.int .i64 d.fRoom, .int .i64 d.fGoal, .slice d2 d.fOnce.length f2, .slice ao24 ((r :: d.fOften).length) cp25, .slice ao21 ((less d.fPast r).length) cp22, .slice d5 d.fFormer.length f5]) :: F) _) := HS
        refine wpList_nil ?_
        refine ex_then ?_
        refine wp_seq ?_
        refine wp_region_lit ?_
        refine wl_y rfl HF rfl rfl (yl_loadR (cs := [.int .i64 d.fRoom, .int .i64 d.fGoal, .slice d2 d.fOnce.length f2, .slice ao24 ((r :: d.fOften).length) cp25, .slice ao21 ((less d.fPast r).length) cp22, .slice d5 d.fFormer.length f5]) rfl (HF.ev rfl) ((HS.out.box 7 rfl).sub 0 6) (by kernel_rfl)) ?_; clear HF; clear a; intro a HF
        refine wl_storeBox rfl HF rfl rfl (HF.ev rfl) (HF.ev rfl) HS.out 6 rfl (cells_lit [.int .i64 d.fRoom, .int .i64 d.fGoal, .slice d2 d.fOnce.length f2, .slice ao24 ((r :: d.fOften).length) cp25, .slice ao21 ((less d.fPast r).length) cp22, .slice d5 d.fFormer.length f5] rfl rfl) (by kernel_rfl) ?_; clear HS; intro w26 HS; replace HS := Bx.mk HS
        have HS : Bx (St w0 (rowA encI 1 3 (.slice ao24 ((r :: d.fOften).length) cp25) (r :: d.fOften) :: rowA encI 1 3 (.slice ao21 ((less d.fPast r).length) cp22) (less d.fPast r) :: rowA encI 1 3 (.slice d2 d.fOnce.length f2) d.fOnce :: rowA encI 1 3 (.slice d3 d.fOften.length f3) d.fOften :: rowA encI 1 3 (.slice d4 d.fPast.length f4) d.fPast :: rowA encI 1 3 (.slice d5 d.fFormer.length f5) d.fFormer :: boxA b2 6 48 (.agg #[.int .i64 d.fRoom, .int .i64 d.fGoal, .slice d2 d.fOnce.length f2, .slice ao24 ((r :: d.fOften).length) cp25, .slice ao21 ((less d.fPast r).length) cp22, .slice d5 d.fFormer.length f5]) :: boxA b1 6 48 (.agg #[.int .i64 d.fRoom, .int .i64 d.fGoal, .slice d2 d.fOnce.length f2, .slice ao24 ((r :: d.fOften).length) cp25, .slice ao21 ((less d.fPast r).length) cp22, .slice d5 d.fFormer.length f5]) :: F) _) := HS
        refine wl_y rfl HF rfl rfl (yl_assign rfl (HF.ev rfl)) ?_; clear HF; clear a; intro a HF
        refine wpList_nil ?_
        refine ex_then ?_
        refine wp_ret ?_
        refine ex_block_ret ?_
        refine ex_then_ret ?_
        refine bp_ret2 HF Try.results60 (HF.resBox rfl (HS.out.box 6 rfl) (by kernel_rfl)) (HF.res rfl) ?_
        replace HS : Bx (St w0 (rowA encI 1 3 (.slice d2 d.fOnce.length f2) d.fOnce :: rowA encI 1 3 (.slice ao24 ((r :: d.fOften).length) cp25) (r :: d.fOften) :: rowA encI 1 3 (.slice ao21 ((less d.fPast r).length) cp22) (less d.fPast r) :: rowA encI 1 3 (.slice d5 d.fFormer.length f5) d.fFormer :: rowA encI 1 3 (.slice d3 d.fOften.length f3) d.fOften :: rowA encI 1 3 (.slice d4 d.fPast.length f4) d.fPast :: boxA b2 6 48 (.agg #[.int .i64 d.fRoom, .int .i64 d.fGoal, .slice d2 d.fOnce.length f2, .slice ao24 ((r :: d.fOften).length) cp25, .slice ao21 ((less d.fPast r).length) cp22, .slice d5 d.fFormer.length f5]) :: boxA b1 6 48 (.agg #[.int .i64 d.fRoom, .int .i64 d.fGoal, .slice d2 d.fOnce.length f2, .slice ao24 ((r :: d.fOften).length) cp25, .slice ao21 ((less d.fPast r).length) cp22, .slice d5 d.fFormer.length f5]) :: F) _) := ⟨((((HS.out).pick 5 rfl).pick 2 rfl).pick 2 rfl).pick 3 rfl⟩
        have HT := ((((HS.out.erase 7).erase 6).erase 5).erase 4)
        have ha : c.ask r = ({ d with fPast := less d.fPast r, fOften := r :: d.fOften }, false) := by simp only [CacheD.ask, q2, q3, q4, Bool.true_or, Bool.false_or, Bool.or_true, Bool.or_self, if_true, Bool.false_eq_true, if_false]; rw [← hd]
        rw [ha]; exact ⟨_, rfl, _, _, _, _, _, _, _, _, rfl, HT⟩
      · clear HF; have HF := HF1; clear HF1
        have q4 := cc3
        refine wc_false HF rfl ?_
        refine wp_seq ?_
        refine wp_region_lit ?_
        refine wl_y rfl HF rfl rfl (yl_fieldAddr (j := 5) rfl (HF.ev rfl) (by kernel_rfl)) ?_; clear HF; clear a; intro a HF
        refine wl_y rfl HF rfl rfl (yl_load (v := .slice a5 c.fFormer.length c5) rfl (HF.ev rfl) (((HS.out.box 1 rfl).cell 5).trans rfl) (by kernel_rfl)) ?_; clear HF; clear a; intro a HF
        refine wl_y rfl HF rfl rfl (yl_move rfl (HF.ev rfl)) ?_; clear HF; clear a; intro a HF
        refine wl_callB rfl HF rfl (enter_of Try.func103 (by kernel_rfl) rfl) (args := #[.slice a5 c.fFormer.length c5, .int .i64 r]) rfl (v := .bool (inI c.fFormer r)) (l5InI_any _ _ _ c.fFormer r _ (by first | omega | (simp; omega)) (St.rdOf HS.out encI_len 5 rfl)) rfl rfl HS.out ?_; clear HF HS; clear a; intro w27 a HS HF; replace HS := Bx.mk HS
        refine wl_y rfl HF rfl rfl (yl_assign rfl (HF.ev rfl)) ?_; clear HF; clear a; intro a HF
        refine wpList_nil ?_
        refine ex_then ?_
        refine HF.cases 63 rfl (fun cc4 HF1 => ?_) (fun cc4 HF1 => ?_)
        · clear HF; have HF := HF1; clear HF1
          have q5 := cc4
          have hps := inI_pos q5
          refine wc_true HF rfl ?_
          refine wp_seq ?_
          have hdv := div_le c.fPast.length c.fFormer.length
          refine wr_tail 13 (by kernel_rfl) (by kernel_rfl) HS.out ?_
          simp only [List.take_succ_cons, List.take_zero, List.drop_succ_cons, List.drop_zero]
          intro w28 HS
          replace HS := Bx.mk HS
          refine ws_y rfl HF rfl rfl (yl_fieldAddr (j := 1) rfl (HF.ev rfl) (by kernel_rfl)) ?_; clear HF; clear a; intro a HF
          refine ws_y rfl HF rfl rfl (yl_load (v := .int .i64 c.fGoal) rfl (HF.ev rfl) (((HS.out.box 1 rfl).cell 1).trans rfl) (by kernel_rfl)) ?_; clear HF; clear a; intro a HF
          refine ws_y rfl HF rfl rfl (yl_fieldAddr (j := 4) rfl (HF.ev rfl) (by kernel_rfl)) ?_; clear HF; clear a; intro a HF
          refine ws_y rfl HF rfl rfl (yl_load (v := .slice a4 c.fPast.length c4) rfl (HF.ev rfl) (((HS.out.box 1 rfl).cell 4).trans rfl) (by kernel_rfl)) ?_; clear HF; clear a; intro a HF
          refine ws_y rfl HF rfl rfl (yl_lenL (e := 3) (size := 1) rfl (HF.ev rfl) (by kernel_rfl)) ?_; clear HF; clear a; intro a HF
          refine ws_y rfl HF rfl rfl (yl_fieldAddr (j := 5) rfl (HF.ev rfl) (by kernel_rfl)) ?_; clear HF; clear a; intro a HF
          refine ws_y rfl HF rfl rfl (yl_load (v := .slice a5 c.fFormer.length c5) rfl (HF.ev rfl) (((HS.out.box 1 rfl).cell 5).trans rfl) (by kernel_rfl)) ?_; clear HF; clear a; intro a HF
          refine ws_y rfl HF rfl rfl (yl_lenL (e := 3) (size := 1) rfl (HF.ev rfl) (by kernel_rfl)) ?_; clear HF; clear a; intro a HF
          refine ws_y rfl HF rfl rfl (yl_quoI rfl (HF.ev rfl) (HF.ev rfl) (by omega) (quo_pos (by omega) (by omega) (by omega))) ?_; clear HF; clear a; intro a HF
          refine ws_y rfl HF rfl rfl (yl_maxI rfl (HF.ev rfl) (HF.ev rfl)) ?_; clear HF; clear a; intro a HF
          refine ws_y rfl HF rfl rfl (yl_subI rfl (HF.ev rfl) (HF.ev rfl) (i64w (by omega))) ?_; clear HF; clear a; intro a HF
          refine ws_y rfl HF rfl rfl (yl_maxI rfl (HF.ev rfl) (HF.ev rfl)) ?_; clear HF; clear a; intro a HF
          refine ws_y rfl HF rfl rfl (yl_fieldAddr (j := 1) rfl (HF.ev rfl) (by kernel_rfl)) ?_; clear HF; clear a; intro a HF
          refine wpStill_nil ?_
          refine wl_storeF rfl rfl rfl (HF.ev rfl) (HF.ev rfl) (by kernel_rfl) HS.out 1 rfl rfl rfl ?_; clear HS; intro w29 HS; replace HS := Bx.mk HS
          have HS : Bx (St w0 (boxA b2 6 48 (.agg #[.int .i64 0, .int .i64 0, .slice none 0 0, .slice none 0 0, .slice none 0 0, .slice none 0 0]) :: boxA b1 6 48 (.agg #[.int .i64 c.fRoom, .int .i64 (max (0 : Int) (c.fGoal - (max (1 : Int) ((c.fPast.length : Int) / (c.fFormer.length : Int))))), .slice a2 c.fOnce.length c2, .slice a3 c.fOften.length c3, .slice a4 c.fPast.length c4, .slice a5 c.fFormer.length c5]) :: rowA encI 1 3 (.slice a2 c.fOnce.length c2) c.fOnce :: rowA encI 1 3 (.slice a3 c.fOften.length c3) c.fOften :: rowA encI 1 3 (.slice a4 c.fPast.length c4) c.fPast :: rowA encI 1 3 (.slice a5 c.fFormer.length c5) c.fFormer :: F) _) := HS
          refine wpList_nil ?_
          refine ex_then ?_
          refine wp_seq ?_
          refine wp_region_lit ?_
          refine wl_y rfl HF rfl rfl (yl_loadR (cs := [.int .i64 c.fRoom, .int .i64 (max (0 : Int) (c.fGoal - (max (1 : Int) ((c.fPast.length : Int) / (c.fFormer.length : Int))))), .slice a2 c.fOnce.length c2, .slice a3 c.fOften.length c3, .slice a4 c.fPast.length c4, .slice a5 c.fFormer.length c5]) rfl (HF.ev rfl) ((HS.out.box 1 rfl).sub 0 6) (by kernel_rfl)) ?_; clear HF; clear a; intro a HF
          replace HS : Bx (St w0 (rowA encI 1 3 (.slice a2 c.fOnce.length c2) c.fOnce :: rowA encI 1 3 (.slice a3 c.fOften.length c3) c.fOften :: rowA encI 1 3 (.slice a4 c.fPast.length c4) c.fPast :: rowA encI 1 3 (.slice a5 c.fFormer.length c5) c.fFormer :: boxA b2 6 48 (.agg #[.int .i64 0, .int .i64 0, .slice none 0 0, .slice none 0 0, .slice none 0 0, .slice none 0 0]) :: boxA b1 6 48 (.agg #[.int .i64 c.fRoom, .int .i64 (max (0 : Int) (c.fGoal - (max (1 : Int) ((c.fPast.length : Int) / (c.fFormer.length : Int))))), .slice a2 c.fOnce.length c2, .slice a3 c.fOften.length c3, .slice a4 c.fPast.length c4, .slice a5 c.fFormer.length c5]) :: F) _) := ⟨((((HS.out).pick 5 rfl).pick 5 rfl).pick 5 rfl).pick 5 rfl⟩
          refine wl_call rfl HF rfl (enter_of Try.func106 (by kernel_rfl) rfl) (args := #[.agg #[.int .i64 c.fRoom, .int .i64 (max (0 : Int) (c.fGoal - (max (1 : Int) ((c.fPast.length : Int) / (c.fFormer.length : Int))))), .slice a2 c.fOnce.length c2, .slice a3 c.fOften.length c3, .slice a4 c.fPast.length c4, .slice a5 c.fFormer.length c5], .bool true]) rfl (l27Way_any w0 _ _ _ _ _ _ _ _ _ ({ c with fGoal := c.down }) true _ (by first | omega | (simp; omega)) (by first | omega | (simp; omega)) (by first | omega | (simp; omega)) (by first | omega | (simp; omega)) (by first | omega | (simp; omega)) HS.out) rfl rfl ?_
          rintro _ w30 ⟨_, rfl, hv⟩
          have hdl := way_le ({ c with fGoal := c.down }) true; have hdm := way_le2 ({ c with fGoal := c.down }) true
          obtain ⟨d, hd⟩ : ∃ d : CacheD, d = CacheD.wayC ({ c with fGoal := c.down }) true := ⟨_, rfl⟩; rw [← hd] at hv hdl hdm; obtain ⟨d2, f2, d3, f3, d4, f4, d5, f5, rfl, hs1⟩ := hv
          have hd2 : d.fOnce.length ≤ 100 := Nat.le_trans hdl.1 (by first | omega | (simp; omega)); have hd3 : d.fOften.length ≤ 100 := Nat.le_trans hdl.2 (by first | omega | (simp; omega)); have hd4 : d.fPast.length ≤ 100 := Nat.le_trans hdm.1 (by first | omega | (simp; omega)); have hd5 : d.fFormer.length ≤ 100 := Nat.le_trans hdm.2 (by first | omega | (simp; omega)); clear hdl hdm
          refine ⟨_, rfl, ?_⟩; replace HS := Bx.mk hs1; clear hs1 HF; clear a; intro a HF
          replace HS : Bx (St w0 (rowA encI 1 3 (.slice d2 d.fOnce.length f2) d.fOnce :: rowA encI 1 3 (.slice d3 d.fOften.length f3) d.fOften :: rowA encI 1 3 (.slice d4 d.fPast.length f4) d.fPast :: rowA encI 1 3 (.slice d5 d.fFormer.length f5) d.fFormer :: boxA b2 6 48 (.agg #[.int .i64 0, .int .i64 0, .slice none 0 0, .slice none 0 0, .slice none 0 0, .slice none 0 0]) :: boxA b1 6 48 (.agg #[.int .i64 c.fRoom, .int .i64 (max (0 : Int) (c.fGoal - (max (1 : Int) ((c.fPast.length : Int) / (c.fFormer.length : Int))))), .slice a2 c.fOnce.length c2, .slice a3 c.fOften.length c3, .slice a4 c.fPast.length c4, .slice a5 c.fFormer.length c5]) :: F) _) := ⟨HS.out⟩
          refine wl_storeBox rfl HF rfl rfl (HF.ev rfl) (HF.ev rfl) HS.out 5 rfl (cells_lit [.int .i64 d.fRoom, .int .i64 d.fGoal, .slice d2 d.fOnce.length f2, .slice d3 d.fOften.length f3, .slice d4 d.fPast.length f4, .slice d5 d.fFormer.length f5] rfl rfl) (by kernel_rfl) ?_; clear HS; intro w31 HS; replace HS := Bx.mk HS
          have HS : Bx (St w0 (rowA encI 1 3 (.slice d2 d.fOnce.length f2) d.fOnce :: rowA encI 1 3 (.slice d3 d.fOften.length f3) d.fOften :: rowA encI 1 3 (.slice d4 d.fPast.length f4) d.fPast :: rowA encI 1 3 (.slice d5 d.fFormer.length f5) d.fFormer :: boxA b2 6 48 (.agg #[.int .i64 0, .int .i64 0, .slice none 0 0, .slice none 0 0, .slice none 0 0, .slice none 0 0]) :: boxA b1 6 48 (.agg #[.int .i64 d.fRoom, .int .i64 d.fGoal, .slice d2 d.fOnce.length f2, .slice d3 d.fOften.length f3, .slice d4 d.fPast.length f4, .slice d5 d.fFormer.length f5]) :: F) _) := HS
          refine wpList_nil ?_
          refine ex_then ?_
          refine wp_seq ?_
          refine wp_region_lit ?_
          refine wl_y rfl HF rfl rfl (yl_fieldAddr (j := 5) rfl (HF.ev rfl) (by kernel_rfl)) ?_; clear HF; clear a; intro a HF
          refine wl_y rfl HF rfl rfl (yl_load (v := .slice d5 d.fFormer.length f5) rfl (HF.ev rfl) (((HS.out.box 5 rfl).cell 5).trans rfl) (by kernel_rfl)) ?_; clear HF; clear a; intro a HF
          refine wl_y rfl HF rfl rfl (yl_move rfl (HF.ev rfl)) ?_; clear HF; clear a; intro a HF
          refine wl_call rfl HF rfl (enter_of Try.func104 (by kernel_rfl) rfl) (args := #[.slice d5 d.fFormer.length f5, .int .i64 r]) rfl (l27Less_any _ _ d.fFormer r _ (by first | omega | (simp; omega)) (St.rdOf HS.out encI_len 3 rfl)) rfl rfl ?_
          rintro _ w32 ⟨ao27, cp28, rfl, hn⟩
          refine ⟨_, rfl, ?_⟩; replace HS := Bx.mk (HS.out.add hn); clear hn HF; clear a; intro a HF
          replace HS : Bx (St w0 (rowA encI 1 3 (.slice ao27 ((less d.fFormer r).length) cp28) (less d.fFormer r) :: rowA encI 1 3 (.slice d2 d.fOnce.length f2) d.fOnce :: rowA encI 1 3 (.slice d3 d.fOften.length f3) d.fOften :: rowA encI 1 3 (.slice d4 d.fPast.length f4) d.fPast :: rowA encI 1 3 (.slice d5 d.fFormer.length f5) d.fFormer :: boxA b2 6 48 (.agg #[.int .i64 0, .int .i64 0, .slice none 0 0, .slice none 0 0, .slice none 0 0, .slice none 0 0]) :: boxA b1 6 48 (.agg #[.int .i64 d.fRoom, .int .i64 d.fGoal, .slice d2 d.fOnce.length f2, .slice d3 d.fOften.length f3, .slice d4 d.fPast.length f4, .slice d5 d.fFormer.length f5]) :: F) _) := ⟨HS.out⟩
          refine wl_y rfl HF rfl rfl (yl_fieldAddr (j := 5) rfl (HF.ev rfl) (by kernel_rfl)) ?_; clear HF; clear a; intro a HF
          refine wl_storeF rfl rfl rfl (HF.ev rfl) (HF.ev rfl) (by kernel_rfl) HS.out 6 rfl rfl rfl ?_; clear HS; intro w33 HS; replace HS := Bx.mk HS
          have HS : Bx (St w0 (rowA encI 1 3 (.slice ao27 ((less d.fFormer r).length) cp28) (less d.fFormer r) :: rowA encI 1 3 (.slice d2 d.fOnce.length f2) d.fOnce :: rowA encI 1 3 (.slice d3 d.fOften.length f3) d.fOften :: rowA encI 1 3 (.slice d4 d.fPast.length f4) d.fPast :: rowA encI 1 3 (.slice d5 d.fFormer.length f5) d.fFormer :: boxA b2 6 48 (.agg #[.int .i64 0, .int .i64 0, .slice none 0 0, .slice none 0 0, .slice none 0 0, .slice none 0 0]) :: boxA b1 6 48 (.agg #[.int .i64 d.fRoom, .int .i64 d.fGoal, .slice d2 d.fOnce.length f2, .slice d3 d.fOften.length f3, .slice d4 d.fPast.length f4, .slice ao27 ((less d.fFormer r).length) cp28]) :: F) _) := HS
          refine wpList_nil ?_
          refine ex_then ?_
          refine wp_seq ?_
          refine wp_region_lit ?_
          refine wl_y rfl HF rfl rfl (yl_fieldAddr (j := 3) rfl (HF.ev rfl) (by kernel_rfl)) ?_; clear HF; clear a; intro a HF
          refine wl_y rfl HF rfl rfl (yl_load (v := .slice d3 d.fOften.length f3) rfl (HF.ev rfl) (((HS.out.box 6 rfl).cell 3).trans rfl) (by kernel_rfl)) ?_; clear HF; clear a; intro a HF
          refine wl_y rfl HF rfl rfl (yl_move rfl (HF.ev rfl)) ?_; clear HF; clear a; intro a HF
          refine wl_call rfl HF rfl (enter_of Try.func105 (by kernel_rfl) rfl) (args := #[.slice d3 d.fOften.length f3, .int .i64 r]) rfl (l27Front_any _ _ d.fOften r _ (by first | omega | (simp; omega)) (St.rdOf HS.out encI_len 2 rfl)) rfl rfl ?_
          rintro _ w34 ⟨ao30, cp31, rfl, hn⟩
          refine ⟨_, rfl, ?_⟩; replace HS := Bx.mk (HS.out.add hn); clear hn HF; clear a; intro a HF
          replace HS : Bx (St w0 (rowA encI 1 3 (.slice ao30 ((r :: d.fOften).length) cp31) (r :: d.fOften) :: rowA encI 1 3 (.slice ao27 ((less d.fFormer r).length) cp28) (less d.fFormer r) :: rowA encI 1 3 (.slice d2 d.fOnce.length f2) d.fOnce :: rowA encI 1 3 (.slice d3 d.fOften.length f3) d.fOften :: rowA encI 1 3 (.slice d4 d.fPast.length f4) d.fPast :: rowA encI 1 3 (.slice d5 d.fFormer.length f5) d.fFormer :: boxA b2 6 48 (.agg #[.int .i64 0, .int .i64 0, .slice none 0 0, .slice none 0 0, .slice none 0 0, .slice none 0 0]) :: boxA b1 6 48 (.agg #[.int .i64 d.fRoom, .int .i64 d.fGoal, .slice d2 d.fOnce.length f2, .slice d3 d.fOften.length f3, .slice d4 d.fPast.length f4, .slice ao27 ((less d.fFormer r).length) cp28]) :: F) _) := ⟨HS.out⟩
          refine wl_y rfl HF rfl rfl (yl_fieldAddr (j := 3) rfl (HF.ev rfl) (by kernel_rfl)) ?_; clear HF; clear a; intro a HF
          refine wl_storeF rfl rfl rfl (HF.ev rfl) (HF.ev rfl) (by kernel_rfl) HS.out 7 rfl rfl rfl ?_; clear HS; intro w35 HS; replace HS := Bx.mk HS
          have HS : Bx (St w0 (rowA encI 1 3 (.slice ao30 ((r :: d.fOften).length) cp31) (r :: d.fOften) :: rowA encI 1 3 (.slice ao27 ((less d.fFormer r).length) cp28) (less d.fFormer r) :: rowA encI 1 3 (.slice d2 d.fOnce.length f2) d.fOnce :: rowA encI 1 3 (.slice d3 d.fOften.length f3) d.fOften :: rowA encI 1 3 (.slice d4 d.fPast.length f4) d.fPast :: rowA encI 1 3 (.slice d5 d.fFormer.length f5) d.fFormer :: boxA b2 6 48 (.agg #[.int .i64 0, .int .i64 0, .slice none 0 0, .slice none 0 0, .slice none 0 0, .slice none 0 0]) :: boxA b1 6 48 (.agg #[.int .i64 d.fRoom, .int .i64 d.fGoal, .slice d2 d.fOnce.length f2, .slice ao30 ((r :: d.fOften).length) cp31, .slice d4 d.fPast.length f4, .slice ao27 ((less d.fFormer r).length) cp28]) :: F) _) := HS
          refine wpList_nil ?_
          refine ex_then ?_
          refine wp_seq ?_
          refine wp_region_lit ?_
          refine wl_y rfl HF rfl rfl (yl_loadR (cs := [.int .i64 d.fRoom, .int .i64 d.fGoal, .slice d2 d.fOnce.length f2, .slice ao30 ((r :: d.fOften).length) cp31, .slice d4 d.fPast.length f4, .slice ao27 ((less d.fFormer r).length) cp28]) rfl (HF.ev rfl) ((HS.out.box 7 rfl).sub 0 6) (by kernel_rfl)) ?_; clear HF; clear a; intro a HF
          refine wl_storeBox rfl HF rfl rfl (HF.ev rfl) (HF.ev rfl) HS.out 6 rfl (cells_lit [.int .i64 d.fRoom, .int .i64 d.fGoal, .slice d2 d.fOnce.length f2, .slice ao30 ((r :: d.fOften).length) cp31, .slice d4 d.fPast.length f4, .slice ao27 ((less d.fFormer r).length) cp28] rfl rfl) (by kernel_rfl) ?_; clear HS; intro w36 HS; replace HS := Bx.mk HS
          have HS : Bx (St w0 (rowA encI 1 3 (.slice ao30 ((r :: d.fOften).length) cp31) (r :: d.fOften) :: rowA encI 1 3 (.slice ao27 ((less d.fFormer r).length) cp28) (less d.fFormer r) :: rowA encI 1 3 (.slice d2 d.fOnce.length f2) d.fOnce :: rowA encI 1 3 (.slice d3 d.fOften.length f3) d.fOften :: rowA encI 1 3 (.slice d4 d.fPast.length f4) d.fPast :: rowA encI 1 3 (.slice d5 d.fFormer.length f5) d.fFormer :: boxA b2 6 48 (.agg #[.int .i64 d.fRoom, .int .i64 d.fGoal, .slice d2 d.fOnce.length f2, .slice ao30 ((r :: d.fOften).length) cp31, .slice d4 d.fPast.length f4, .slice ao27 ((less d.fFormer r).length) cp28]) :: boxA b1 6 48 (.agg #[.int .i64 d.fRoom, .int .i64 d.fGoal, .slice d2 d.fOnce.length f2, .slice ao30 ((r :: d.fOften).length) cp31, .slice d4 d.fPast.length f4, .slice ao27 ((less d.fFormer r).length) cp28]) :: F) _) := HS
          refine wl_y rfl HF rfl rfl (yl_assign rfl (HF.ev rfl)) ?_; clear HF; clear a; intro a HF
          refine wpList_nil ?_
          refine ex_then ?_
          refine wp_ret ?_
          refine ex_block_ret ?_
          refine ex_then_ret ?_
          refine bp_ret2 HF Try.results60 (HF.resBox rfl (HS.out.box 6 rfl) (by kernel_rfl)) (HF.res rfl) ?_
          replace HS : Bx (St w0 (rowA encI 1 3 (.slice d2 d.fOnce.length f2) d.fOnce :: rowA encI 1 3 (.slice ao30 ((r :: d.fOften).length) cp31) (r :: d.fOften) :: rowA encI 1 3 (.slice d4 d.fPast.length f4) d.fPast :: rowA encI 1 3 (.slice ao27 ((less d.fFormer r).length) cp28) (less d.fFormer r) :: rowA encI 1 3 (.slice d3 d.fOften.length f3) d.fOften :: rowA encI 1 3 (.slice d5 d.fFormer.length f5) d.fFormer :: boxA b2 6 48 (.agg #[.int .i64 d.fRoom, .int .i64 d.fGoal, .slice d2 d.fOnce.length f2, .slice ao30 ((r :: d.fOften).length) cp31, .slice d4 d.fPast.length f4, .slice ao27 ((less d.fFormer r).length) cp28]) :: boxA b1 6 48 (.agg #[.int .i64 d.fRoom, .int .i64 d.fGoal, .slice d2 d.fOnce.length f2, .slice ao30 ((r :: d.fOften).length) cp31, .slice d4 d.fPast.length f4, .slice ao27 ((less d.fFormer r).length) cp28]) :: F) _) := ⟨((((HS.out).pick 1 rfl).pick 4 rfl).pick 2 rfl).pick 3 rfl⟩
          have HT := ((((HS.out.erase 7).erase 6).erase 5).erase 4)
          have ha : c.ask r = ({ d with fFormer := less d.fFormer r, fOften := r :: d.fOften }, false) := by simp only [CacheD.ask, q2, q3, q4, q5, Bool.true_or, Bool.false_or, Bool.or_true, Bool.or_self, if_true, Bool.false_eq_true, if_false]; rw [← hd]
          rw [ha]; exact ⟨_, rfl, _, _, _, _, _, _, _, _, rfl, HT⟩
        · clear HF; have HF := HF1; clear HF1
          have q5 := cc4
          refine wc_false HF rfl ?_
          refine wp_skip ?_
          refine ex_block ?_
          refine ex_then ?_
          refine wp_seq ?_
          refine wp_seq ?_
          refine wp_region_lit ?_
          refine wl_y rfl HF rfl rfl (yl_fieldAddr (j := 2) rfl (HF.ev rfl) (by kernel_rfl)) ?_; clear HF; clear a; intro a HF
          refine wl_y rfl HF rfl rfl (yl_load (v := .slice a2 c.fOnce.length c2) rfl (HF.ev rfl) (((HS.out.box 1 rfl).cell 2).trans rfl) (by kernel_rfl)) ?_; clear HF; clear a; intro a HF
          refine wl_y rfl HF rfl rfl (yl_lenL (e := 3) (size := 1) rfl (HF.ev rfl) (by kernel_rfl)) ?_; clear HF; clear a; intro a HF
          refine wl_y rfl HF rfl rfl (yl_fieldAddr (j := 4) rfl (HF.ev rfl) (by kernel_rfl)) ?_; clear HF; clear a; intro a HF
          refine wl_y rfl HF rfl rfl (yl_load (v := .slice a4 c.fPast.length c4) rfl (HF.ev rfl) (((HS.out.box 1 rfl).cell 4).trans rfl) (by kernel_rfl)) ?_; clear HF; clear a; intro a HF
          refine wl_y rfl HF rfl rfl (yl_lenL (e := 3) (size := 1) rfl (HF.ev rfl) (by kernel_rfl)) ?_; clear HF; clear a; intro a HF
          refine wl_y rfl HF rfl rfl (yl_addI rfl (HF.ev rfl) (HF.ev rfl) (i64w (by omega))) ?_; clear HF; clear a; intro a HF
          refine wl_y rfl HF rfl rfl (yl_fieldAddr (j := 0) rfl (HF.ev rfl) (by kernel_rfl)) ?_; clear HF; clear a; intro a HF
          refine wl_y rfl HF rfl rfl (yl_load (v := .int .i64 c.fRoom) rfl (HF.ev rfl) (((HS.out.box 1 rfl).cell 0).trans rfl) (by kernel_rfl)) ?_; clear HF; clear a; intro a HF
          refine wl_y rfl HF rfl rfl (yl_eqlI rfl (HF.ev rfl) (HF.ev rfl)) ?_; clear HF; clear a; intro a HF
          refine wpList_nil ?_
          refine ex_then ?_
          refine HF.cases 103 rfl (fun cc5 HF1 => ?_) (fun cc5 HF1 => ?_)
          · clear HF; have HF := HF1; clear HF1
            have cc5 := eq_of_beq cc5
            refine wc_true HF rfl ?_
            refine wp_seq ?_
            refine wp_region_lit ?_
            refine wl_y rfl HF rfl rfl (yl_fieldAddr (j := 4) rfl (HF.ev rfl) (by kernel_rfl)) ?_; clear HF; clear a; intro a HF
            refine wl_y rfl HF rfl rfl (yl_load (v := .slice a4 c.fPast.length c4) rfl (HF.ev rfl) (((HS.out.box 1 rfl).cell 4).trans rfl) (by kernel_rfl)) ?_; clear HF; clear a; intro a HF
            refine wl_y rfl HF rfl rfl (yl_lenL (e := 3) (size := 1) rfl (HF.ev rfl) (by kernel_rfl)) ?_; clear HF; clear a; intro a HF
            refine wl_y rfl HF rfl rfl (yl_gtrI rfl (HF.ev rfl) (HF.ev rfl)) ?_; clear HF; clear a; intro a HF
            refine wpList_nil ?_
            refine ex_then ?_
            refine HF.cases 107 rfl (fun cc6 HF1 => ?_) (fun cc6 HF1 => ?_)
            · clear HF; have HF := HF1; clear HF1
              have cc6 := of_decide_eq_true cc6
              refine wc_true HF rfl ?_
              refine wp_seq ?_
              refine wp_region_lit ?_
              refine wl_y rfl HF rfl rfl (yl_fieldAddr (j := 4) rfl (HF.ev rfl) (by kernel_rfl)) ?_; clear HF; clear a; intro a HF
              refine wl_y rfl HF rfl rfl (yl_load (v := .slice a4 c.fPast.length c4) rfl (HF.ev rfl) (((HS.out.box 1 rfl).cell 4).trans rfl) (by kernel_rfl)) ?_; clear HF; clear a; intro a HF
              refine wl_y rfl HF rfl rfl (yl_fieldAddr (j := 4) rfl (HF.ev rfl) (by kernel_rfl)) ?_; clear HF; clear a; intro a HF
              refine wl_y rfl HF rfl rfl (yl_load (v := .slice a4 c.fPast.length c4) rfl (HF.ev rfl) (((HS.out.box 1 rfl).cell 4).trans rfl) (by kernel_rfl)) ?_; clear HF; clear a; intro a HF
              refine wl_y rfl HF rfl rfl (yl_lenL (e := 3) (size := 1) rfl (HF.ev rfl) (by kernel_rfl)) ?_; clear HF; clear a; intro a HF
              refine wl_y rfl HF rfl rfl (yl_subI (r := ((c.fPast.length - 1 : Nat) : Int)) rfl (HF.ev rfl) (HF.ev rfl) ((i64w (by omega)).trans (by omega))) ?_; clear HF; clear a; intro a HF
              refine wl_y rfl HF rfl rfl (yl_sliceHi (e := 3) (size := 1) (k := c.fPast.length - 1) rfl (HF.ev rfl) (HF.ev rfl) (by kernel_rfl) (by omega) (Nat.le_trans (by omega) (St.capLe HS.out 4 rfl))) ?_; clear HF; clear a; intro a HF
              replace HS := Bx.mk (HS.out.rowDrop encI_len 4 rfl)
              rw [show c.fPast.length - 1 = c.fPast.dropLast.length from List.length_dropLast.symm] at HF HS
              have HS : Bx (St w0 (boxA b2 6 48 (.agg #[.int .i64 0, .int .i64 0, .slice none 0 0, .slice none 0 0, .slice none 0 0, .slice none 0 0]) :: boxA b1 6 48 (.agg #[.int .i64 c.fRoom, .int .i64 c.fGoal, .slice a2 c.fOnce.length c2, .slice a3 c.fOften.length c3, .slice a4 c.fPast.length c4, .slice a5 c.fFormer.length c5]) :: rowA encI 1 3 (.slice a2 c.fOnce.length c2) c.fOnce :: rowA encI 1 3 (.slice a3 c.fOften.length c3) c.fOften :: rowA encI 1 3 (.slice a4 c.fPast.dropLast.length c4) c.fPast.dropLast :: rowA encI 1 3 (.slice a5 c.fFormer.length c5) c.fFormer :: F) _) := HS
              refine wl_y rfl HF rfl rfl (yl_fieldAddr (j := 4) rfl (HF.ev rfl) (by kernel_rfl)) ?_; clear HF; clear a; intro a HF
              refine wl_storeF rfl rfl rfl (HF.ev rfl) (HF.ev rfl) (by kernel_rfl) HS.out 1 rfl rfl rfl ?_; clear HS; intro w37 HS; replace HS := Bx.mk HS
              have HS : Bx (St w0 (boxA b2 6 48 (.agg #[.int .i64 0, .int .i64 0, .slice none 0 0, .slice none 0 0, .slice none 0 0, .slice none 0 0]) :: boxA b1 6 48 (.agg #[.int .i64 c.fRoom, .int .i64 c.fGoal, .slice a2 c.fOnce.length c2, .slice a3 c.fOften.length c3, .slice a4 c.fPast.dropLast.length c4, .slice a5 c.fFormer.length c5]) :: rowA encI 1 3 (.slice a2 c.fOnce.length c2) c.fOnce :: rowA encI 1 3 (.slice a3 c.fOften.length c3) c.fOften :: rowA encI 1 3 (.slice a4 c.fPast.dropLast.length c4) c.fPast.dropLast :: rowA encI 1 3 (.slice a5 c.fFormer.length c5) c.fFormer :: F) _) := HS
              refine wpList_nil ?_
              refine ex_then ?_
              refine wp_region_lit ?_
              refine wl_y rfl HF rfl rfl (yl_loadR (cs := [.int .i64 c.fRoom, .int .i64 c.fGoal, .slice a2 c.fOnce.length c2, .slice a3 c.fOften.length c3, .slice a4 c.fPast.dropLast.length c4, .slice a5 c.fFormer.length c5]) rfl (HF.ev rfl) ((HS.out.box 1 rfl).sub 0 6) (by kernel_rfl)) ?_; clear HF; clear a; intro a HF
              replace HS : Bx (St w0 (rowA encI 1 3 (.slice a2 c.fOnce.length c2) c.fOnce :: rowA encI 1 3 (.slice a3 c.fOften.length c3) c.fOften :: rowA encI 1 3 (.slice a4 c.fPast.dropLast.length c4) c.fPast.dropLast :: rowA encI 1 3 (.slice a5 c.fFormer.length c5) c.fFormer :: boxA b2 6 48 (.agg #[.int .i64 0, .int .i64 0, .slice none 0 0, .slice none 0 0, .slice none 0 0, .slice none 0 0]) :: boxA b1 6 48 (.agg #[.int .i64 c.fRoom, .int .i64 c.fGoal, .slice a2 c.fOnce.length c2, .slice a3 c.fOften.length c3, .slice a4 c.fPast.dropLast.length c4, .slice a5 c.fFormer.length c5]) :: F) _) := ⟨((((HS.out).pick 5 rfl).pick 5 rfl).pick 5 rfl).pick 5 rfl⟩
              refine wl_call rfl HF rfl (enter_of Try.func106 (by kernel_rfl) rfl) (args := #[.agg #[.int .i64 c.fRoom, .int .i64 c.fGoal, .slice a2 c.fOnce.length c2, .slice a3 c.fOften.length c3, .slice a4 c.fPast.dropLast.length c4, .slice a5 c.fFormer.length c5], .bool false]) rfl (l27Way_any w0 _ _ _ _ _ _ _ _ _ ({ c with fPast := c.fPast.dropLast }) false _ (by first | omega | (simp; omega)) (by first | omega | (simp; omega)) (by first | omega | (simp; omega)) (by first | omega | (simp; omega)) (by first | omega | (simp; omega)) HS.out) rfl rfl ?_
              rintro _ w38 ⟨_, rfl, hv⟩
              have hdl := way_le ({ c with fPast := c.fPast.dropLast }) false; have hdm := way_le2 ({ c with fPast := c.fPast.dropLast }) false
              obtain ⟨d, hd⟩ : ∃ d : CacheD, d = CacheD.wayC ({ c with fPast := c.fPast.dropLast }) false := ⟨_, rfl⟩; rw [← hd] at hv hdl hdm; obtain ⟨d2, f2, d3, f3, d4, f4, d5, f5, rfl, hs1⟩ := hv
              have hd2 : d.fOnce.length ≤ 100 := Nat.le_trans hdl.1 (by first | omega | (simp; omega)); have hd3 : d.fOften.length ≤ 100 := Nat.le_trans hdl.2 (by first | omega | (simp; omega)); have hd4 : d.fPast.length ≤ 100 := Nat.le_trans hdm.1 (by first | omega | (simp; omega)); have hd5 : d.fFormer.length ≤ 100 := Nat.le_trans hdm.2 (by first | omega | (simp; omega)); clear hdl hdm
              refine ⟨_, rfl, ?_⟩; replace HS := Bx.mk hs1; clear hs1 HF; clear a; intro a HF
              replace HS : Bx (St w0 (rowA encI 1 3 (.slice d2 d.fOnce.length f2) d.fOnce :: rowA encI 1 3 (.slice d3 d.fOften.length f3) d.fOften :: rowA encI 1 3 (.slice d4 d.fPast.length f4) d.fPast :: rowA encI 1 3 (.slice d5 d.fFormer.length f5) d.fFormer :: boxA b2 6 48 (.agg #[.int .i64 0, .int .i64 0, .slice none 0 0, .slice none 0 0, .slice none 0 0, .slice none 0 0]) :: boxA b1 6 48 (.agg #[.int .i64 c.fRoom, .int .i64 c.fGoal, .slice a2 c.fOnce.length c2, .slice a3 c.fOften.length c3, .slice a4 c.fPast.dropLast.length c4, .slice a5 c.fFormer.length c5]) :: F) _) := ⟨HS.out⟩
              refine wl_storeBox rfl HF rfl rfl (HF.ev rfl) (HF.ev rfl) HS.out 5 rfl (cells_lit [.int .i64 d.fRoom, .int .i64 d.fGoal, .slice d2 d.fOnce.length f2, .slice d3 d.fOften.length f3, .slice d4 d.fPast.length f4, .slice d5 d.fFormer.length f5] rfl rfl) (by kernel_rfl) ?_; clear HS; intro w39 HS; replace HS := Bx.mk HS
              have HS : Bx (St w0 (rowA encI 1 3 (.slice d2 d.fOnce.length f2) d.fOnce :: rowA encI 1 3 (.slice d3 d.fOften.length f3) d.fOften :: rowA encI 1 3 (.slice d4 d.fPast.length f4) d.fPast :: rowA encI 1 3 (.slice d5 d.fFormer.length f5) d.fFormer :: boxA b2 6 48 (.agg #[.int .i64 0, .int .i64 0, .slice none 0 0, .slice none 0 0, .slice none 0 0, .slice none 0 0]) :: boxA b1 6 48 (.agg #[.int .i64 d.fRoom, .int .i64 d.fGoal, .slice d2 d.fOnce.length f2, .slice d3 d.fOften.length f3, .slice d4 d.fPast.length f4, .slice d5 d.fFormer.length f5]) :: F) _) := HS
              refine wpList_nil ?_
              refine ex_then ?_
              refine wp_seq ?_
              refine wp_region_lit ?_
              refine wl_y rfl HF rfl rfl (yl_fieldAddr (j := 2) rfl (HF.ev rfl) (by kernel_rfl)) ?_; clear HF; clear a; intro a HF
              refine wl_y rfl HF rfl rfl (yl_load (v := .slice d2 d.fOnce.length f2) rfl (HF.ev rfl) (((HS.out.box 5 rfl).cell 2).trans rfl) (by kernel_rfl)) ?_; clear HF; clear a; intro a HF
              refine wl_y rfl HF rfl rfl (yl_move rfl (HF.ev rfl)) ?_; clear HF; clear a; intro a HF
              refine wl_call rfl HF rfl (enter_of Try.func105 (by kernel_rfl) rfl) (args := #[.slice d2 d.fOnce.length f2, .int .i64 r]) rfl (l27Front_any _ _ d.fOnce r _ (by first | omega | (simp; omega)) (St.rdOf HS.out encI_len 0 rfl)) rfl rfl ?_
              rintro _ w40 ⟨ao33, cp34, rfl, hn⟩
              refine ⟨_, rfl, ?_⟩; replace HS := Bx.mk (HS.out.add hn); clear hn HF; clear a; intro a HF
              replace HS : Bx (St w0 (rowA encI 1 3 (.slice ao33 ((r :: d.fOnce).length) cp34) (r :: d.fOnce) :: rowA encI 1 3 (.slice d2 d.fOnce.length f2) d.fOnce :: rowA encI 1 3 (.slice d3 d.fOften.length f3) d.fOften :: rowA encI 1 3 (.slice d4 d.fPast.length f4) d.fPast :: rowA encI 1 3 (.slice d5 d.fFormer.length f5) d.fFormer :: boxA b2 6 48 (.agg #[.int .i64 0, .int .i64 0, .slice none 0 0, .slice none 0 0, .slice none 0 0, .slice none 0 0]) :: boxA b1 6 48 (.agg #[.int .i64 d.fRoom, .int .i64 d.fGoal, .slice d2 d.fOnce.length f2, .slice d3 d.fOften.length f3, .slice d4 d.fPast.length f4, .slice d5 d.fFormer.length f5]) :: F) _) := ⟨HS.out⟩
              refine wl_y rfl HF rfl rfl (yl_fieldAddr (j := 2) rfl (HF.ev rfl) (by kernel_rfl)) ?_; clear HF; clear a; intro a HF
              refine wl_storeF rfl rfl rfl (HF.ev rfl) (HF.ev rfl) (by kernel_rfl) HS.out 6 rfl rfl rfl ?_; clear HS; intro w41 HS; replace HS := Bx.mk HS
              have HS : Bx (St w0 (rowA encI 1 3 (.slice ao33 ((r :: d.fOnce).length) cp34) (r :: d.fOnce) :: rowA encI 1 3 (.slice d2 d.fOnce.length f2) d.fOnce :: rowA encI 1 3 (.slice d3 d.fOften.length f3) d.fOften :: rowA encI 1 3 (.slice d4 d.fPast.length f4) d.fPast :: rowA encI 1 3 (.slice d5 d.fFormer.length f5) d.fFormer :: boxA b2 6 48 (.agg #[.int .i64 0, .int .i64 0, .slice none 0 0, .slice none 0 0, .slice none 0 0, .slice none 0 0]) :: boxA b1 6 48 (.agg #[.int .i64 d.fRoom, .int .i64 d.fGoal, .slice ao33 ((r :: d.fOnce).length) cp34, .slice d3 d.fOften.length f3, .slice d4 d.fPast.length f4, .slice d5 d.fFormer.length f5]) :: F) _) := HS
              refine wpList_nil ?_
              refine ex_then ?_
              refine wp_seq ?_
              refine wp_region_lit ?_
              refine wl_y rfl HF rfl rfl (yl_loadR (cs := [.int .i64 d.fRoom, .int .i64 d.fGoal, .slice ao33 ((r :: d.fOnce).length) cp34, .slice d3 d.fOften.length f3, .slice d4 d.fPast.length f4, .slice d5 d.fFormer.length f5]) rfl (HF.ev rfl) ((HS.out.box 6 rfl).sub 0 6) (by kernel_rfl)) ?_; clear HF; clear a; intro a HF
              refine wl_storeBox rfl HF rfl rfl (HF.ev rfl) (HF.ev rfl) HS.out 5 rfl (cells_lit [.int .i64 d.fRoom, .int .i64 d.fGoal, .slice ao33 ((r :: d.fOnce).length) cp34, .slice d3 d.fOften.length f3, .slice d4 d.fPast.length f4, .slice d5 d.fFormer.length f5] rfl rfl) (by kernel_rfl) ?_; clear HS; intro w42 HS; replace HS := Bx.mk HS
              have HS : Bx (St w0 (rowA encI 1 3 (.slice ao33 ((r :: d.fOnce).length) cp34) (r :: d.fOnce) :: rowA encI 1 3 (.slice d2 d.fOnce.length f2) d.fOnce :: rowA encI 1 3 (.slice d3 d.fOften.length f3) d.fOften :: rowA encI 1 3 (.slice d4 d.fPast.length f4) d.fPast :: rowA encI 1 3 (.slice d5 d.fFormer.length f5) d.fFormer :: boxA b2 6 48 (.agg #[.int .i64 d.fRoom, .int .i64 d.fGoal, .slice ao33 ((r :: d.fOnce).length) cp34, .slice d3 d.fOften.length f3, .slice d4 d.fPast.length f4, .slice d5 d.fFormer.length f5]) :: boxA b1 6 48 (.agg #[.int .i64 d.fRoom, .int .i64 d.fGoal, .slice ao33 ((r :: d.fOnce).length) cp34, .slice d3 d.fOften.length f3, .slice d4 d.fPast.length f4, .slice d5 d.fFormer.length f5]) :: F) _) := HS
              refine wl_y rfl HF rfl rfl (yl_assign rfl (HF.ev rfl)) ?_; clear HF; clear a; intro a HF
              refine wpList_nil ?_
              refine ex_then ?_
              refine wp_ret ?_
              refine bp_ret2 HF Try.results60 (HF.resBox rfl (HS.out.box 5 rfl) (by kernel_rfl)) (HF.res rfl) ?_
              replace HS : Bx (St w0 (rowA encI 1 3 (.slice ao33 ((r :: d.fOnce).length) cp34) (r :: d.fOnce) :: rowA encI 1 3 (.slice d3 d.fOften.length f3) d.fOften :: rowA encI 1 3 (.slice d4 d.fPast.length f4) d.fPast :: rowA encI 1 3 (.slice d5 d.fFormer.length f5) d.fFormer :: rowA encI 1 3 (.slice d2 d.fOnce.length f2) d.fOnce :: boxA b2 6 48 (.agg #[.int .i64 d.fRoom, .int .i64 d.fGoal, .slice ao33 ((r :: d.fOnce).length) cp34, .slice d3 d.fOften.length f3, .slice d4 d.fPast.length f4, .slice d5 d.fFormer.length f5]) :: boxA b1 6 48 (.agg #[.int .i64 d.fRoom, .int .i64 d.fGoal, .slice ao33 ((r :: d.fOnce).length) cp34, .slice d3 d.fOften.length f3, .slice d4 d.fPast.length f4, .slice d5 d.fFormer.length f5]) :: F) _) := ⟨((((HS.out).pick 4 rfl).pick 4 rfl).pick 4 rfl).pick 3 rfl⟩
              have HT := (((HS.out.erase 6).erase 5).erase 4)
              have hpu : c.push = d := by unfold CacheD.push; rw [if_neg (by omega), if_pos (by omega), ← hd]
              have ha : c.ask r = ({ d with fOnce := r :: d.fOnce }, false) := by simp only [CacheD.ask, q2, q3, q4, q5, Bool.true_or, Bool.false_or, Bool.or_true, Bool.or_self, if_true, Bool.false_eq_true, if_false]; rw [hpu]
              rw [ha]; exact ⟨_, rfl, _, _, _, _, _, _, _, _, rfl, HT⟩
            · clear HF; have HF := HF1; clear HF1
              have cc6 := of_decide_eq_false cc6
              refine wc_false HF rfl ?_
              refine wp_region_lit ?_
              refine wl_y rfl HF rfl rfl (yl_fieldAddr (j := 2) rfl (HF.ev rfl) (by kernel_rfl)) ?_; clear HF; clear a; intro a HF
              refine wl_y rfl HF rfl rfl (yl_load (v := .slice a2 c.fOnce.length c2) rfl (HF.ev rfl) (((HS.out.box 1 rfl).cell 2).trans rfl) (by kernel_rfl)) ?_; clear HF; clear a; intro a HF
              refine wl_y rfl HF rfl rfl (yl_fieldAddr (j := 2) rfl (HF.ev rfl) (by kernel_rfl)) ?_; clear HF; clear a; intro a HF
              refine wl_y rfl HF rfl rfl (yl_load (v := .slice a2 c.fOnce.length c2) rfl (HF.ev rfl) (((HS.out.box 1 rfl).cell 2).trans rfl) (by kernel_rfl)) ?_; clear HF; clear a; intro a HF
              refine wl_y rfl HF rfl rfl (yl_lenL (e := 3) (size := 1) rfl (HF.ev rfl) (by kernel_rfl)) ?_; clear HF; clear a; intro a HF
              refine wl_y rfl HF rfl rfl (yl_subI (r := ((c.fOnce.length - 1 : Nat) : Int)) rfl (HF.ev rfl) (HF.ev rfl) ((i64w (by omega)).trans (by omega))) ?_; clear HF; clear a; intro a HF
              refine wl_y rfl HF rfl rfl (yl_sliceHi (e := 3) (size := 1) (k := c.fOnce.length - 1) rfl (HF.ev rfl) (HF.ev rfl) (by kernel_rfl) (by omega) (Nat.le_trans (by omega) (St.capLe HS.out 2 rfl))) ?_; clear HF; clear a; intro a HF
              replace HS := Bx.mk (HS.out.rowDrop encI_len 2 rfl)
              rw [show c.fOnce.length - 1 = c.fOnce.dropLast.length from List.length_dropLast.symm] at HF HS
              have HS : Bx (St w0 (boxA b2 6 48 (.agg #[.int .i64 0, .int .i64 0, .slice none 0 0, .slice none 0 0, .slice none 0 0, .slice none 0 0]) :: boxA b1 6 48 (.agg #[.int .i64 c.fRoom, .int .i64 c.fGoal, .slice a2 c.fOnce.length c2, .slice a3 c.fOften.length c3, .slice a4 c.fPast.length c4, .slice a5 c.fFormer.length c5]) :: rowA encI 1 3 (.slice a2 c.fOnce.dropLast.length c2) c.fOnce.dropLast :: rowA encI 1 3 (.slice a3 c.fOften.length c3) c.fOften :: rowA encI 1 3 (.slice a4 c.fPast.length c4) c.fPast :: rowA encI 1 3 (.slice a5 c.fFormer.length c5) c.fFormer :: F) _) := HS
              refine wl_y rfl HF rfl rfl (yl_fieldAddr (j := 2) rfl (HF.ev rfl) (by kernel_rfl)) ?_; clear HF; clear a; intro a HF
              refine wl_storeF rfl rfl rfl (HF.ev rfl) (HF.ev rfl) (by kernel_rfl) HS.out 1 rfl rfl rfl ?_; clear HS; intro w43 HS; replace HS := Bx.mk HS
              have HS : Bx (St w0 (boxA b2 6 48 (.agg #[.int .i64 0, .int .i64 0, .slice none 0 0, .slice none 0 0, .slice none 0 0, .slice none 0 0]) :: boxA b1 6 48 (.agg #[.int .i64 c.fRoom, .int .i64 c.fGoal, .slice a2 c.fOnce.dropLast.length c2, .slice a3 c.fOften.length c3, .slice a4 c.fPast.length c4, .slice a5 c.fFormer.length c5]) :: rowA encI 1 3 (.slice a2 c.fOnce.dropLast.length c2) c.fOnce.dropLast :: rowA encI 1 3 (.slice a3 c.fOften.length c3) c.fOften :: rowA encI 1 3 (.slice a4 c.fPast.length c4) c.fPast :: rowA encI 1 3 (.slice a5 c.fFormer.length c5) c.fFormer :: F) _) := HS
              refine wpList_nil ?_
              refine ex_then ?_
              refine wp_seq ?_
              refine wp_region_lit ?_
              refine wl_y rfl HF rfl rfl (yl_fieldAddr (j := 2) rfl (HF.ev rfl) (by kernel_rfl)) ?_; clear HF; clear a; intro a HF
              refine wl_y rfl HF rfl rfl (yl_load (v := .slice a2 c.fOnce.dropLast.length c2) rfl (HF.ev rfl) (((HS.out.box 1 rfl).cell 2).trans rfl) (by kernel_rfl)) ?_; clear HF; clear a; intro a HF
              refine wl_y rfl HF rfl rfl (yl_move rfl (HF.ev rfl)) ?_; clear HF; clear a; intro a HF
              refine wl_call rfl HF rfl (enter_of Try.func105 (by kernel_rfl) rfl) (args := #[.slice a2 c.fOnce.dropLast.length c2, .int .i64 r]) rfl (l27Front_any _ _ c.fOnce.dropLast r _ (by first | omega | (simp; omega)) (St.rdOf HS.out encI_len 2 rfl)) rfl rfl ?_
              rintro _ w44 ⟨ao36, cp37, rfl, hn⟩
              refine ⟨_, rfl, ?_⟩; replace HS := Bx.mk (HS.out.add hn); clear hn HF; clear a; intro a HF
              replace HS : Bx (St w0 (rowA encI 1 3 (.slice ao36 ((r :: c.fOnce.dropLast).length) cp37) (r :: c.fOnce.dropLast) :: boxA b2 6 48 (.agg #[.int .i64 0, .int .i64 0, .slice none 0 0, .slice none 0 0, .slice none 0 0, .slice none 0 0]) :: boxA b1 6 48 (.agg #[.int .i64 c.fRoom, .int .i64 c.fGoal, .slice a2 c.fOnce.dropLast.length c2, .slice a3 c.fOften.length c3, .slice a4 c.fPast.length c4, .slice a5 c.fFormer.length c5]) :: rowA encI 1 3 (.slice a2 c.fOnce.dropLast.length c2) c.fOnce.dropLast :: rowA encI 1 3 (.slice a3 c.fOften.length c3) c.fOften :: rowA encI 1 3 (.slice a4 c.fPast.length c4) c.fPast :: rowA encI 1 3 (.slice a5 c.fFormer.length c5) c.fFormer :: F) _) := ⟨HS.out⟩
              refine wl_y rfl HF rfl rfl (yl_fieldAddr (j := 2) rfl (HF.ev rfl) (by kernel_rfl)) ?_; clear HF; clear a; intro a HF
              refine wl_storeF rfl rfl rfl (HF.ev rfl) (HF.ev rfl) (by kernel_rfl) HS.out 2 rfl rfl rfl ?_; clear HS; intro w45 HS; replace HS := Bx.mk HS
              have HS : Bx (St w0 (rowA encI 1 3 (.slice ao36 ((r :: c.fOnce.dropLast).length) cp37) (r :: c.fOnce.dropLast) :: boxA b2 6 48 (.agg #[.int .i64 0, .int .i64 0, .slice none 0 0, .slice none 0 0, .slice none 0 0, .slice none 0 0]) :: boxA b1 6 48 (.agg #[.int .i64 c.fRoom, .int .i64 c.fGoal, .slice ao36 ((r :: c.fOnce.dropLast).length) cp37, .slice a3 c.fOften.length c3, .slice a4 c.fPast.length c4, .slice a5 c.fFormer.length c5]) :: rowA encI 1 3 (.slice a2 c.fOnce.dropLast.length c2) c.fOnce.dropLast :: rowA encI 1 3 (.slice a3 c.fOften.length c3) c.fOften :: rowA encI 1 3 (.slice a4 c.fPast.length c4) c.fPast :: rowA encI 1 3 (.slice a5 c.fFormer.length c5) c.fFormer :: F) _) := HS
              refine wpList_nil ?_
              refine ex_then ?_
              refine wp_seq ?_
              refine wp_region_lit ?_
              refine wl_y rfl HF rfl rfl (yl_loadR (cs := [.int .i64 c.fRoom, .int .i64 c.fGoal, .slice ao36 ((r :: c.fOnce.dropLast).length) cp37, .slice a3 c.fOften.length c3, .slice a4 c.fPast.length c4, .slice a5 c.fFormer.length c5]) rfl (HF.ev rfl) ((HS.out.box 2 rfl).sub 0 6) (by kernel_rfl)) ?_; clear HF; clear a; intro a HF
              refine wl_storeBox rfl HF rfl rfl (HF.ev rfl) (HF.ev rfl) HS.out 1 rfl (cells_lit [.int .i64 c.fRoom, .int .i64 c.fGoal, .slice ao36 ((r :: c.fOnce.dropLast).length) cp37, .slice a3 c.fOften.length c3, .slice a4 c.fPast.length c4, .slice a5 c.fFormer.length c5] rfl rfl) (by kernel_rfl) ?_; clear HS; intro w46 HS; replace HS := Bx.mk HS
              have HS : Bx (St w0 (rowA encI 1 3 (.slice ao36 ((r :: c.fOnce.dropLast).length) cp37) (r :: c.fOnce.dropLast) :: boxA b2 6 48 (.agg #[.int .i64 c.fRoom, .int .i64 c.fGoal, .slice ao36 ((r :: c.fOnce.dropLast).length) cp37, .slice a3 c.fOften.length c3, .slice a4 c.fPast.length c4, .slice a5 c.fFormer.length c5]) :: boxA b1 6 48 (.agg #[.int .i64 c.fRoom, .int .i64 c.fGoal, .slice ao36 ((r :: c.fOnce.dropLast).length) cp37, .slice a3 c.fOften.length c3, .slice a4 c.fPast.length c4, .slice a5 c.fFormer.length c5]) :: rowA encI 1 3 (.slice a2 c.fOnce.dropLast.length c2) c.fOnce.dropLast :: rowA encI 1 3 (.slice a3 c.fOften.length c3) c.fOften :: rowA encI 1 3 (.slice a4 c.fPast.length c4) c.fPast :: rowA encI 1 3 (.slice a5 c.fFormer.length c5) c.fFormer :: F) _) := HS
              refine wl_y rfl HF rfl rfl (yl_assign rfl (HF.ev rfl)) ?_; clear HF; clear a; intro a HF
              refine wpList_nil ?_
              refine ex_then ?_
              refine wp_ret ?_
              refine bp_ret2 HF Try.results60 (HF.resBox rfl (HS.out.box 1 rfl) (by kernel_rfl)) (HF.res rfl) ?_
              replace HS : Bx (St w0 (rowA encI 1 3 (.slice ao36 ((r :: c.fOnce.dropLast).length) cp37) (r :: c.fOnce.dropLast) :: rowA encI 1 3 (.slice a3 c.fOften.length c3) c.fOften :: rowA encI 1 3 (.slice a4 c.fPast.length c4) c.fPast :: rowA encI 1 3 (.slice a5 c.fFormer.length c5) c.fFormer :: boxA b2 6 48 (.agg #[.int .i64 c.fRoom, .int .i64 c.fGoal, .slice ao36 ((r :: c.fOnce.dropLast).length) cp37, .slice a3 c.fOften.length c3, .slice a4 c.fPast.length c4, .slice a5 c.fFormer.length c5]) :: boxA b1 6 48 (.agg #[.int .i64 c.fRoom, .int .i64 c.fGoal, .slice ao36 ((r :: c.fOnce.dropLast).length) cp37, .slice a3 c.fOften.length c3, .slice a4 c.fPast.length c4, .slice a5 c.fFormer.length c5]) :: rowA encI 1 3 (.slice a2 c.fOnce.dropLast.length c2) c.fOnce.dropLast :: F) _) := ⟨((((HS.out).pick 6 rfl).pick 6 rfl).pick 6 rfl).pick 3 rfl⟩
              have HT := (((HS.out.erase 6).erase 5).erase 4)
              have hpu : c.push = { c with fOnce := c.fOnce.dropLast } := by unfold CacheD.push; rw [if_neg (by omega), if_neg (by omega)]
              have ha : c.ask r = ({ c with fOnce := r :: c.fOnce.dropLast }, false) := by simp only [CacheD.ask, q2, q3, q4, q5, Bool.true_or, Bool.false_or, Bool.or_true, Bool.or_self, if_true, Bool.false_eq_true, if_false]; rw [hpu]
              rw [ha]; exact ⟨_, rfl, _, _, _, _, _, _, _, _, rfl, HT⟩
          · clear HF; have HF := HF1; clear HF1
            have cc5 := ne_of_beq_false cc5
            refine wc_false HF rfl ?_
            refine wp_seq ?_
            refine wp_seq ?_
            refine wp_region_lit ?_
            refine wl_y rfl HF rfl rfl (yl_fieldAddr (j := 2) rfl (HF.ev rfl) (by kernel_rfl)) ?_; clear HF; clear a; intro a HF
            refine wl_y rfl HF rfl rfl (yl_load (v := .slice a2 c.fOnce.length c2) rfl (HF.ev rfl) (((HS.out.box 1 rfl).cell 2).trans rfl) (by kernel_rfl)) ?_; clear HF; clear a; intro a HF
            refine wl_y rfl HF rfl rfl (yl_lenL (e := 3) (size := 1) rfl (HF.ev rfl) (by kernel_rfl)) ?_; clear HF; clear a; intro a HF
            refine wl_y rfl HF rfl rfl (yl_fieldAddr (j := 3) rfl (HF.ev rfl) (by kernel_rfl)) ?_; clear HF; clear a; intro a HF
            refine wl_y rfl HF rfl rfl (yl_load (v := .slice a3 c.fOften.length c3) rfl (HF.ev rfl) (((HS.out.box 1 rfl).cell 3).trans rfl) (by kernel_rfl)) ?_; clear HF; clear a; intro a HF
            refine wl_y rfl HF rfl rfl (yl_lenL (e := 3) (size := 1) rfl (HF.ev rfl) (by kernel_rfl)) ?_; clear HF; clear a; intro a HF
            refine wl_y rfl HF rfl rfl (yl_addI rfl (HF.ev rfl) (HF.ev rfl) (i64w (by omega))) ?_; clear HF; clear a; intro a HF
            refine wl_y rfl HF rfl rfl (yl_fieldAddr (j := 4) rfl (HF.ev rfl) (by kernel_rfl)) ?_; clear HF; clear a; intro a HF
            refine wl_y rfl HF rfl rfl (yl_load (v := .slice a4 c.fPast.length c4) rfl (HF.ev rfl) (((HS.out.box 1 rfl).cell 4).trans rfl) (by kernel_rfl)) ?_; clear HF; clear a; intro a HF
            refine wl_y rfl HF rfl rfl (yl_lenL (e := 3) (size := 1) rfl (HF.ev rfl) (by kernel_rfl)) ?_; clear HF; clear a; intro a HF
            refine wl_y rfl HF rfl rfl (yl_addI rfl (HF.ev rfl) (HF.ev rfl) (i64w (by omega))) ?_; clear HF; clear a; intro a HF
            refine wl_y rfl HF rfl rfl (yl_fieldAddr (j := 5) rfl (HF.ev rfl) (by kernel_rfl)) ?_; clear HF; clear a; intro a HF
            refine wl_y rfl HF rfl rfl (yl_load (v := .slice a5 c.fFormer.length c5) rfl (HF.ev rfl) (((HS.out.box 1 rfl).cell 5).trans rfl) (by kernel_rfl)) ?_; clear HF; clear a; intro a HF
            refine wl_y rfl HF rfl rfl (yl_lenL (e := 3) (size := 1) rfl (HF.ev rfl) (by kernel_rfl)) ?_; clear HF; clear a; intro a HF
            refine wl_y rfl HF rfl rfl (yl_addI rfl (HF.ev rfl) (HF.ev rfl) (i64w (by omega))) ?_; clear HF; clear a; intro a HF
            refine wl_y rfl HF rfl rfl (yl_fieldAddr (j := 0) rfl (HF.ev rfl) (by kernel_rfl)) ?_; clear HF; clear a; intro a HF
            refine wl_y rfl HF rfl rfl (yl_load (v := .int .i64 c.fRoom) rfl (HF.ev rfl) (((HS.out.box 1 rfl).cell 0).trans rfl) (by kernel_rfl)) ?_; clear HF; clear a; intro a HF
            refine wl_y rfl HF rfl rfl (yl_mulI rfl (HF.ev rfl) (HF.ev rfl) (i64w (by omega))) ?_; clear HF; clear a; intro a HF
            refine wl_y rfl HF rfl rfl (yl_eqlI rfl (HF.ev rfl) (HF.ev rfl)) ?_; clear HF; clear a; intro a HF
            refine wpList_nil ?_
            refine ex_then ?_
            refine HF.cases 144 rfl (fun cc7 HF1 => ?_) (fun cc7 HF1 => ?_)
            · clear HF; have HF := HF1; clear HF1
              have cc7 := eq_of_beq cc7
              refine wc_true HF rfl ?_
              refine wp_region_lit ?_
              refine wl_y rfl HF rfl rfl (yl_fieldAddr (j := 5) rfl (HF.ev rfl) (by kernel_rfl)) ?_; clear HF; clear a; intro a HF
              refine wl_y rfl HF rfl rfl (yl_load (v := .slice a5 c.fFormer.length c5) rfl (HF.ev rfl) (((HS.out.box 1 rfl).cell 5).trans rfl) (by kernel_rfl)) ?_; clear HF; clear a; intro a HF
              refine wl_y rfl HF rfl rfl (yl_fieldAddr (j := 5) rfl (HF.ev rfl) (by kernel_rfl)) ?_; clear HF; clear a; intro a HF
              refine wl_y rfl HF rfl rfl (yl_load (v := .slice a5 c.fFormer.length c5) rfl (HF.ev rfl) (((HS.out.box 1 rfl).cell 5).trans rfl) (by kernel_rfl)) ?_; clear HF; clear a; intro a HF
              refine wl_y rfl HF rfl rfl (yl_lenL (e := 3) (size := 1) rfl (HF.ev rfl) (by kernel_rfl)) ?_; clear HF; clear a; intro a HF
              refine wl_y rfl HF rfl rfl (yl_subI (r := ((c.fFormer.length - 1 : Nat) : Int)) rfl (HF.ev rfl) (HF.ev rfl) ((i64w (by omega)).trans (by omega))) ?_; clear HF; clear a; intro a HF
              refine wl_y rfl HF rfl rfl (yl_sliceHi (e := 3) (size := 1) (k := c.fFormer.length - 1) rfl (HF.ev rfl) (HF.ev rfl) (by kernel_rfl) (by omega) (Nat.le_trans (by omega) (St.capLe HS.out 5 rfl))) ?_; clear HF; clear a; intro a HF
              replace HS := Bx.mk (HS.out.rowDrop encI_len 5 rfl)
              rw [show c.fFormer.length - 1 = c.fFormer.dropLast.length from List.length_dropLast.symm] at HF HS
              have HS : Bx (St w0 (boxA b2 6 48 (.agg #[.int .i64 0, .int .i64 0, .slice none 0 0, .slice none 0 0, .slice none 0 0, .slice none 0 0]) :: boxA b1 6 48 (.agg #[.int .i64 c.fRoom, .int .i64 c.fGoal, .slice a2 c.fOnce.length c2, .slice a3 c.fOften.length c3, .slice a4 c.fPast.length c4, .slice a5 c.fFormer.length c5]) :: rowA encI 1 3 (.slice a2 c.fOnce.length c2) c.fOnce :: rowA encI 1 3 (.slice a3 c.fOften.length c3) c.fOften :: rowA encI 1 3 (.slice a4 c.fPast.length c4) c.fPast :: rowA encI 1 3 (.slice a5 c.fFormer.dropLast.length c5) c.fFormer.dropLast :: F) _) := HS
              refine wl_y rfl HF rfl rfl (yl_fieldAddr (j := 5) rfl (HF.ev rfl) (by kernel_rfl)) ?_; clear HF; clear a; intro a HF
              refine wl_storeF rfl rfl rfl (HF.ev rfl) (HF.ev rfl) (by kernel_rfl) HS.out 1 rfl rfl rfl ?_; clear HS; intro w47 HS; replace HS := Bx.mk HS
              have HS : Bx (St w0 (boxA b2 6 48 (.agg #[.int .i64 0, .int .i64 0, .slice none 0 0, .slice none 0 0, .slice none 0 0, .slice none 0 0]) :: boxA b1 6 48 (.agg #[.int .i64 c.fRoom, .int .i64 c.fGoal, .slice a2 c.fOnce.length c2, .slice a3 c.fOften.length c3, .slice a4 c.fPast.length c4, .slice a5 c.fFormer.dropLast.length c5]) :: rowA encI 1 3 (.slice a2 c.fOnce.length c2) c.fOnce :: rowA encI 1 3 (.slice a3 c.fOften.length c3) c.fOften :: rowA encI 1 3 (.slice a4 c.fPast.length c4) c.fPast :: rowA encI 1 3 (.slice a5 c.fFormer.dropLast.length c5) c.fFormer.dropLast :: F) _) := HS
              refine wpList_nil ?_
              refine ex_then ?_
              refine wp_region_lit ?_
              refine wl_y rfl HF rfl rfl (yl_loadR (cs := [.int .i64 c.fRoom, .int .i64 c.fGoal, .slice a2 c.fOnce.length c2, .slice a3 c.fOften.length c3, .slice a4 c.fPast.length c4, .slice a5 c.fFormer.dropLast.length c5]) rfl (HF.ev rfl) ((HS.out.box 1 rfl).sub 0 6) (by kernel_rfl)) ?_; clear HF; clear a; intro a HF
              replace HS : Bx (St w0 (rowA encI 1 3 (.slice a2 c.fOnce.length c2) c.fOnce :: rowA encI 1 3 (.slice a3 c.fOften.length c3) c.fOften :: rowA encI 1 3 (.slice a4 c.fPast.length c4) c.fPast :: rowA encI 1 3 (.slice a5 c.fFormer.dropLast.length c5) c.fFormer.dropLast :: boxA b2 6 48 (.agg #[.int .i64 0, .int .i64 0, .slice none 0 0, .slice none 0 0, .slice none 0 0, .slice none 0 0]) :: boxA b1 6 48 (.agg #[.int .i64 c.fRoom, .int .i64 c.fGoal, .slice a2 c.fOnce.length c2, .slice a3 c.fOften.length c3, .slice a4 c.fPast.length c4, .slice a5 c.fFormer.dropLast.length c5]) :: F) _) := ⟨((((HS.out).pick 5 rfl).pick 5 rfl).pick 5 rfl).pick 5 rfl⟩
              refine wl_call rfl HF rfl (enter_of Try.func106 (by kernel_rfl) rfl) (args := #[.agg #[.int .i64 c.fRoom, .int .i64 c.fGoal, .slice a2 c.fOnce.length c2, .slice a3 c.fOften.length c3, .slice a4 c.fPast.length c4, .slice a5 c.fFormer.dropLast.length c5], .bool false]) rfl (l27Way_any w0 _ _ _ _ _ _ _ _ _ ({ c with fFormer := c.fFormer.dropLast }) false _ (by first | omega | (simp; omega)) (by first | omega | (simp; omega)) (by first | omega | (simp; omega)) (by first | omega | (simp; omega)) (by first | omega | (simp; omega)) HS.out) rfl rfl ?_
              rintro _ w48 ⟨_, rfl, hv⟩
              have hdl := way_le ({ c with fFormer := c.fFormer.dropLast }) false; have hdm := way_le2 ({ c with fFormer := c.fFormer.dropLast }) false
              obtain ⟨d, hd⟩ : ∃ d : CacheD, d = CacheD.wayC ({ c with fFormer := c.fFormer.dropLast }) false := ⟨_, rfl⟩; rw [← hd] at hv hdl hdm; obtain ⟨d2, f2, d3, f3, d4, f4, d5, f5, rfl, hs1⟩ := hv
              have hd2 : d.fOnce.length ≤ 100 := Nat.le_trans hdl.1 (by first | omega | (simp; omega)); have hd3 : d.fOften.length ≤ 100 := Nat.le_trans hdl.2 (by first | omega | (simp; omega)); have hd4 : d.fPast.length ≤ 100 := Nat.le_trans hdm.1 (by first | omega | (simp; omega)); have hd5 : d.fFormer.length ≤ 100 := Nat.le_trans hdm.2 (by first | omega | (simp; omega)); clear hdl hdm
              refine ⟨_, rfl, ?_⟩; replace HS := Bx.mk hs1; clear hs1 HF; clear a; intro a HF
              replace HS : Bx (St w0 (rowA encI 1 3 (.slice d2 d.fOnce.length f2) d.fOnce :: rowA encI 1 3 (.slice d3 d.fOften.length f3) d.fOften :: rowA encI 1 3 (.slice d4 d.fPast.length f4) d.fPast :: rowA encI 1 3 (.slice d5 d.fFormer.length f5) d.fFormer :: boxA b2 6 48 (.agg #[.int .i64 0, .int .i64 0, .slice none 0 0, .slice none 0 0, .slice none 0 0, .slice none 0 0]) :: boxA b1 6 48 (.agg #[.int .i64 c.fRoom, .int .i64 c.fGoal, .slice a2 c.fOnce.length c2, .slice a3 c.fOften.length c3, .slice a4 c.fPast.length c4, .slice a5 c.fFormer.dropLast.length c5]) :: F) _) := ⟨HS.out⟩
              refine wl_storeBox rfl HF rfl rfl (HF.ev rfl) (HF.ev rfl) HS.out 5 rfl (cells_lit [.int .i64 d.fRoom, .int .i64 d.fGoal, .slice d2 d.fOnce.length f2, .slice d3 d.fOften.length f3, .slice d4 d.fPast.length f4, .slice d5 d.fFormer.length f5] rfl rfl) (by kernel_rfl) ?_; clear HS; intro w49 HS; replace HS := Bx.mk HS
              have HS : Bx (St w0 (rowA encI 1 3 (.slice d2 d.fOnce.length f2) d.fOnce :: rowA encI 1 3 (.slice d3 d.fOften.length f3) d.fOften :: rowA encI 1 3 (.slice d4 d.fPast.length f4) d.fPast :: rowA encI 1 3 (.slice d5 d.fFormer.length f5) d.fFormer :: boxA b2 6 48 (.agg #[.int .i64 0, .int .i64 0, .slice none 0 0, .slice none 0 0, .slice none 0 0, .slice none 0 0]) :: boxA b1 6 48 (.agg #[.int .i64 d.fRoom, .int .i64 d.fGoal, .slice d2 d.fOnce.length f2, .slice d3 d.fOften.length f3, .slice d4 d.fPast.length f4, .slice d5 d.fFormer.length f5]) :: F) _) := HS
              refine wpList_nil ?_
              refine ex_then ?_
              refine wp_seq ?_
              refine wp_region_lit ?_
              refine wl_y rfl HF rfl rfl (yl_fieldAddr (j := 2) rfl (HF.ev rfl) (by kernel_rfl)) ?_; clear HF; clear a; intro a HF
              refine wl_y rfl HF rfl rfl (yl_load (v := .slice d2 d.fOnce.length f2) rfl (HF.ev rfl) (((HS.out.box 5 rfl).cell 2).trans rfl) (by kernel_rfl)) ?_; clear HF; clear a; intro a HF
              refine wl_y rfl HF rfl rfl (yl_move rfl (HF.ev rfl)) ?_; clear HF; clear a; intro a HF
              refine wl_call rfl HF rfl (enter_of Try.func105 (by kernel_rfl) rfl) (args := #[.slice d2 d.fOnce.length f2, .int .i64 r]) rfl (l27Front_any _ _ d.fOnce r _ (by first | omega | (simp; omega)) (St.rdOf HS.out encI_len 0 rfl)) rfl rfl ?_
              rintro _ w50 ⟨ao39, cp40, rfl, hn⟩
              refine ⟨_, rfl, ?_⟩; replace HS := Bx.mk (HS.out.add hn); clear hn HF; clear a; intro a HF
              replace HS : Bx (St w0 (rowA encI 1 3 (.slice ao39 ((r :: d.fOnce).length) cp40) (r :: d.fOnce) :: rowA encI 1 3 (.slice d2 d.fOnce.length f2) d.fOnce :: rowA encI 1 3 (.slice d3 d.fOften.length f3) d.fOften :: rowA encI 1 3 (.slice d4 d.fPast.length f4) d.fPast :: rowA encI 1 3 (.slice d5 d.fFormer.length f5) d.fFormer :: boxA b2 6 48 (.agg #[.int .i64 0, .int .i64 0, .slice none 0 0, .slice none 0 0, .slice none 0 0, .slice none 0 0]) :: boxA b1 6 48 (.agg #[.int .i64 d.fRoom, .int .i64 d.fGoal, .slice d2 d.fOnce.length f2, .slice d3 d.fOften.length f3, .slice d4 d.fPast.length f4, .slice d5 d.fFormer.length f5]) :: F) _) := ⟨HS.out⟩
              refine wl_y rfl HF rfl rfl (yl_fieldAddr (j := 2) rfl (HF.ev rfl) (by kernel_rfl)) ?_; clear HF; clear a; intro a HF
              refine wl_storeF rfl rfl rfl (HF.ev rfl) (HF.ev rfl) (by kernel_rfl) HS.out 6 rfl rfl rfl ?_; clear HS; intro w51 HS; replace HS := Bx.mk HS
              have HS : Bx (St w0 (rowA encI 1 3 (.slice ao39 ((r :: d.fOnce).length) cp40) (r :: d.fOnce) :: rowA encI 1 3 (.slice d2 d.fOnce.length f2) d.fOnce :: rowA encI 1 3 (.slice d3 d.fOften.length f3) d.fOften :: rowA encI 1 3 (.slice d4 d.fPast.length f4) d.fPast :: rowA encI 1 3 (.slice d5 d.fFormer.length f5) d.fFormer :: boxA b2 6 48 (.agg #[.int .i64 0, .int .i64 0, .slice none 0 0, .slice none 0 0, .slice none 0 0, .slice none 0 0]) :: boxA b1 6 48 (.agg #[.int .i64 d.fRoom, .int .i64 d.fGoal, .slice ao39 ((r :: d.fOnce).length) cp40, .slice d3 d.fOften.length f3, .slice d4 d.fPast.length f4, .slice d5 d.fFormer.length f5]) :: F) _) := HS
              refine wpList_nil ?_
              refine ex_then ?_
              refine wp_seq ?_
              refine wp_region_lit ?_
              refine wl_y rfl HF rfl rfl (yl_loadR (cs := [.int .i64 d.fRoom, .int .i64 d.fGoal, .slice ao39 ((r :: d.fOnce).length) cp40, .slice d3 d.fOften.length f3, .slice d4 d.fPast.length f4, .slice d5 d.fFormer.length f5]) rfl (HF.ev rfl) ((HS.out.box 6 rfl).sub 0 6) (by kernel_rfl)) ?_; clear HF; clear a; intro a HF
              refine wl_storeBox rfl HF rfl rfl (HF.ev rfl) (HF.ev rfl) HS.out 5 rfl (cells_lit [.int .i64 d.fRoom, .int .i64 d.fGoal, .slice ao39 ((r :: d.fOnce).length) cp40, .slice d3 d.fOften.length f3, .slice d4 d.fPast.length f4, .slice d5 d.fFormer.length f5] rfl rfl) (by kernel_rfl) ?_; clear HS; intro w52 HS; replace HS := Bx.mk HS
              have HS : Bx (St w0 (rowA encI 1 3 (.slice ao39 ((r :: d.fOnce).length) cp40) (r :: d.fOnce) :: rowA encI 1 3 (.slice d2 d.fOnce.length f2) d.fOnce :: rowA encI 1 3 (.slice d3 d.fOften.length f3) d.fOften :: rowA encI 1 3 (.slice d4 d.fPast.length f4) d.fPast :: rowA encI 1 3 (.slice d5 d.fFormer.length f5) d.fFormer :: boxA b2 6 48 (.agg #[.int .i64 d.fRoom, .int .i64 d.fGoal, .slice ao39 ((r :: d.fOnce).length) cp40, .slice d3 d.fOften.length f3, .slice d4 d.fPast.length f4, .slice d5 d.fFormer.length f5]) :: boxA b1 6 48 (.agg #[.int .i64 d.fRoom, .int .i64 d.fGoal, .slice ao39 ((r :: d.fOnce).length) cp40, .slice d3 d.fOften.length f3, .slice d4 d.fPast.length f4, .slice d5 d.fFormer.length f5]) :: F) _) := HS
              refine wl_y rfl HF rfl rfl (yl_assign rfl (HF.ev rfl)) ?_; clear HF; clear a; intro a HF
              refine wpList_nil ?_
              refine ex_then ?_
              refine wp_ret ?_
              refine bp_ret2 HF Try.results60 (HF.resBox rfl (HS.out.box 5 rfl) (by kernel_rfl)) (HF.res rfl) ?_
              replace HS : Bx (St w0 (rowA encI 1 3 (.slice ao39 ((r :: d.fOnce).length) cp40) (r :: d.fOnce) :: rowA encI 1 3 (.slice d3 d.fOften.length f3) d.fOften :: rowA encI 1 3 (.slice d4 d.fPast.length f4) d.fPast :: rowA encI 1 3 (.slice d5 d.fFormer.length f5) d.fFormer :: rowA encI 1 3 (.slice d2 d.fOnce.length f2) d.fOnce :: boxA b2 6 48 (.agg #[.int .i64 d.fRoom, .int .i64 d.fGoal, .slice ao39 ((r :: d.fOnce).length) cp40, .slice d3 d.fOften.length f3, .slice d4 d.fPast.length f4, .slice d5 d.fFormer.length f5]) :: boxA b1 6 48 (.agg #[.int .i64 d.fRoom, .int .i64 d.fGoal, .slice ao39 ((r :: d.fOnce).length) cp40, .slice d3 d.fOften.length f3, .slice d4 d.fPast.length f4, .slice d5 d.fFormer.length f5]) :: F) _) := ⟨((((HS.out).pick 4 rfl).pick 4 rfl).pick 4 rfl).pick 3 rfl⟩
              have HT := (((HS.out.erase 6).erase 5).erase 4)
              have hpu : c.push = d := by unfold CacheD.push; rw [if_pos (by omega), if_pos (by rw [beq_iff_eq]; unfold CacheD.total; omega), ← hd]
              have ha : c.ask r = ({ d with fOnce := r :: d.fOnce }, false) := by simp only [CacheD.ask, q2, q3, q4, q5, Bool.true_or, Bool.false_or, Bool.or_true, Bool.or_self, if_true, Bool.false_eq_true, if_false]; rw [hpu]
              rw [ha]; exact ⟨_, rfl, _, _, _, _, _, _, _, _, rfl, HT⟩
            · clear HF; have HF := HF1; clear HF1
              have cc7 := ne_of_beq_false cc7
              refine wc_false HF rfl ?_
              refine wp_skip ?_
              refine ex_then ?_
              refine wp_region_lit ?_
              refine wl_y rfl HF rfl rfl (yl_loadR (cs := [.int .i64 c.fRoom, .int .i64 c.fGoal, .slice a2 c.fOnce.length c2, .slice a3 c.fOften.length c3, .slice a4 c.fPast.length c4, .slice a5 c.fFormer.length c5]) rfl (HF.ev rfl) ((HS.out.box 1 rfl).sub 0 6) (by kernel_rfl)) ?_; clear HF; clear a; intro a HF
              replace HS : Bx (St w0 (rowA encI 1 3 (.slice a2 c.fOnce.length c2) c.fOnce :: rowA encI 1 3 (.slice a3 c.fOften.length c3) c.fOften :: rowA encI 1 3 (.slice a4 c.fPast.length c4) c.fPast :: rowA encI 1 3 (.slice a5 c.fFormer.length c5) c.fFormer :: boxA b2 6 48 (.agg #[.int .i64 0, .int .i64 0, .slice none 0 0, .slice none 0 0, .slice none 0 0, .slice none 0 0]) :: boxA b1 6 48 (.agg #[.int .i64 c.fRoom, .int .i64 c.fGoal, .slice a2 c.fOnce.length c2, .slice a3 c.fOften.length c3, .slice a4 c.fPast.length c4, .slice a5 c.fFormer.length c5]) :: F) _) := ⟨((((HS.out).pick 5 rfl).pick 5 rfl).pick 5 rfl).pick 5 rfl⟩
              refine wl_call rfl HF rfl (enter_of Try.func106 (by kernel_rfl) rfl) (args := #[.agg #[.int .i64 c.fRoom, .int .i64 c.fGoal, .slice a2 c.fOnce.length c2, .slice a3 c.fOften.length c3, .slice a4 c.fPast.length c4, .slice a5 c.fFormer.length c5], .bool false]) rfl (l27Way_any w0 _ _ _ _ _ _ _ _ _ (c) false _ (by first | omega | (simp; omega)) (by first | omega | (simp; omega)) (by first | omega | (simp; omega)) (by first | omega | (simp; omega)) (by first | omega | (simp; omega)) HS.out) rfl rfl ?_
              rintro _ w53 ⟨_, rfl, hv⟩
              have hdl := way_le (c) false; have hdm := way_le2 (c) false
              obtain ⟨d, hd⟩ : ∃ d : CacheD, d = CacheD.wayC (c) false := ⟨_, rfl⟩; rw [← hd] at hv hdl hdm; obtain ⟨d2, f2, d3, f3, d4, f4, d5, f5, rfl, hs1⟩ := hv
              have hd2 : d.fOnce.length ≤ 100 := Nat.le_trans hdl.1 (by first | omega | (simp; omega)); have hd3 : d.fOften.length ≤ 100 := Nat.le_trans hdl.2 (by first | omega | (simp; omega)); have hd4 : d.fPast.length ≤ 100 := Nat.le_trans hdm.1 (by first | omega | (simp; omega)); have hd5 : d.fFormer.length ≤ 100 := Nat.le_trans hdm.2 (by first | omega | (simp; omega)); clear hdl hdm
              refine ⟨_, rfl, ?_⟩; replace HS := Bx.mk hs1; clear hs1 HF; clear a; intro a HF
              replace HS : Bx (St w0 (rowA encI 1 3 (.slice d2 d.fOnce.length f2) d.fOnce :: rowA encI 1 3 (.slice d3 d.fOften.length f3) d.fOften :: rowA encI 1 3 (.slice d4 d.fPast.length f4) d.fPast :: rowA encI 1 3 (.slice d5 d.fFormer.length f5) d.fFormer :: boxA b2 6 48 (.agg #[.int .i64 0, .int .i64 0, .slice none 0 0, .slice none 0 0, .slice none 0 0, .slice none 0 0]) :: boxA b1 6 48 (.agg #[.int .i64 c.fRoom, .int .i64 c.fGoal, .slice a2 c.fOnce.length c2, .slice a3 c.fOften.length c3, .slice a4 c.fPast.length c4, .slice a5 c.fFormer.length c5]) :: F) _) := ⟨HS.out⟩
              refine wl_storeBox rfl HF rfl rfl (HF.ev rfl) (HF.ev rfl) HS.out 5 rfl (cells_lit [.int .i64 d.fRoom, .int .i64 d.fGoal, .slice d2 d.fOnce.length f2, .slice d3 d.fOften.length f3, .slice d4 d.fPast.length f4, .slice d5 d.fFormer.length f5] rfl rfl) (by kernel_rfl) ?_; clear HS; intro w54 HS; replace HS := Bx.mk HS
              have HS : Bx (St w0 (rowA encI 1 3 (.slice d2 d.fOnce.length f2) d.fOnce :: rowA encI 1 3 (.slice d3 d.fOften.length f3) d.fOften :: rowA encI 1 3 (.slice d4 d.fPast.length f4) d.fPast :: rowA encI 1 3 (.slice d5 d.fFormer.length f5) d.fFormer :: boxA b2 6 48 (.agg #[.int .i64 0, .int .i64 0, .slice none 0 0, .slice none 0 0, .slice none 0 0, .slice none 0 0]) :: boxA b1 6 48 (.agg #[.int .i64 d.fRoom, .int .i64 d.fGoal, .slice d2 d.fOnce.length f2, .slice d3 d.fOften.length f3, .slice d4 d.fPast.length f4, .slice d5 d.fFormer.length f5]) :: F) _) := HS
              refine wpList_nil ?_
              refine ex_then ?_
              refine wp_seq ?_
              refine wp_region_lit ?_
              refine wl_y rfl HF rfl rfl (yl_fieldAddr (j := 2) rfl (HF.ev rfl) (by kernel_rfl)) ?_; clear HF; clear a; intro a HF
              refine wl_y rfl HF rfl rfl (yl_load (v := .slice d2 d.fOnce.length f2) rfl (HF.ev rfl) (((HS.out.box 5 rfl).cell 2).trans rfl) (by kernel_rfl)) ?_; clear HF; clear a; intro a HF
              refine wl_y rfl HF rfl rfl (yl_move rfl (HF.ev rfl)) ?_; clear HF; clear a; intro a HF
              refine wl_call rfl HF rfl (enter_of Try.func105 (by kernel_rfl) rfl) (args := #[.slice d2 d.fOnce.length f2, .int .i64 r]) rfl (l27Front_any _ _ d.fOnce r _ (by first | omega | (simp; omega)) (St.rdOf HS.out encI_len 0 rfl)) rfl rfl ?_
              rintro _ w55 ⟨ao42, cp43, rfl, hn⟩
              refine ⟨_, rfl, ?_⟩; replace HS := Bx.mk (HS.out.add hn); clear hn HF; clear a; intro a HF
              replace HS : Bx (St w0 (rowA encI 1 3 (.slice ao42 ((r :: d.fOnce).length) cp43) (r :: d.fOnce) :: rowA encI 1 3 (.slice d2 d.fOnce.length f2) d.fOnce :: rowA encI 1 3 (.slice d3 d.fOften.length f3) d.fOften :: rowA encI 1 3 (.slice d4 d.fPast.length f4) d.fPast :: rowA encI 1 3 (.slice d5 d.fFormer.length f5) d.fFormer :: boxA b2 6 48 (.agg #[.int .i64 0, .int .i64 0, .slice none 0 0, .slice none 0 0, .slice none 0 0, .slice none 0 0]) :: boxA b1 6 48 (.agg #[.int .i64 d.fRoom, .int .i64 d.fGoal, .slice d2 d.fOnce.length f2, .slice d3 d.fOften.length f3, .slice d4 d.fPast.length f4, .slice d5 d.fFormer.length f5]) :: F) _) := ⟨HS.out⟩
              refine wl_y rfl HF rfl rfl (yl_fieldAddr (j := 2) rfl (HF.ev rfl) (by kernel_rfl)) ?_; clear HF; clear a; intro a HF
              refine wl_storeF rfl rfl rfl (HF.ev rfl) (HF.ev rfl) (by kernel_rfl) HS.out 6 rfl rfl rfl ?_; clear HS; intro w56 HS; replace HS := Bx.mk HS
              have HS : Bx (St w0 (rowA encI 1 3 (.slice ao42 ((r :: d.fOnce).length) cp43) (r :: d.fOnce) :: rowA encI 1 3 (.slice d2 d.fOnce.length f2) d.fOnce :: rowA encI 1 3 (.slice d3 d.fOften.length f3) d.fOften :: rowA encI 1 3 (.slice d4 d.fPast.length f4) d.fPast :: rowA encI 1 3 (.slice d5 d.fFormer.length f5) d.fFormer :: boxA b2 6 48 (.agg #[.int .i64 0, .int .i64 0, .slice none 0 0, .slice none 0 0, .slice none 0 0, .slice none 0 0]) :: boxA b1 6 48 (.agg #[.int .i64 d.fRoom, .int .i64 d.fGoal, .slice ao42 ((r :: d.fOnce).length) cp43, .slice d3 d.fOften.length f3, .slice d4 d.fPast.length f4, .slice d5 d.fFormer.length f5]) :: F) _) := HS
              refine wpList_nil ?_
              refine ex_then ?_
              refine wp_seq ?_
              refine wp_region_lit ?_
              refine wl_y rfl HF rfl rfl (yl_loadR (cs := [.int .i64 d.fRoom, .int .i64 d.fGoal, .slice ao42 ((r :: d.fOnce).length) cp43, .slice d3 d.fOften.length f3, .slice d4 d.fPast.length f4, .slice d5 d.fFormer.length f5]) rfl (HF.ev rfl) ((HS.out.box 6 rfl).sub 0 6) (by kernel_rfl)) ?_; clear HF; clear a; intro a HF
              refine wl_storeBox rfl HF rfl rfl (HF.ev rfl) (HF.ev rfl) HS.out 5 rfl (cells_lit [.int .i64 d.fRoom, .int .i64 d.fGoal, .slice ao42 ((r :: d.fOnce).length) cp43, .slice d3 d.fOften.length f3, .slice d4 d.fPast.length f4, .slice d5 d.fFormer.length f5] rfl rfl) (by kernel_rfl) ?_; clear HS; intro w57 HS; replace HS := Bx.mk HS
              have HS : Bx (St w0 (rowA encI 1 3 (.slice ao42 ((r :: d.fOnce).length) cp43) (r :: d.fOnce) :: rowA encI 1 3 (.slice d2 d.fOnce.length f2) d.fOnce :: rowA encI 1 3 (.slice d3 d.fOften.length f3) d.fOften :: rowA encI 1 3 (.slice d4 d.fPast.length f4) d.fPast :: rowA encI 1 3 (.slice d5 d.fFormer.length f5) d.fFormer :: boxA b2 6 48 (.agg #[.int .i64 d.fRoom, .int .i64 d.fGoal, .slice ao42 ((r :: d.fOnce).length) cp43, .slice d3 d.fOften.length f3, .slice d4 d.fPast.length f4, .slice d5 d.fFormer.length f5]) :: boxA b1 6 48 (.agg #[.int .i64 d.fRoom, .int .i64 d.fGoal, .slice ao42 ((r :: d.fOnce).length) cp43, .slice d3 d.fOften.length f3, .slice d4 d.fPast.length f4, .slice d5 d.fFormer.length f5]) :: F) _) := HS
              refine wl_y rfl HF rfl rfl (yl_assign rfl (HF.ev rfl)) ?_; clear HF; clear a; intro a HF
              refine wpList_nil ?_
              refine ex_then ?_
              refine wp_ret ?_
              refine bp_ret2 HF Try.results60 (HF.resBox rfl (HS.out.box 5 rfl) (by kernel_rfl)) (HF.res rfl) ?_
              replace HS : Bx (St w0 (rowA encI 1 3 (.slice ao42 ((r :: d.fOnce).length) cp43) (r :: d.fOnce) :: rowA encI 1 3 (.slice d3 d.fOften.length f3) d.fOften :: rowA encI 1 3 (.slice d4 d.fPast.length f4) d.fPast :: rowA encI 1 3 (.slice d5 d.fFormer.length f5) d.fFormer :: rowA encI 1 3 (.slice d2 d.fOnce.length f2) d.fOnce :: boxA b2 6 48 (.agg #[.int .i64 d.fRoom, .int .i64 d.fGoal, .slice ao42 ((r :: d.fOnce).length) cp43, .slice d3 d.fOften.length f3, .slice d4 d.fPast.length f4, .slice d5 d.fFormer.length f5]) :: boxA b1 6 48 (.agg #[.int .i64 d.fRoom, .int .i64 d.fGoal, .slice ao42 ((r :: d.fOnce).length) cp43, .slice d3 d.fOften.length f3, .slice d4 d.fPast.length f4, .slice d5 d.fFormer.length f5]) :: F) _) := ⟨((((HS.out).pick 4 rfl).pick 4 rfl).pick 4 rfl).pick 3 rfl⟩
              have HT := (((HS.out.erase 6).erase 5).erase 4)
              have hpu : c.push = d := by unfold CacheD.push; rw [if_pos (by omega), if_neg (by rw [beq_iff_eq]; unfold CacheD.total; omega), ← hd]
              have ha : c.ask r = ({ d with fOnce := r :: d.fOnce }, false) := by simp only [CacheD.ask, q2, q3, q4, q5, Bool.true_or, Bool.false_or, Bool.or_true, Bool.or_self, if_true, Bool.false_eq_true, if_false]; rw [hpu]
              rw [ha]; exact ⟨_, rfl, _, _, _, _, _, _, _, _, rfl, HT⟩

end Go.Proofs.Ytkgmilobmbeplaa
