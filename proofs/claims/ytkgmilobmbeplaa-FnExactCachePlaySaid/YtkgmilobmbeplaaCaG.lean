/- The cache, walked: l27Copy, l27Less, l27Front, l27Way of the reference. -/
import Derived.Test.YtkgmilobmbeplaaCaE
namespace Go.Proofs.Ytkgmilobmbeplaa
open Go.RowKit

theorem less_step {xs : List Int} {r : Int} {k : Nat} (hk : k < xs.length) : less (xs.take (k + 1)) r = if (xs.getD k 0 != r) = true then less (xs.take k) r ++ [xs.getD k 0] else less (xs.take k) r := by
  have hg : xs.getD k 0 = xs[k] := by simp [List.getD, hk]
  unfold less
  rw [List.take_succ_eq_append_getElem hk, List.filter_append, hg]
  by_cases hx : xs[k] = r
  · simp [hx]
  · simp [hx]
theorem less_le (xs : List Int) (r : Int) (k : Nat) : (less (xs.take k) r).length ≤ xs.length := by
  unfold less
  refine Nat.le_trans (List.length_filter_le _ _) ?_
  rw [List.length_take]; omega
/-- A cache as a value, its rows beside it. -/
def CacheV (w0 : World) (v : Value) (c : CacheD) (F : List Asr) (w : World) : Prop :=
  ∃ (a2 : Option Addr) (c2 : Nat) (a3 : Option Addr) (c3 : Nat) (a4 : Option Addr) (c4 : Nat) (a5 : Option Addr) (c5 : Nat), v = .agg #[.int .i64 c.fRoom, .int .i64 c.fGoal, .slice a2 c.fOnce.length c2, .slice a3 c.fOften.length c3, .slice a4 c.fPast.length c4, .slice a5 c.fFormer.length c5] ∧ St w0 (rowA encI 1 3 (.slice a2 c.fOnce.length c2) c.fOnce :: rowA encI 1 3 (.slice a3 c.fOften.length c3) c.fOften :: rowA encI 1 3 (.slice a4 c.fPast.length c4) c.fPast :: rowA encI 1 3 (.slice a5 c.fFormer.length c5) c.fFormer :: F) w

set_option maxHeartbeats 1000000 in
set_option maxRecDepth 100000 in
theorem l27Copy_any (v : Value) (c : CacheD) (w0 : World) (hr : CacheD.Reads w0 v c) (hf : c.Fit) : Calls Try.prog 58 #[v] w0 fun e w' => ∃ v', e = .returned v' ∧ CacheD.Own w' w0.heap.size w'.heap.size v' c ∧ Below w0.heap.size w0 w' := by
  obtain ⟨a2, c2, a3, c3, a4, c4, a5, c5, rfl, r2, r3, r4, r5⟩ := hr
  have hf2 := hf.f2; have hf3 := hf.f3; have hf4 := hf.f4; have hf5 := hf.f5
  have R2 := Bx.mk r2; clear r2
  have R3 := Bx.mk r3; clear r3
  have R4 := Bx.mk r4; clear r4
  have R5 := Bx.mk r5; clear r5
  have HS := Bx.mk (St.start w0)
  refine wc_enter Try.func58 rfl Try.ntmps58 [(0, .agg #[.int .i64 c.fRoom, .int .i64 c.fGoal, .slice a2 c.fOnce.length c2, .slice a3 c.fOften.length c3, .slice a4 c.fPast.length c4, .slice a5 c.fFormer.length c5])] ⟨rfl, trivial⟩ rfl ?_; intro a HF
  refine wp_seq ?_
  refine wp_region_lit ?_
  refine wl_box rfl HF rfl (HF.ev rfl) (Z := [.int .i64 c.fRoom, .int .i64 c.fGoal, .slice a2 c.fOnce.length c2, .slice a3 c.fOften.length c3, .slice a4 c.fPast.length c4, .slice a5 c.fFormer.length c5]) rfl rfl rfl rfl HS.out ?_; clear HF HS; clear a; intro a w1 b1 HF HS; replace HS := Bx.mk HS
  refine wl_alloc rfl HF rfl rfl rfl (Z := [.int .i64 0, .int .i64 0, .slice none 0 0, .slice none 0 0, .slice none 0 0, .slice none 0 0]) (by kernel_rfl) rfl HS.out ?_; clear HF HS; clear a; intro a w2 b2 HF HS; replace HS := Bx.mk HS
  refine wpList_nil ?_
  refine ex_then ?_
  refine wp_seq ?_
  refine wp_region_lit ?_
  refine wl_empty (e := 3) (size := 1) rfl HF rfl rfl rfl (by kernel_rfl) HS.out ?_; clear HF HS; clear a; intro a w3 b3 HF HS; replace HS := Bx.mk HS
  refine wl_y rfl HF rfl rfl (yl_fieldAddr (j := 2) rfl (HF.ev rfl) (by kernel_rfl)) ?_; clear HF; clear a; intro a HF
  refine wl_y rfl HF rfl rfl (yl_load (v := .slice a2 c.fOnce.length c2) rfl (HF.ev rfl) (((HS.out.box 1 rfl).cell 2).trans rfl) (by kernel_rfl)) ?_; clear HF; clear a; intro a HF
  replace HS := Bx.mk (HS.out.nilRow encI 1 3 (some ⟨b3, 0, none⟩))
  refine wl_appL rfl HF rfl rfl rfl (HF.ev rfl) (HF.ev rfl) elemI encI_len HS.out 0 (xs := []) rfl (ys := c.fOnce) (R2.out.below HS.out.bel) (cells_one_I _) (by unfold maxLen; simp only [List.length_nil]; omega) (by simp only [List.length_nil]; omega) ?_; clear HF HS; clear a; intro ao5 cp6 w4 a HF HS; replace HS := Bx.mk HS
  replace HS : Bx (St w0 ([rowA encI 1 3 (.slice ao5 (([]).length + c.fOnce.length) cp6) (([]) ++ c.fOnce), boxA b2 6 48 (.agg #[.int .i64 0, .int .i64 0, .slice none 0 0, .slice none 0 0, .slice none 0 0, .slice none 0 0]), boxA b1 6 48 (.agg #[.int .i64 c.fRoom, .int .i64 c.fGoal, .slice a2 c.fOnce.length c2, .slice a3 c.fOften.length c3, .slice a4 c.fPast.length c4, .slice a5 c.fFormer.length c5])]) _) := ⟨HS.out⟩
  have hz : ([] : List Int).length + c.fOnce.length = c.fOnce.length := Nat.zero_add _
  rw [hz] at HF; rw [hz, List.nil_append] at HS; clear hz
  replace HS : Bx (St w0 ([rowA encI 1 3 (.slice ao5 c.fOnce.length cp6) c.fOnce, boxA b2 6 48 (.agg #[.int .i64 0, .int .i64 0, .slice none 0 0, .slice none 0 0, .slice none 0 0, .slice none 0 0]), boxA b1 6 48 (.agg #[.int .i64 c.fRoom, .int .i64 c.fGoal, .slice a2 c.fOnce.length c2, .slice a3 c.fOften.length c3, .slice a4 c.fPast.length c4, .slice a5 c.fFormer.length c5])]) _) := ⟨HS.out⟩
  refine wl_y rfl HF rfl rfl (yl_fieldAddr (j := 2) rfl (HF.ev rfl) (by kernel_rfl)) ?_; clear HF; clear a; intro a HF
  refine wl_storeF rfl rfl rfl (HF.ev rfl) (HF.ev rfl) (by kernel_rfl) HS.out 2 rfl rfl rfl ?_; clear HS; intro w5 HS; replace HS := Bx.mk HS
  have HS : Bx (St w0 ([rowA encI 1 3 (.slice ao5 c.fOnce.length cp6) c.fOnce, boxA b2 6 48 (.agg #[.int .i64 0, .int .i64 0, .slice none 0 0, .slice none 0 0, .slice none 0 0, .slice none 0 0]), boxA b1 6 48 (.agg #[.int .i64 c.fRoom, .int .i64 c.fGoal, .slice ao5 c.fOnce.length cp6, .slice a3 c.fOften.length c3, .slice a4 c.fPast.length c4, .slice a5 c.fFormer.length c5])]) _) := HS
  refine wpList_nil ?_
  refine ex_then ?_
  refine wp_seq ?_
  refine wp_region_lit ?_
  refine wl_empty (e := 3) (size := 1) rfl HF rfl rfl rfl (by kernel_rfl) HS.out ?_; clear HF HS; clear a; intro a w6 b7 HF HS; replace HS := Bx.mk HS
  refine wl_y rfl HF rfl rfl (yl_fieldAddr (j := 3) rfl (HF.ev rfl) (by kernel_rfl)) ?_; clear HF; clear a; intro a HF
  refine wl_y rfl HF rfl rfl (yl_load (v := .slice a3 c.fOften.length c3) rfl (HF.ev rfl) (((HS.out.box 2 rfl).cell 3).trans rfl) (by kernel_rfl)) ?_; clear HF; clear a; intro a HF
  replace HS := Bx.mk (HS.out.nilRow encI 1 3 (some ⟨b7, 0, none⟩))
  refine wl_appL rfl HF rfl rfl rfl (HF.ev rfl) (HF.ev rfl) elemI encI_len HS.out 0 (xs := []) rfl (ys := c.fOften) (R3.out.below HS.out.bel) (cells_one_I _) (by unfold maxLen; simp only [List.length_nil]; omega) (by simp only [List.length_nil]; omega) ?_; clear HF HS; clear a; intro ao9 cp10 w7 a HF HS; replace HS := Bx.mk HS
  replace HS : Bx (St w0 ([rowA encI 1 3 (.slice ao9 (([]).length + c.fOften.length) cp10) (([]) ++ c.fOften), rowA encI 1 3 (.slice ao5 c.fOnce.length cp6) c.fOnce, boxA b2 6 48 (.agg #[.int .i64 0, .int .i64 0, .slice none 0 0, .slice none 0 0, .slice none 0 0, .slice none 0 0]), boxA b1 6 48 (.agg #[.int .i64 c.fRoom, .int .i64 c.fGoal, .slice ao5 c.fOnce.length cp6, .slice a3 c.fOften.length c3, .slice a4 c.fPast.length c4, .slice a5 c.fFormer.length c5])]) _) := ⟨HS.out⟩
  have hz : ([] : List Int).length + c.fOften.length = c.fOften.length := Nat.zero_add _
  rw [hz] at HF; rw [hz, List.nil_append] at HS; clear hz
  replace HS : Bx (St w0 ([rowA encI 1 3 (.slice ao9 c.fOften.length cp10) c.fOften, rowA encI 1 3 (.slice ao5 c.fOnce.length cp6) c.fOnce, boxA b2 6 48 (.agg #[.int .i64 0, .int .i64 0, .slice none 0 0, .slice none 0 0, .slice none 0 0, .slice none 0 0]), boxA b1 6 48 (.agg #[.int .i64 c.fRoom, .int .i64 c.fGoal, .slice ao5 c.fOnce.length cp6, .slice a3 c.fOften.length c3, .slice a4 c.fPast.length c4, .slice a5 c.fFormer.length c5])]) _) := ⟨HS.out⟩
  refine wl_y rfl HF rfl rfl (yl_fieldAddr (j := 3) rfl (HF.ev rfl) (by kernel_rfl)) ?_; clear HF; clear a; intro a HF
  refine wl_storeF rfl rfl rfl (HF.ev rfl) (HF.ev rfl) (by kernel_rfl) HS.out 3 rfl rfl rfl ?_; clear HS; intro w8 HS; replace HS := Bx.mk HS
  have HS : Bx (St w0 ([rowA encI 1 3 (.slice ao9 c.fOften.length cp10) c.fOften, rowA encI 1 3 (.slice ao5 c.fOnce.length cp6) c.fOnce, boxA b2 6 48 (.agg #[.int .i64 0, .int .i64 0, .slice none 0 0, .slice none 0 0, .slice none 0 0, .slice none 0 0]), boxA b1 6 48 (.agg #[.int .i64 c.fRoom, .int .i64 c.fGoal, .slice ao5 c.fOnce.length cp6, .slice ao9 c.fOften.length cp10, .slice a4 c.fPast.length c4, .slice a5 c.fFormer.length c5])]) _) := HS
  refine wpList_nil ?_
  refine ex_then ?_
  refine wp_seq ?_
  refine wp_region_lit ?_
  refine wl_empty (e := 3) (size := 1) rfl HF rfl rfl rfl (by kernel_rfl) HS.out ?_; clear HF HS; clear a; intro a w9 b11 HF HS; replace HS := Bx.mk HS
  refine wl_y rfl HF rfl rfl (yl_fieldAddr (j := 4) rfl (HF.ev rfl) (by kernel_rfl)) ?_; clear HF; clear a; intro a HF
  refine wl_y rfl HF rfl rfl (yl_load (v := .slice a4 c.fPast.length c4) rfl (HF.ev rfl) (((HS.out.box 3 rfl).cell 4).trans rfl) (by kernel_rfl)) ?_; clear HF; clear a; intro a HF
  replace HS := Bx.mk (HS.out.nilRow encI 1 3 (some ⟨b11, 0, none⟩))
  refine wl_appL rfl HF rfl rfl rfl (HF.ev rfl) (HF.ev rfl) elemI encI_len HS.out 0 (xs := []) rfl (ys := c.fPast) (R4.out.below HS.out.bel) (cells_one_I _) (by unfold maxLen; simp only [List.length_nil]; omega) (by simp only [List.length_nil]; omega) ?_; clear HF HS; clear a; intro ao13 cp14 w10 a HF HS; replace HS := Bx.mk HS
  replace HS : Bx (St w0 ([rowA encI 1 3 (.slice ao13 (([]).length + c.fPast.length) cp14) (([]) ++ c.fPast), rowA encI 1 3 (.slice ao9 c.fOften.length cp10) c.fOften, rowA encI 1 3 (.slice ao5 c.fOnce.length cp6) c.fOnce, boxA b2 6 48 (.agg #[.int .i64 0, .int .i64 0, .slice none 0 0, .slice none 0 0, .slice none 0 0, .slice none 0 0]), boxA b1 6 48 (.agg #[.int .i64 c.fRoom, .int .i64 c.fGoal, .slice ao5 c.fOnce.length cp6, .slice ao9 c.fOften.length cp10, .slice a4 c.fPast.length c4, .slice a5 c.fFormer.length c5])]) _) := ⟨HS.out⟩
  have hz : ([] : List Int).length + c.fPast.length = c.fPast.length := Nat.zero_add _
  rw [hz] at HF; rw [hz, List.nil_append] at HS; clear hz
  replace HS : Bx (St w0 ([rowA encI 1 3 (.slice ao13 c.fPast.length cp14) c.fPast, rowA encI 1 3 (.slice ao9 c.fOften.length cp10) c.fOften, rowA encI 1 3 (.slice ao5 c.fOnce.length cp6) c.fOnce, boxA b2 6 48 (.agg #[.int .i64 0, .int .i64 0, .slice none 0 0, .slice none 0 0, .slice none 0 0, .slice none 0 0]), boxA b1 6 48 (.agg #[.int .i64 c.fRoom, .int .i64 c.fGoal, .slice ao5 c.fOnce.length cp6, .slice ao9 c.fOften.length cp10, .slice a4 c.fPast.length c4, .slice a5 c.fFormer.length c5])]) _) := ⟨HS.out⟩
  refine wl_y rfl HF rfl rfl (yl_fieldAddr (j := 4) rfl (HF.ev rfl) (by kernel_rfl)) ?_; clear HF; clear a; intro a HF
  refine wl_storeF rfl rfl rfl (HF.ev rfl) (HF.ev rfl) (by kernel_rfl) HS.out 4 rfl rfl rfl ?_; clear HS; intro w11 HS; replace HS := Bx.mk HS
  have HS : Bx (St w0 ([rowA encI 1 3 (.slice ao13 c.fPast.length cp14) c.fPast, rowA encI 1 3 (.slice ao9 c.fOften.length cp10) c.fOften, rowA encI 1 3 (.slice ao5 c.fOnce.length cp6) c.fOnce, boxA b2 6 48 (.agg #[.int .i64 0, .int .i64 0, .slice none 0 0, .slice none 0 0, .slice none 0 0, .slice none 0 0]), boxA b1 6 48 (.agg #[.int .i64 c.fRoom, .int .i64 c.fGoal, .slice ao5 c.fOnce.length cp6, .slice ao9 c.fOften.length cp10, .slice ao13 c.fPast.length cp14, .slice a5 c.fFormer.length c5])]) _) := HS
  refine wpList_nil ?_
  refine ex_then ?_
  refine wp_seq ?_
  refine wp_region_lit ?_
  refine wl_empty (e := 3) (size := 1) rfl HF rfl rfl rfl (by kernel_rfl) HS.out ?_; clear HF HS; clear a; intro a w12 b15 HF HS; replace HS := Bx.mk HS
  refine wl_y rfl HF rfl rfl (yl_fieldAddr (j := 5) rfl (HF.ev rfl) (by kernel_rfl)) ?_; clear HF; clear a; intro a HF
  refine wl_y rfl HF rfl rfl (yl_load (v := .slice a5 c.fFormer.length c5) rfl (HF.ev rfl) (((HS.out.box 4 rfl).cell 5).trans rfl) (by kernel_rfl)) ?_; clear HF; clear a; intro a HF
  replace HS := Bx.mk (HS.out.nilRow encI 1 3 (some ⟨b15, 0, none⟩))
  refine wl_appL rfl HF rfl rfl rfl (HF.ev rfl) (HF.ev rfl) elemI encI_len HS.out 0 (xs := []) rfl (ys := c.fFormer) (R5.out.below HS.out.bel) (cells_one_I _) (by unfold maxLen; simp only [List.length_nil]; omega) (by simp only [List.length_nil]; omega) ?_; clear HF HS; clear a; intro ao17 cp18 w13 a HF HS; replace HS := Bx.mk HS
  replace HS : Bx (St w0 ([rowA encI 1 3 (.slice ao17 (([]).length + c.fFormer.length) cp18) (([]) ++ c.fFormer), rowA encI 1 3 (.slice ao13 c.fPast.length cp14) c.fPast, rowA encI 1 3 (.slice ao9 c.fOften.length cp10) c.fOften, rowA encI 1 3 (.slice ao5 c.fOnce.length cp6) c.fOnce, boxA b2 6 48 (.agg #[.int .i64 0, .int .i64 0, .slice none 0 0, .slice none 0 0, .slice none 0 0, .slice none 0 0]), boxA b1 6 48 (.agg #[.int .i64 c.fRoom, .int .i64 c.fGoal, .slice ao5 c.fOnce.length cp6, .slice ao9 c.fOften.length cp10, .slice ao13 c.fPast.length cp14, .slice a5 c.fFormer.length c5])]) _) := ⟨HS.out⟩
  have hz : ([] : List Int).length + c.fFormer.length = c.fFormer.length := Nat.zero_add _
  rw [hz] at HF; rw [hz, List.nil_append] at HS; clear hz
  replace HS : Bx (St w0 ([rowA encI 1 3 (.slice ao17 c.fFormer.length cp18) c.fFormer, rowA encI 1 3 (.slice ao13 c.fPast.length cp14) c.fPast, rowA encI 1 3 (.slice ao9 c.fOften.length cp10) c.fOften, rowA encI 1 3 (.slice ao5 c.fOnce.length cp6) c.fOnce, boxA b2 6 48 (.agg #[.int .i64 0, .int .i64 0, .slice none 0 0, .slice none 0 0, .slice none 0 0, .slice none 0 0]), boxA b1 6 48 (.agg #[.int .i64 c.fRoom, .int .i64 c.fGoal, .slice ao5 c.fOnce.length cp6, .slice ao9 c.fOften.length cp10, .slice ao13 c.fPast.length cp14, .slice a5 c.fFormer.length c5])]) _) := ⟨HS.out⟩
  refine wl_y rfl HF rfl rfl (yl_fieldAddr (j := 5) rfl (HF.ev rfl) (by kernel_rfl)) ?_; clear HF; clear a; intro a HF
  refine wl_storeF rfl rfl rfl (HF.ev rfl) (HF.ev rfl) (by kernel_rfl) HS.out 5 rfl rfl rfl ?_; clear HS; intro w14 HS; replace HS := Bx.mk HS
  have HS : Bx (St w0 ([rowA encI 1 3 (.slice ao17 c.fFormer.length cp18) c.fFormer, rowA encI 1 3 (.slice ao13 c.fPast.length cp14) c.fPast, rowA encI 1 3 (.slice ao9 c.fOften.length cp10) c.fOften, rowA encI 1 3 (.slice ao5 c.fOnce.length cp6) c.fOnce, boxA b2 6 48 (.agg #[.int .i64 0, .int .i64 0, .slice none 0 0, .slice none 0 0, .slice none 0 0, .slice none 0 0]), boxA b1 6 48 (.agg #[.int .i64 c.fRoom, .int .i64 c.fGoal, .slice ao5 c.fOnce.length cp6, .slice ao9 c.fOften.length cp10, .slice ao13 c.fPast.length cp14, .slice ao17 c.fFormer.length cp18])]) _) := HS
  refine wpList_nil ?_
  refine ex_then ?_
  refine wp_seq ?_
  refine wp_region_lit ?_
  refine wl_y rfl HF rfl rfl (yl_loadR (cs := [.int .i64 c.fRoom, .int .i64 c.fGoal, .slice ao5 c.fOnce.length cp6, .slice ao9 c.fOften.length cp10, .slice ao13 c.fPast.length cp14, .slice ao17 c.fFormer.length cp18]) rfl (HF.ev rfl) ((HS.out.box 5 rfl).sub 0 6) (by kernel_rfl)) ?_; clear HF; clear a; intro a HF
  refine wl_storeBox rfl HF rfl rfl (HF.ev rfl) (HF.ev rfl) HS.out 4 rfl (cells_lit [.int .i64 c.fRoom, .int .i64 c.fGoal, .slice ao5 c.fOnce.length cp6, .slice ao9 c.fOften.length cp10, .slice ao13 c.fPast.length cp14, .slice ao17 c.fFormer.length cp18] rfl rfl) (by kernel_rfl) ?_; clear HS; intro w15 HS; replace HS := Bx.mk HS
  have HS : Bx (St w0 ([rowA encI 1 3 (.slice ao17 c.fFormer.length cp18) c.fFormer, rowA encI 1 3 (.slice ao13 c.fPast.length cp14) c.fPast, rowA encI 1 3 (.slice ao9 c.fOften.length cp10) c.fOften, rowA encI 1 3 (.slice ao5 c.fOnce.length cp6) c.fOnce, boxA b2 6 48 (.agg #[.int .i64 c.fRoom, .int .i64 c.fGoal, .slice ao5 c.fOnce.length cp6, .slice ao9 c.fOften.length cp10, .slice ao13 c.fPast.length cp14, .slice ao17 c.fFormer.length cp18]), boxA b1 6 48 (.agg #[.int .i64 c.fRoom, .int .i64 c.fGoal, .slice ao5 c.fOnce.length cp6, .slice ao9 c.fOften.length cp10, .slice ao13 c.fPast.length cp14, .slice ao17 c.fFormer.length cp18])]) _) := HS
  refine wpList_nil ?_
  refine ex_then ?_
  refine wp_ret ?_
  refine bp_ret1 HF Try.results58 (HF.resBox rfl (HS.out.box 4 rfl) (by kernel_rfl)) ?_
  replace HS : Bx (St w0 ([rowA encI 1 3 (.slice ao5 c.fOnce.length cp6) c.fOnce, rowA encI 1 3 (.slice ao9 c.fOften.length cp10) c.fOften, rowA encI 1 3 (.slice ao13 c.fPast.length cp14) c.fPast, rowA encI 1 3 (.slice ao17 c.fFormer.length cp18) c.fFormer, boxA b2 6 48 (.agg #[.int .i64 c.fRoom, .int .i64 c.fGoal, .slice ao5 c.fOnce.length cp6, .slice ao9 c.fOften.length cp10, .slice ao13 c.fPast.length cp14, .slice ao17 c.fFormer.length cp18]), boxA b1 6 48 (.agg #[.int .i64 c.fRoom, .int .i64 c.fGoal, .slice ao5 c.fOnce.length cp6, .slice ao9 c.fOften.length cp10, .slice ao13 c.fPast.length cp14, .slice ao17 c.fFormer.length cp18])]) _) := ⟨((((HS.out).pick 0 rfl).pick 1 rfl).pick 2 rfl).pick 3 rfl⟩
  exact ⟨_, rfl, CacheD.st_own HS.out, HS.out.bel⟩

set_option maxHeartbeats 1000000 in
set_option maxRecDepth 100000 in
theorem l27Front_any (ao : Option Addr) (cap : Nat) (xs : List Int) (r : Int) (w0 : World) (hl : xs.length ≤ 4194304) (hr : Rd encI 1 w0 ao xs.length xs) : Calls Try.prog 105 #[.slice ao xs.length cap, .int .i64 r] w0 fun e w' => ∃ ao' cap', e = .returned (.slice ao' (r :: xs).length cap') ∧ St w0 [rowA encI 1 3 (.slice ao' (r :: xs).length cap') (r :: xs)] w' := by
  have RX := Bx.mk hr; clear hr
  have HS := Bx.mk (St.start w0)
  refine wc_enter Try.func105 rfl Try.ntmps105 [(0, .slice ao xs.length cap), (1, .int .i64 r)] ⟨rfl, rfl, trivial⟩ rfl ?_; intro a HF
  refine wp_seq ?_
  refine wp_region_lit ?_
  refine wl_y rfl HF rfl rfl (yl_assign rfl (HF.ev rfl)) ?_; clear HF; clear a; intro a HF
  refine wpList_nil ?_
  refine ex_then ?_
  refine wp_seq ?_
  refine wp_region_lit ?_
  refine wl_y rfl HF rfl rfl (yl_move rfl (HF.ev rfl)) ?_; clear HF; clear a; intro a HF
  refine wl_buildS (enc := encI) (e := 3) (size := 1) rfl HF rfl rfl rfl (ps := [(0, .int .i64 r)]) rfl (cells := [.int .i64 r]) (by kernel_rfl) [r] rfl rfl (by unfold maxLen; omega) rfl HS.out ?_; clear HF HS; clear a; intro b1 a w1 HF HS; replace HS := Bx.mk HS
  refine wl_y rfl HF rfl rfl (yl_move rfl (HF.ev rfl)) ?_; clear HF; clear a; intro a HF
  refine wl_appL rfl HF rfl rfl rfl (HF.ev rfl) (HF.ev rfl) elemI encI_len HS.out 0 (xs := [r]) rfl (ys := xs) (RX.out.below HS.out.bel) (cells_one_I _) (by unfold maxLen; simp only [List.length_cons, List.length_nil]; omega) (by simp only [List.length_cons, List.length_nil]; omega) ?_; clear HF HS; clear a; intro ao2 cp3 w2 a HF HS; replace HS := Bx.mk HS
  replace HS : Bx (St w0 ([rowA encI 1 3 (.slice ao2 (([r]).length + xs.length) cp3) (([r]) ++ xs)]) _) := ⟨HS.out⟩
  refine wl_y rfl HF rfl rfl (yl_assign rfl (HF.ev rfl)) ?_; clear HF; clear a; intro a HF
  refine wpList_nil ?_
  refine ex_then ?_
  refine wp_ret ?_
  refine bp_ret1 HF Try.results105 (HF.res rfl) ?_
  have hz : [r].length + xs.length = (r :: xs).length := by simp only [List.length_cons, List.length_nil]; omega
  rw [hz] at HS ⊢; exact ⟨_, _, rfl, HS.out⟩

set_option maxHeartbeats 1000000 in
set_option maxRecDepth 100000 in
theorem l27Less_any (ao : Option Addr) (cap : Nat) (xs : List Int) (r : Int) (w0 : World) (hl : xs.length ≤ 1048576) (hr : Rd encI 1 w0 ao xs.length xs) : Calls Try.prog 104 #[.slice ao xs.length cap, .int .i64 r] w0 fun e w' => ∃ ao' cap', e = .returned (.slice ao' (less xs r).length cap') ∧ St w0 [rowA encI 1 3 (.slice ao' (less xs r).length cap') (less xs r)] w' := by
  obtain ⟨g0, o0, r0⟩ := hr.opn
  have RX := Bx.mk r0; clear r0 hr
  have HS := Bx.mk (St.start w0)
  refine wc_enter Try.func104 rfl Try.ntmps104 [(0, .slice ao xs.length cap), (1, .int .i64 r)] ⟨rfl, rfl, trivial⟩ rfl ?_; intro a HF
  refine wp_seq ?_
  refine wp_region_lit ?_
  refine wl_y rfl HF rfl rfl (yl_assign rfl (HF.ev rfl)) ?_; clear HF; clear a; intro a HF
  refine wpList_nil ?_
  refine ex_then ?_
  refine wp_seq ?_
  refine wp_region_lit ?_
  refine wl_empty (e := 3) (size := 1) rfl HF rfl rfl rfl (by kernel_rfl) HS.out ?_; clear HF HS; clear a; intro a w1 b1 HF HS; replace HS := Bx.mk HS
  refine wl_y rfl HF rfl rfl (yl_assign rfl (HF.ev rfl)) ?_; clear HF; clear a; intro a HF
  refine wpList_nil ?_
  refine ex_then ?_
  refine wp_seq ?_
  refine wp_seq ?_
  refine wp_region_lit ?_
  refine wl_y rfl HF rfl rfl (yl_assign rfl (HF.ev rfl)) ?_; clear HF; clear a; intro a HF
  refine wpList_nil ?_
  refine ex_then ?_
  refine wp_block ?_
  replace HS := Bx.mk (HS.out.nilRow encI 1 3 (some ⟨b1, 0, none⟩))
  refine wc_loop (ι := Nat) (fun k a w => ∃ (ao1 : Option Addr) (cp1 : Nat), (k ≤ xs.length) ∧ Fr 28 a [(0, .slice ao xs.length cap), (1, .int .i64 r), (6, .int .i64 (k : Int)), (5, .slice ao1 ((less (xs.take k) r).length) cp1)] ∧ St w0 ([rowA encI 1 3 (.slice ao1 ((less (xs.take k) r).length) cp1) (less (xs.take k) r)]) w) (fun k => xs.length - k) 0 ⟨_, _, Nat.zero_le _, HF.less _ ⟨rfl, rfl, rfl, rfl, trivial⟩, HS.out⟩ ?_
  clear HF HS; clear a
  rintro k a w2 ⟨ao1, cp1, hk, HF, HS⟩
  replace HS := Bx.mk HS; have hle := less_le xs r k
  refine wp_seq ?_
  refine wp_seq ?_
  refine wp_region_lit ?_
  refine wl_y rfl HF rfl rfl (yl_move rfl (HF.ev rfl)) ?_; clear HF; clear a; intro a HF
  refine wl_y rfl HF rfl rfl (yl_move rfl (HF.ev rfl)) ?_; clear HF; clear a; intro a HF
  refine wl_y rfl HF rfl rfl (yl_lenL (e := 3) (size := 1) rfl (HF.ev rfl) (by kernel_rfl)) ?_; clear HF; clear a; intro a HF
  refine wl_y rfl HF rfl rfl (yl_lssI rfl (HF.ev rfl) (HF.ev rfl)) ?_; clear HF; clear a; intro a HF
  refine wpList_nil ?_
  refine ex_then ?_
  refine HF.cases 11 rfl (fun cc1 HF1 => ?_) (fun cc1 HF1 => ?_)
  · clear HF; have HF := HF1; clear HF1
    have cc1 := of_decide_eq_true cc1
    refine wc_true HF rfl ?_
    refine wp_skip ?_
    refine ex_then ?_
    refine wp_seq ?_
    refine wp_block ?_
    refine wp_seq ?_
    refine wp_region_lit ?_
    refine wl_y rfl HF rfl rfl (yl_move rfl (HF.ev rfl)) ?_; clear HF; clear a; intro a HF
    refine wl_y rfl HF rfl rfl (yl_move rfl (HF.ev rfl)) ?_; clear HF; clear a; intro a HF
    refine wl_y rfl HF rfl rfl (yl_indexAddrR (e := 3) (i := k) (size := 1) rfl (HF.ev rfl) (HF.ev rfl) (by kernel_rfl) rfl (by omega) (RX.out.ao k (by omega))) ?_; clear HF; clear a; intro a HF
    refine wl_y rfl HF rfl rfl (yl_load (v := .int .i64 (xs.getD k 0)) rfl (HF.ev rfl) (RX.out.elem1 HS.out (get_getD (xs := xs) (j := k) (d := 0) (by omega)) rfl) (by kernel_rfl)) ?_; clear HF; clear a; intro a HF
    refine wl_y rfl HF rfl rfl (yl_move rfl (HF.ev rfl)) ?_; clear HF; clear a; intro a HF
    refine wl_y rfl HF rfl rfl (yl_neqI rfl (HF.ev rfl) (HF.ev rfl)) ?_; clear HF; clear a; intro a HF
    refine wpList_nil ?_
    refine ex_then ?_
    refine HF.cases 19 rfl (fun cc2 HF1 => ?_) (fun cc2 HF1 => ?_)
    · clear HF; have HF := HF1; clear HF1
      have hne := cc2
      refine wc_true HF rfl ?_
      refine wp_region_lit ?_
      refine wl_y rfl HF rfl rfl (yl_move rfl (HF.ev rfl)) ?_; clear HF; clear a; intro a HF
      refine wl_y rfl HF rfl rfl (yl_move rfl (HF.ev rfl)) ?_; clear HF; clear a; intro a HF
      refine wl_y rfl HF rfl rfl (yl_move rfl (HF.ev rfl)) ?_; clear HF; clear a; intro a HF
      refine wl_y rfl HF rfl rfl (yl_indexAddrR (e := 3) (i := k) (size := 1) rfl (HF.ev rfl) (HF.ev rfl) (by kernel_rfl) rfl (by omega) (RX.out.ao k (by omega))) ?_; clear HF; clear a; intro a HF
      refine wl_y rfl HF rfl rfl (yl_load (v := .int .i64 (xs.getD k 0)) rfl (HF.ev rfl) (RX.out.elem1 HS.out (get_getD (xs := xs) (j := k) (d := 0) (by omega)) rfl) (by kernel_rfl)) ?_; clear HF; clear a; intro a HF
      refine wl_buildS (enc := encI) (e := 3) (size := 1) rfl HF rfl rfl rfl (ps := [(0, .int .i64 (xs.getD k 0))]) rfl (cells := [.int .i64 (xs.getD k 0)]) (by kernel_rfl) [(xs.getD k 0)] rfl rfl (by unfold maxLen; omega) rfl HS.out ?_; clear HF HS; clear a; intro b2 a w3 HF HS; replace HS := Bx.mk HS
      refine wl_appL rfl HF rfl rfl rfl (HF.ev rfl) (HF.ev rfl) elemI encI_len HS.out 1 (xs := less (xs.take k) r) rfl (ys := [(xs.getD k 0)]) (St.rdOf HS.out encI_len 0 rfl) (cells_one_I _) (by unfold maxLen; simp only [List.length_cons, List.length_nil]; omega) (by simp only [List.length_cons, List.length_nil]; omega) ?_; clear HF HS; clear a; intro ao3 cp4 w4 a HF HS; replace HS := Bx.mk HS
      replace HS : Bx (St w0 ([rowA encI 1 3 (.slice (some ⟨b2, 0, none⟩) 1 1) ([(xs.getD k 0)]), rowA encI 1 3 (.slice ao3 ((less (xs.take k) r).length + ([(xs.getD k 0)]).length) cp4) ((less (xs.take k) r) ++ ([(xs.getD k 0)]))]) _) := ⟨HS.out⟩
      refine wl_y rfl HF rfl rfl (yl_assign rfl (HF.ev rfl)) ?_; clear HF; clear a; intro a HF
      refine wpList_nil ?_
      refine ex_block ?_
      refine ex_then ?_
      refine wp_region_lit ?_
      refine wl_y rfl HF rfl rfl (yl_move rfl (HF.ev rfl)) ?_; clear HF; clear a; intro a HF
      refine wl_y rfl HF rfl rfl (yl_addI rfl (HF.ev rfl) (HF.ev rfl) (i64w (by omega))) ?_; clear HF; clear a; intro a HF
      refine wl_y rfl HF rfl rfl (yl_assign rfl (HF.ev rfl)) ?_; clear HF; clear a; intro a HF
      refine wpList_nil ?_
      refine ex_then ?_
      replace HS : Bx (St w0 ([rowA encI 1 3 (.slice ao3 ((less (xs.take k) r).length + ([(xs.getD k 0)]).length) cp4) ((less (xs.take k) r) ++ ([(xs.getD k 0)])), rowA encI 1 3 (.slice (some ⟨b2, 0, none⟩) 1 1) ([(xs.getD k 0)])]) _) := ⟨(HS.out).pick 1 rfl⟩
      have hst : less (xs.take (k + 1)) r = less (xs.take k) r ++ [xs.getD k 0] := by rw [less_step (by omega), if_pos hne]
      exact ⟨k + 1, ⟨ao3, cp4, by omega, by rw [hst, List.length_append]; exact HF.less _ ⟨rfl, rfl, rfl, rfl, trivial⟩, by rw [hst, List.length_append]; exact (HS.out.erase 1)⟩, by omega⟩
    · clear HF; have HF := HF1; clear HF1
      have hne := cc2
      refine wc_false HF rfl ?_
      refine wp_skip ?_
      refine ex_block ?_
      refine ex_then ?_
      refine wp_region_lit ?_
      refine wl_y rfl HF rfl rfl (yl_move rfl (HF.ev rfl)) ?_; clear HF; clear a; intro a HF
      refine wl_y rfl HF rfl rfl (yl_addI rfl (HF.ev rfl) (HF.ev rfl) (i64w (by omega))) ?_; clear HF; clear a; intro a HF
      refine wl_y rfl HF rfl rfl (yl_assign rfl (HF.ev rfl)) ?_; clear HF; clear a; intro a HF
      refine wpList_nil ?_
      refine ex_then ?_
      replace HS : Bx (St w0 ([rowA encI 1 3 (.slice ao1 ((less (xs.take k) r).length) cp1) (less (xs.take k) r)]) _) := ⟨(HS.out).pick 0 rfl⟩
      have hst : less (xs.take (k + 1)) r = less (xs.take k) r := by rw [less_step (by omega), if_neg (by rw [hne]; simp)]
      exact ⟨k + 1, ⟨ao1, cp1, by omega, by rw [hst]; exact HF.less _ ⟨rfl, rfl, rfl, rfl, trivial⟩, by rw [hst]; exact HS.out⟩, by omega⟩
  · clear HF; have HF := HF1; clear HF1
    have cc1 := of_decide_eq_false cc1
    refine wc_false HF rfl ?_
    refine wp_exit ?_
    refine ex_then_exit ?_
    refine ex_then_exit ?_
    refine ex_block_hit ?_
    refine ex_then ?_
    refine wp_seq ?_
    refine wp_region_lit ?_
    refine wl_y rfl HF rfl rfl (yl_move rfl (HF.ev rfl)) ?_; clear HF; clear a; intro a HF
    refine wl_y rfl HF rfl rfl (yl_assign rfl (HF.ev rfl)) ?_; clear HF; clear a; intro a HF
    refine wpList_nil ?_
    refine ex_then ?_
    refine wp_ret ?_
    refine bp_ret1 HF Try.results104 (HF.res rfl) ?_
    have hkl : k = xs.length := by omega
    rw [hkl, List.take_length] at HS ⊢; exact ⟨_, _, rfl, HS.out⟩

set_option maxHeartbeats 1000000 in
set_option maxRecDepth 100000 in
theorem l27Way_any (w0 w : World) (a2 : Option Addr) (c2 : Nat) (a3 : Option Addr) (c3 : Nat) (a4 : Option Addr) (c4 : Nat) (a5 : Option Addr) (c5 : Nat) (c : CacheD) (former : Bool) (F : List Asr) (h1 : 1 ≤ c.fRoom) (h2 : c.fOnce.length ≤ 100) (h3 : c.fOften.length ≤ 100) (h4 : c.fPast.length ≤ 100) (h5 : c.fFormer.length ≤ 100) (hS : St w0 (rowA encI 1 3 (.slice a2 c.fOnce.length c2) c.fOnce :: rowA encI 1 3 (.slice a3 c.fOften.length c3) c.fOften :: rowA encI 1 3 (.slice a4 c.fPast.length c4) c.fPast :: rowA encI 1 3 (.slice a5 c.fFormer.length c5) c.fFormer :: F) w) : Calls Try.prog 106 #[.agg #[.int .i64 c.fRoom, .int .i64 c.fGoal, .slice a2 c.fOnce.length c2, .slice a3 c.fOften.length c3, .slice a4 c.fPast.length c4, .slice a5 c.fFormer.length c5], .bool former] w fun e w' => ∃ v', e = .returned v' ∧ CacheV w0 v' (c.wayC former) F w' := by
  have HS := Bx.mk hS
  clear hS
  refine wc_enter Try.func106 rfl Try.ntmps106 [(0, .agg #[.int .i64 c.fRoom, .int .i64 c.fGoal, .slice a2 c.fOnce.length c2, .slice a3 c.fOften.length c3, .slice a4 c.fPast.length c4, .slice a5 c.fFormer.length c5]), (1, .bool former)] ⟨rfl, rfl, trivial⟩ rfl ?_; intro a HF
  refine wp_seq ?_
  refine wp_region_lit ?_
  refine wl_box rfl HF rfl (HF.ev rfl) (Z := [.int .i64 c.fRoom, .int .i64 c.fGoal, .slice a2 c.fOnce.length c2, .slice a3 c.fOften.length c3, .slice a4 c.fPast.length c4, .slice a5 c.fFormer.length c5]) rfl rfl rfl rfl HS.out ?_; clear HF HS; clear a; intro a w1 b1 HF HS; replace HS := Bx.mk HS
  refine wl_alloc rfl HF rfl rfl rfl (Z := [.int .i64 0, .int .i64 0, .slice none 0 0, .slice none 0 0, .slice none 0 0, .slice none 0 0]) (by kernel_rfl) rfl HS.out ?_; clear HF HS; clear a; intro a w2 b2 HF HS; replace HS := Bx.mk HS
  refine wpList_nil ?_
  refine ex_then ?_
  refine wp_seq ?_
  refine wp_seq ?_
  refine wp_region_lit ?_
  refine wl_y rfl HF rfl rfl (yl_fieldAddr (j := 2) rfl (HF.ev rfl) (by kernel_rfl)) ?_; clear HF; clear a; intro a HF
  refine wl_y rfl HF rfl rfl (yl_load (v := .slice a2 c.fOnce.length c2) rfl (HF.ev rfl) (((HS.out.box 1 rfl).cell 2).trans rfl) (by kernel_rfl)) ?_; clear HF; clear a; intro a HF
  refine wl_y rfl HF rfl rfl (yl_lenL (e := 3) (size := 1) rfl (HF.ev rfl) (by kernel_rfl)) ?_; clear HF; clear a; intro a HF
  refine wl_y rfl HF rfl rfl (yl_fieldAddr (j := 3) rfl (HF.ev rfl) (by kernel_rfl)) ?_; clear HF; clear a; intro a HF
  refine wl_y rfl HF rfl rfl (yl_load (v := .slice a3 c.fOften.length c3) rfl (HF.ev rfl) (((HS.out.box 1 rfl).cell 3).trans rfl) (by kernel_rfl)) ?_; clear HF; clear a; intro a HF
  refine wl_y rfl HF rfl rfl (yl_lenL (e := 3) (size := 1) rfl (HF.ev rfl) (by kernel_rfl)) ?_; clear HF; clear a; intro a HF
  refine wl_y rfl HF rfl rfl (yl_addI rfl (HF.ev rfl) (HF.ev rfl) (i64w (by omega))) ?_; clear HF; clear a; intro a HF
  refine wl_y rfl HF rfl rfl (yl_fieldAddr (j := 0) rfl (HF.ev rfl) (by kernel_rfl)) ?_; clear HF; clear a; intro a HF
  refine wl_y rfl HF rfl rfl (yl_load (v := .int .i64 c.fRoom) rfl (HF.ev rfl) (((HS.out.box 1 rfl).cell 0).trans rfl) (by kernel_rfl)) ?_; clear HF; clear a; intro a HF
  refine wl_y rfl HF rfl rfl (yl_lssI rfl (HF.ev rfl) (HF.ev rfl)) ?_; clear HF; clear a; intro a HF
  refine wpList_nil ?_
  refine ex_then ?_
  refine HF.cases 16 rfl (fun cc1 HF1 => ?_) (fun cc1 HF1 => ?_)
  · clear HF; have HF := HF1; clear HF1
    have cc1 := of_decide_eq_true cc1
    refine wc_true HF rfl ?_
    refine wp_seq ?_
    refine wp_region_lit ?_
    refine wl_y rfl HF rfl rfl (yl_loadR (cs := [.int .i64 c.fRoom, .int .i64 c.fGoal, .slice a2 c.fOnce.length c2, .slice a3 c.fOften.length c3, .slice a4 c.fPast.length c4, .slice a5 c.fFormer.length c5]) rfl (HF.ev rfl) ((HS.out.box 1 rfl).sub 0 6) (by kernel_rfl)) ?_; clear HF; clear a; intro a HF
    refine wl_storeBox rfl HF rfl rfl (HF.ev rfl) (HF.ev rfl) HS.out 0 rfl (cells_lit [.int .i64 c.fRoom, .int .i64 c.fGoal, .slice a2 c.fOnce.length c2, .slice a3 c.fOften.length c3, .slice a4 c.fPast.length c4, .slice a5 c.fFormer.length c5] rfl rfl) (by kernel_rfl) ?_; clear HS; intro w3 HS; replace HS := Bx.mk HS
    have HS : Bx (St w0 (boxA b2 6 48 (.agg #[.int .i64 c.fRoom, .int .i64 c.fGoal, .slice a2 c.fOnce.length c2, .slice a3 c.fOften.length c3, .slice a4 c.fPast.length c4, .slice a5 c.fFormer.length c5]) :: boxA b1 6 48 (.agg #[.int .i64 c.fRoom, .int .i64 c.fGoal, .slice a2 c.fOnce.length c2, .slice a3 c.fOften.length c3, .slice a4 c.fPast.length c4, .slice a5 c.fFormer.length c5]) :: rowA encI 1 3 (.slice a2 c.fOnce.length c2) c.fOnce :: rowA encI 1 3 (.slice a3 c.fOften.length c3) c.fOften :: rowA encI 1 3 (.slice a4 c.fPast.length c4) c.fPast :: rowA encI 1 3 (.slice a5 c.fFormer.length c5) c.fFormer :: F) _) := HS
    refine wpList_nil ?_
    refine ex_then ?_
    refine wp_ret ?_
    refine ex_then_ret ?_
    refine bp_ret1 HF Try.results106 (HF.resBox rfl (HS.out.box 0 rfl) (by kernel_rfl)) ?_
    replace HS : Bx (St w0 (rowA encI 1 3 (.slice a2 c.fOnce.length c2) c.fOnce :: rowA encI 1 3 (.slice a3 c.fOften.length c3) c.fOften :: rowA encI 1 3 (.slice a4 c.fPast.length c4) c.fPast :: rowA encI 1 3 (.slice a5 c.fFormer.length c5) c.fFormer :: boxA b2 6 48 (.agg #[.int .i64 c.fRoom, .int .i64 c.fGoal, .slice a2 c.fOnce.length c2, .slice a3 c.fOften.length c3, .slice a4 c.fPast.length c4, .slice a5 c.fFormer.length c5]) :: boxA b1 6 48 (.agg #[.int .i64 c.fRoom, .int .i64 c.fGoal, .slice a2 c.fOnce.length c2, .slice a3 c.fOften.length c3, .slice a4 c.fPast.length c4, .slice a5 c.fFormer.length c5]) :: F) _) := ⟨((((HS.out).pick 5 rfl).pick 5 rfl).pick 5 rfl).pick 5 rfl⟩
    have hw : c.wayC former = c := by unfold CacheD.wayC; rw [if_pos (by omega)]
    have HT := ((HS.out.erase 5).erase 4)
    rw [hw]; exact ⟨_, rfl, _, _, _, _, _, _, _, _, rfl, HT⟩
  · clear HF; have HF := HF1; clear HF1
    have cc1 := of_decide_eq_false cc1
    refine wc_false HF rfl ?_
    refine wp_skip ?_
    refine ex_then ?_
    refine wp_seq ?_
    refine wp_region_lit ?_
    refine wl_y rfl HF rfl rfl (yl_fieldAddr (j := 2) rfl (HF.ev rfl) (by kernel_rfl)) ?_; clear HF; clear a; intro a HF
    refine wl_y rfl HF rfl rfl (yl_load (v := .slice a2 c.fOnce.length c2) rfl (HF.ev rfl) (((HS.out.box 1 rfl).cell 2).trans rfl) (by kernel_rfl)) ?_; clear HF; clear a; intro a HF
    refine wl_y rfl HF rfl rfl (yl_lenL (e := 3) (size := 1) rfl (HF.ev rfl) (by kernel_rfl)) ?_; clear HF; clear a; intro a HF
    refine wl_y rfl HF rfl rfl (yl_assign rfl (HF.ev rfl)) ?_; clear HF; clear a; intro a HF
    refine wpList_nil ?_
    refine ex_then ?_
    refine wp_seq ?_
    refine wp_region_lit ?_
    refine wl_y rfl HF rfl rfl (yl_fieldAddr (j := 3) rfl (HF.ev rfl) (by kernel_rfl)) ?_; clear HF; clear a; intro a HF
    refine wl_y rfl HF rfl rfl (yl_load (v := .slice a3 c.fOften.length c3) rfl (HF.ev rfl) (((HS.out.box 1 rfl).cell 3).trans rfl) (by kernel_rfl)) ?_; clear HF; clear a; intro a HF
    refine wl_y rfl HF rfl rfl (yl_lenL (e := 3) (size := 1) rfl (HF.ev rfl) (by kernel_rfl)) ?_; clear HF; clear a; intro a HF
    refine wl_y rfl HF rfl rfl (yl_assign rfl (HF.ev rfl)) ?_; clear HF; clear a; intro a HF
    refine wpList_nil ?_
    refine ex_then ?_
    refine wp_seq ?_
    refine wp_seq ?_
    refine wp_region_lit ?_
    refine wl_y rfl HF rfl rfl (yl_move rfl (HF.ev rfl)) ?_; clear HF; clear a; intro a HF
    refine wl_y rfl HF rfl rfl (yl_gtrI rfl (HF.ev rfl) (HF.ev rfl)) ?_; clear HF; clear a; intro a HF
    refine wl_y rfl HF rfl rfl (yl_move rfl (HF.ev rfl)) ?_; clear HF; clear a; intro a HF
    refine HF.cases 26 rfl (fun cc2 HF1 => ?_) (fun cc2 HF1 => ?_)
    · clear HF; have HF := HF1; clear HF1
      have cc2 := of_decide_eq_true cc2
      refine wl_yg HF rfl rfl rfl rfl rfl (yl_move rfl (HF.ev rfl)) ?_; clear HF; clear a; intro a HF
      refine wl_yg HF rfl rfl rfl rfl rfl (yl_fieldAddr (j := 1) rfl (HF.ev rfl) (by kernel_rfl)) ?_; clear HF; clear a; intro a HF
      refine wl_yg HF rfl rfl rfl rfl rfl (yl_load (v := .int .i64 c.fGoal) rfl (HF.ev rfl) (((HS.out.box 1 rfl).cell 1).trans rfl) (by kernel_rfl)) ?_; clear HF; clear a; intro a HF
      refine wl_yg HF rfl rfl rfl rfl rfl (yl_gtrI rfl (HF.ev rfl) (HF.ev rfl)) ?_; clear HF; clear a; intro a HF
      refine wl_yg HF rfl rfl rfl rfl rfl (yl_move rfl (HF.ev rfl)) ?_; clear HF; clear a; intro a HF
      refine HF.cases 31 rfl (fun cc3 HF1 => ?_) (fun cc3 HF1 => ?_)
      · clear HF; have HF := HF1; clear HF1
        have cc3 := of_decide_eq_true cc3
        refine wl_skip HF rfl rfl rfl rfl rfl rfl ?_; clear HF; clear a; intro a HF
        refine wl_skip HF rfl rfl rfl rfl rfl rfl ?_; clear HF; clear a; intro a HF
        refine wl_skipU HF rfl rfl rfl rfl rfl ?_; clear HF; clear a; intro a HF
        refine wl_skipU HF rfl rfl rfl rfl rfl ?_; clear HF; clear a; intro a HF
        refine wl_skipU HF rfl rfl rfl rfl rfl ?_; clear HF; clear a; intro a HF
        refine wl_skipU HF rfl rfl rfl rfl rfl ?_; clear HF; clear a; intro a HF
        refine wl_skip HF rfl rfl rfl rfl rfl rfl ?_; clear HF; clear a; intro a HF
        refine wl_yg HF rfl rfl rfl rfl rfl (yl_pick_t rfl (HF.ev rfl) (HF.ev rfl)) ?_; clear HF; clear a; intro a HF
        refine wl_y rfl HF rfl rfl (yl_pick_t rfl (HF.ev rfl) (HF.ev rfl)) ?_; clear HF; clear a; intro a HF
        refine wl_y rfl HF rfl rfl (yl_move rfl (HF.ev rfl)) ?_; clear HF; clear a; intro a HF
        refine wl_skip HF rfl rfl rfl rfl rfl rfl ?_; clear HF; clear a; intro a HF
        refine wl_skip HF rfl rfl rfl rfl rfl rfl ?_; clear HF; clear a; intro a HF
        refine wl_y rfl HF rfl rfl (yl_pick_t rfl (HF.ev rfl) (HF.ev rfl)) ?_; clear HF; clear a; intro a HF
        refine wpList_nil ?_
        refine ex_then ?_
        refine wc_true HF rfl ?_
        refine wp_seq ?_
        obtain ⟨g, rfl, _, _, _, _⟩ := HS.out.rowOpen 2 rfl (by omega)
        refine wr_marked (W := w0) (s := boxA b2 6 48 (.agg #[.int .i64 0, .int .i64 0, .slice none 0 0, .slice none 0 0, .slice none 0 0, .slice none 0 0]) :: boxA b1 6 48 (.agg #[.int .i64 c.fRoom, .int .i64 c.fGoal, .slice (some ⟨g, 0, none⟩) c.fOnce.length c2, .slice a3 c.fOften.length c3, .slice a4 c.fPast.length c4, .slice a5 c.fFormer.length c5]) :: rowA encI 1 3 (.slice (some ⟨g, 0, none⟩) c.fOnce.length c2) c.fOnce :: rowA encI 1 3 (.slice a3 c.fOften.length c3) c.fOften :: rowA encI 1 3 (.slice a4 c.fPast.length c4) c.fPast :: rowA encI 1 3 (.slice a5 c.fFormer.length c5) c.fFormer :: F) 10 (by kernel_rfl) ?_
        have HS2 := Bx.mk HS.out.drew; replace HS := Bx.mk HS.out.drew; generalize World.drew _ = w4 at HS HS2 ⊢
        refine wm_t 0 rfl (by kernel_rfl) (by kernel_rfl) (by kernel_rfl) (fun _ _ _ h => h) (by decide) rfl HF rfl rfl (fun _ _ => (yl_fieldAddr (j := 4) rfl (HF.ev rfl) (by kernel_rfl))) (fun _ => HS.out) ?_; clear HF; clear a; intro a HF
        refine wm_y 1 rfl (by kernel_rfl) (by kernel_rfl) (by kernel_rfl) (fun _ _ _ h => h) (by decide) (by kernel_rfl) (by kernel_rfl) rfl HF rfl rfl (fun _ HS => (yl_load (v := .slice a4 c.fPast.length c4) rfl (HF.ev rfl) (((HS.box 1 rfl).cell 4).trans rfl) (by kernel_rfl))) HS.out ?_; clear HF; clear a; intro a HF
        refine wm_t 2 rfl (by kernel_rfl) (by kernel_rfl) (by kernel_rfl) (fun _ _ _ h => h) (by decide) rfl HF rfl rfl (fun _ _ => (yl_fieldAddr (j := 2) rfl (HF.ev rfl) (by kernel_rfl))) (fun _ => HS.out) ?_; clear HF; clear a; intro a HF
        refine wm_y 3 rfl (by kernel_rfl) (by kernel_rfl) (by kernel_rfl) (fun _ _ _ h => h) (by decide) (by kernel_rfl) (by kernel_rfl) rfl HF rfl rfl (fun _ HS => (yl_load (v := .slice (some ⟨g, 0, none⟩) c.fOnce.length c2) rfl (HF.ev rfl) (((HS.box 1 rfl).cell 2).trans rfl) (by kernel_rfl))) HS.out ?_; clear HF; clear a; intro a HF
        refine wm_t 4 rfl (by kernel_rfl) (by kernel_rfl) (by kernel_rfl) (fun _ _ _ h => h) (by decide) rfl HF rfl rfl (fun _ _ => (yl_move rfl (HF.ev rfl))) (fun _ => HS.out) ?_; clear HF; clear a; intro a HF
        refine wm_y 5 rfl (by kernel_rfl) (by kernel_rfl) (by kernel_rfl) (fun _ _ _ h => h) (by decide) (by kernel_rfl) (by kernel_rfl) rfl HF rfl rfl (fun _ HS => (yl_subI (r := ((c.fOnce.length - 1 : Nat) : Int)) rfl (HF.ev rfl) (HF.ev rfl) ((i64w (by omega)).trans (by omega)))) HS.out ?_; clear HF; clear a; intro a HF
        refine wm_y 6 rfl (by kernel_rfl) (by kernel_rfl) (by kernel_rfl) (fun _ _ _ h => h) (by decide) (by kernel_rfl) (by kernel_rfl) rfl HF rfl rfl (fun _ HS => (yl_indexAddr (e := 3) (i := c.fOnce.length - 1) (size := 1) rfl (HF.ev rfl) (HF.ev rfl) (by kernel_rfl) rfl (by omega))) HS.out ?_; clear HF; clear a; intro a HF
        refine wm_y 7 rfl (by kernel_rfl) (by kernel_rfl) (by kernel_rfl) (fun _ _ _ h => h) (by decide) (by kernel_rfl) (by kernel_rfl) rfl HF rfl rfl (fun _ HS => (yl_load (v := .int .i64 (c.fOnce.getD (c.fOnce.length - 1) 0)) rfl (HF.ev rfl) (HS.elem1 encI_len 2 rfl (get_getD (xs := c.fOnce) (j := c.fOnce.length - 1) (d := 0) (by omega)) rfl) (by kernel_rfl))) HS.out ?_; clear HF; clear a; intro a HF
        refine wm_one 8 (by kernel_rfl) ?_
        refine wo_call rfl rfl HF rfl (enter_of Try.func105 (by kernel_rfl) rfl) (args := #[.slice a4 c.fPast.length c4, .int .i64 (c.fOnce.getD (c.fOnce.length - 1) 0)]) rfl (l27Front_any _ _ c.fPast (c.fOnce.getD (c.fOnce.length - 1) 0) _ (by first | omega | (simp; omega)) (St.rdOf HS2.out encI_len 4 rfl)) rfl rfl ?_
        rintro _ w5 ⟨ao3, cp4, rfl, hn⟩
        refine ⟨_, rfl, ?_⟩; replace HS := Bx.mk (HS.out.later hn.bel); replace HS2 := Bx.mk (HS2.out.add hn); clear hn HF; clear a; intro a HF
        replace HS2 : Bx (St w0 (rowA encI 1 3 (.slice ao3 (((c.fOnce.getD (c.fOnce.length - 1) 0) :: c.fPast).length) cp4) ((c.fOnce.getD (c.fOnce.length - 1) 0) :: c.fPast) :: boxA b2 6 48 (.agg #[.int .i64 0, .int .i64 0, .slice none 0 0, .slice none 0 0, .slice none 0 0, .slice none 0 0]) :: boxA b1 6 48 (.agg #[.int .i64 c.fRoom, .int .i64 c.fGoal, .slice (some ⟨g, 0, none⟩) c.fOnce.length c2, .slice a3 c.fOften.length c3, .slice a4 c.fPast.length c4, .slice a5 c.fFormer.length c5]) :: rowA encI 1 3 (.slice (some ⟨g, 0, none⟩) c.fOnce.length c2) c.fOnce :: rowA encI 1 3 (.slice a3 c.fOften.length c3) c.fOften :: rowA encI 1 3 (.slice a4 c.fPast.length c4) c.fPast :: rowA encI 1 3 (.slice a5 c.fFormer.length c5) c.fFormer :: F) _) := ⟨HS2.out⟩
        refine ⟨fun _ => HS.out, ?_⟩
        refine wm_t 9 rfl (by kernel_rfl) (by kernel_rfl) (by kernel_rfl) (fun _ _ _ h => h) (by decide) rfl HF rfl rfl (fun _ _ => (yl_fieldAddr (j := 4) rfl (HF.ev rfl) (by kernel_rfl))) (fun _ => HS.out) ?_; clear HF; clear a; intro a HF
        refine wm_one 10 (by kernel_rfl) ?_
        refine wo_storeF rfl rfl rfl rfl (HF.ev rfl) (HF.ev rfl) (by kernel_rfl) HS2.out 2 rfl rfl rfl ?_
        clear HS2; intro w6 HS2; replace HS2 : Bx (St w0 (rowA encI 1 3 (.slice ao3 (((c.fOnce.getD (c.fOnce.length - 1) 0) :: c.fPast).length) cp4) ((c.fOnce.getD (c.fOnce.length - 1) 0) :: c.fPast) :: boxA b2 6 48 (.agg #[.int .i64 0, .int .i64 0, .slice none 0 0, .slice none 0 0, .slice none 0 0, .slice none 0 0]) :: boxA b1 6 48 (.agg #[.int .i64 c.fRoom, .int .i64 c.fGoal, .slice (some ⟨g, 0, none⟩) c.fOnce.length c2, .slice a3 c.fOften.length c3, .slice ao3 (((c.fOnce.getD (c.fOnce.length - 1) 0) :: c.fPast).length) cp4, .slice a5 c.fFormer.length c5]) :: rowA encI 1 3 (.slice (some ⟨g, 0, none⟩) c.fOnce.length c2) c.fOnce :: rowA encI 1 3 (.slice a3 c.fOften.length c3) c.fOften :: rowA encI 1 3 (.slice a4 c.fPast.length c4) c.fPast :: rowA encI 1 3 (.slice a5 c.fFormer.length c5) c.fFormer :: F) _) := ⟨HS2⟩; refine ⟨(fun h => absurd (show true = false from h) (by decide)), ?_⟩
        refine wm_done (by kernel_rfl) ?_
        clear HS; have HS := HS2; clear HS2
        refine ex_then ?_
        refine wp_seq ?_
        refine wp_region_lit ?_
        refine wl_y rfl HF rfl rfl (yl_fieldAddr (j := 2) rfl (HF.ev rfl) (by kernel_rfl)) ?_; clear HF; clear a; intro a HF
        refine wl_y rfl HF rfl rfl (yl_load (v := .slice (some ⟨g, 0, none⟩) c.fOnce.length c2) rfl (HF.ev rfl) (((HS.out.box 2 rfl).cell 2).trans rfl) (by kernel_rfl)) ?_; clear HF; clear a; intro a HF
        refine wl_y rfl HF rfl rfl (yl_move rfl (HF.ev rfl)) ?_; clear HF; clear a; intro a HF
        refine wl_y rfl HF rfl rfl (yl_subI (r := ((c.fOnce.length - 1 : Nat) : Int)) rfl (HF.ev rfl) (HF.ev rfl) ((i64w (by omega)).trans (by omega))) ?_; clear HF; clear a; intro a HF
        refine wl_y rfl HF rfl rfl (yl_sliceHi (e := 3) (size := 1) (k := c.fOnce.length - 1) rfl (HF.ev rfl) (HF.ev rfl) (by kernel_rfl) (by omega) (Nat.le_trans (by omega) (St.capLe HS.out 3 rfl))) ?_; clear HF; clear a; intro a HF
        replace HS := Bx.mk (HS.out.rowDrop encI_len 3 rfl)
        have HS : Bx (St w0 (rowA encI 1 3 (.slice ao3 (((c.fOnce.getD (c.fOnce.length - 1) 0) :: c.fPast).length) cp4) ((c.fOnce.getD (c.fOnce.length - 1) 0) :: c.fPast) :: boxA b2 6 48 (.agg #[.int .i64 0, .int .i64 0, .slice none 0 0, .slice none 0 0, .slice none 0 0, .slice none 0 0]) :: boxA b1 6 48 (.agg #[.int .i64 c.fRoom, .int .i64 c.fGoal, .slice (some ⟨g, 0, none⟩) c.fOnce.length c2, .slice a3 c.fOften.length c3, .slice ao3 (((c.fOnce.getD (c.fOnce.length - 1) 0) :: c.fPast).length) cp4, .slice a5 c.fFormer.length c5]) :: rowA encI 1 3 (.slice (some ⟨g, 0, none⟩) (c.fOnce.length - 1) c2) c.fOnce.dropLast :: rowA encI 1 3 (.slice a3 c.fOften.length c3) c.fOften :: rowA encI 1 3 (.slice a4 c.fPast.length c4) c.fPast :: rowA encI 1 3 (.slice a5 c.fFormer.length c5) c.fFormer :: F) _) := HS
        refine wl_y rfl HF rfl rfl (yl_fieldAddr (j := 2) rfl (HF.ev rfl) (by kernel_rfl)) ?_; clear HF; clear a; intro a HF
        refine wl_storeF rfl rfl rfl (HF.ev rfl) (HF.ev rfl) (by kernel_rfl) HS.out 2 rfl rfl rfl ?_; clear HS; intro w7 HS; replace HS := Bx.mk HS
        have HS : Bx (St w0 (rowA encI 1 3 (.slice ao3 (((c.fOnce.getD (c.fOnce.length - 1) 0) :: c.fPast).length) cp4) ((c.fOnce.getD (c.fOnce.length - 1) 0) :: c.fPast) :: boxA b2 6 48 (.agg #[.int .i64 0, .int .i64 0, .slice none 0 0, .slice none 0 0, .slice none 0 0, .slice none 0 0]) :: boxA b1 6 48 (.agg #[.int .i64 c.fRoom, .int .i64 c.fGoal, .slice (some ⟨g, 0, none⟩) (c.fOnce.length - 1) c2, .slice a3 c.fOften.length c3, .slice ao3 (((c.fOnce.getD (c.fOnce.length - 1) 0) :: c.fPast).length) cp4, .slice a5 c.fFormer.length c5]) :: rowA encI 1 3 (.slice (some ⟨g, 0, none⟩) (c.fOnce.length - 1) c2) c.fOnce.dropLast :: rowA encI 1 3 (.slice a3 c.fOften.length c3) c.fOften :: rowA encI 1 3 (.slice a4 c.fPast.length c4) c.fPast :: rowA encI 1 3 (.slice a5 c.fFormer.length c5) c.fFormer :: F) _) := HS
        refine wpList_nil ?_
        refine ex_then ?_
        refine wp_seq ?_
        refine wp_region_lit ?_
        refine wl_y rfl HF rfl rfl (yl_loadR (cs := [.int .i64 c.fRoom, .int .i64 c.fGoal, .slice (some ⟨g, 0, none⟩) (c.fOnce.length - 1) c2, .slice a3 c.fOften.length c3, .slice ao3 (((c.fOnce.getD (c.fOnce.length - 1) 0) :: c.fPast).length) cp4, .slice a5 c.fFormer.length c5]) rfl (HF.ev rfl) ((HS.out.box 2 rfl).sub 0 6) (by kernel_rfl)) ?_; clear HF; clear a; intro a HF
        refine wl_storeBox rfl HF rfl rfl (HF.ev rfl) (HF.ev rfl) HS.out 1 rfl (cells_lit [.int .i64 c.fRoom, .int .i64 c.fGoal, .slice (some ⟨g, 0, none⟩) (c.fOnce.length - 1) c2, .slice a3 c.fOften.length c3, .slice ao3 (((c.fOnce.getD (c.fOnce.length - 1) 0) :: c.fPast).length) cp4, .slice a5 c.fFormer.length c5] rfl rfl) (by kernel_rfl) ?_; clear HS; intro w8 HS; replace HS := Bx.mk HS
        have HS : Bx (St w0 (rowA encI 1 3 (.slice ao3 (((c.fOnce.getD (c.fOnce.length - 1) 0) :: c.fPast).length) cp4) ((c.fOnce.getD (c.fOnce.length - 1) 0) :: c.fPast) :: boxA b2 6 48 (.agg #[.int .i64 c.fRoom, .int .i64 c.fGoal, .slice (some ⟨g, 0, none⟩) (c.fOnce.length - 1) c2, .slice a3 c.fOften.length c3, .slice ao3 (((c.fOnce.getD (c.fOnce.length - 1) 0) :: c.fPast).length) cp4, .slice a5 c.fFormer.length c5]) :: boxA b1 6 48 (.agg #[.int .i64 c.fRoom, .int .i64 c.fGoal, .slice (some ⟨g, 0, none⟩) (c.fOnce.length - 1) c2, .slice a3 c.fOften.length c3, .slice ao3 (((c.fOnce.getD (c.fOnce.length - 1) 0) :: c.fPast).length) cp4, .slice a5 c.fFormer.length c5]) :: rowA encI 1 3 (.slice (some ⟨g, 0, none⟩) (c.fOnce.length - 1) c2) c.fOnce.dropLast :: rowA encI 1 3 (.slice a3 c.fOften.length c3) c.fOften :: rowA encI 1 3 (.slice a4 c.fPast.length c4) c.fPast :: rowA encI 1 3 (.slice a5 c.fFormer.length c5) c.fFormer :: F) _) := HS
        refine wpList_nil ?_
        refine ex_then ?_
        refine wp_ret ?_
        refine ex_then_ret ?_
        refine bp_ret1 HF Try.results106 (HF.resBox rfl (HS.out.box 1 rfl) (by kernel_rfl)) ?_
        replace HS : Bx (St w0 (rowA encI 1 3 (.slice (some ⟨g, 0, none⟩) (c.fOnce.length - 1) c2) c.fOnce.dropLast :: rowA encI 1 3 (.slice a3 c.fOften.length c3) c.fOften :: rowA encI 1 3 (.slice ao3 (((c.fOnce.getD (c.fOnce.length - 1) 0) :: c.fPast).length) cp4) ((c.fOnce.getD (c.fOnce.length - 1) 0) :: c.fPast) :: rowA encI 1 3 (.slice a5 c.fFormer.length c5) c.fFormer :: boxA b2 6 48 (.agg #[.int .i64 c.fRoom, .int .i64 c.fGoal, .slice (some ⟨g, 0, none⟩) (c.fOnce.length - 1) c2, .slice a3 c.fOften.length c3, .slice ao3 (((c.fOnce.getD (c.fOnce.length - 1) 0) :: c.fPast).length) cp4, .slice a5 c.fFormer.length c5]) :: boxA b1 6 48 (.agg #[.int .i64 c.fRoom, .int .i64 c.fGoal, .slice (some ⟨g, 0, none⟩) (c.fOnce.length - 1) c2, .slice a3 c.fOften.length c3, .slice ao3 (((c.fOnce.getD (c.fOnce.length - 1) 0) :: c.fPast).length) cp4, .slice a5 c.fFormer.length c5]) :: rowA encI 1 3 (.slice a4 c.fPast.length c4) c.fPast :: F) _) := ⟨((((HS.out).pick 6 rfl).pick 1 rfl).pick 5 rfl).pick 5 rfl⟩
        have hw : c.wayC former = { c with fPast := lastI c.fOnce :: c.fPast, fOnce := c.fOnce.dropLast } := by unfold CacheD.wayC; rw [if_neg (by omega), if_pos ((wayC_cond c former).2 ⟨by omega, by first | exact .inl (by omega) | exact .inr (.inl ⟨by assumption, by omega⟩) | exact .inr (.inr (by omega))⟩)]
        have HT := (((HS.out.erase 6).erase 5).erase 4)
        rw [show c.fOnce.getD (c.fOnce.length - 1) 0 = lastI c.fOnce from rfl] at HT ⊢
        rw [show c.fOnce.length - 1 = c.fOnce.dropLast.length by rw [List.length_dropLast]] at HT ⊢
        rw [hw]; exact ⟨_, rfl, _, _, _, _, _, _, _, _, rfl, HT⟩
      · clear HF; have HF := HF1; clear HF1
        have cc3 := of_decide_eq_false cc3
        refine wl_yg HF rfl rfl rfl rfl rfl (yl_move rfl (HF.ev rfl)) ?_; clear HF; clear a; intro a HF
        refine wl_yg HF rfl rfl rfl rfl rfl (yl_move rfl (HF.ev rfl)) ?_; clear HF; clear a; intro a HF
        refine HF.cases 33 rfl (fun cc4 HF1 => ?_) (fun cc4 HF1 => ?_)
        · clear HF; have HF := HF1; clear HF1
          refine wl_yg HF rfl rfl rfl rfl rfl (yl_move rfl (HF.ev rfl)) ?_; clear HF; clear a; intro a HF
          refine wl_yg HF rfl rfl rfl rfl rfl (yl_fieldAddr (j := 1) rfl (HF.ev rfl) (by kernel_rfl)) ?_; clear HF; clear a; intro a HF
          refine wl_yg HF rfl rfl rfl rfl rfl (yl_load (v := .int .i64 c.fGoal) rfl (HF.ev rfl) (((HS.out.box 1 rfl).cell 1).trans rfl) (by kernel_rfl)) ?_; clear HF; clear a; intro a HF
          refine wl_yg HF rfl rfl rfl rfl rfl (yl_eqlI rfl (HF.ev rfl) (HF.ev rfl)) ?_; clear HF; clear a; intro a HF
          refine wl_yg HF rfl rfl rfl rfl rfl (yl_pick_t rfl (HF.ev rfl) (HF.ev rfl)) ?_; clear HF; clear a; intro a HF
          refine wl_yg HF rfl rfl rfl rfl rfl (yl_pick_f rfl (HF.ev rfl) (HF.ev rfl)) ?_; clear HF; clear a; intro a HF
          refine wl_y rfl HF rfl rfl (yl_pick_t rfl (HF.ev rfl) (HF.ev rfl)) ?_; clear HF; clear a; intro a HF
          refine wl_y rfl HF rfl rfl (yl_move rfl (HF.ev rfl)) ?_; clear HF; clear a; intro a HF
          refine HF.cases 41 rfl (fun cc5 HF1 => ?_) (fun cc5 HF1 => ?_)
          · clear HF; have HF := HF1; clear HF1
            have cc5 := eq_of_beq cc5
            refine wl_skip HF rfl rfl rfl rfl rfl rfl ?_; clear HF; clear a; intro a HF
            refine wl_skip HF rfl rfl rfl rfl rfl rfl ?_; clear HF; clear a; intro a HF
            refine wl_y rfl HF rfl rfl (yl_pick_t rfl (HF.ev rfl) (HF.ev rfl)) ?_; clear HF; clear a; intro a HF
            refine wpList_nil ?_
            refine ex_then ?_
            refine wc_true HF rfl ?_
            refine wp_seq ?_
            obtain ⟨g, rfl, _, _, _, _⟩ := HS.out.rowOpen 2 rfl (by omega)
            refine wr_marked (W := w0) (s := boxA b2 6 48 (.agg #[.int .i64 0, .int .i64 0, .slice none 0 0, .slice none 0 0, .slice none 0 0, .slice none 0 0]) :: boxA b1 6 48 (.agg #[.int .i64 c.fRoom, .int .i64 c.fGoal, .slice (some ⟨g, 0, none⟩) c.fOnce.length c2, .slice a3 c.fOften.length c3, .slice a4 c.fPast.length c4, .slice a5 c.fFormer.length c5]) :: rowA encI 1 3 (.slice (some ⟨g, 0, none⟩) c.fOnce.length c2) c.fOnce :: rowA encI 1 3 (.slice a3 c.fOften.length c3) c.fOften :: rowA encI 1 3 (.slice a4 c.fPast.length c4) c.fPast :: rowA encI 1 3 (.slice a5 c.fFormer.length c5) c.fFormer :: F) 10 (by kernel_rfl) ?_
            have HS2 := Bx.mk HS.out.drew; replace HS := Bx.mk HS.out.drew; generalize World.drew _ = w9 at HS HS2 ⊢
            refine wm_t 0 rfl (by kernel_rfl) (by kernel_rfl) (by kernel_rfl) (fun _ _ _ h => h) (by decide) rfl HF rfl rfl (fun _ _ => (yl_fieldAddr (j := 4) rfl (HF.ev rfl) (by kernel_rfl))) (fun _ => HS.out) ?_; clear HF; clear a; intro a HF
            refine wm_y 1 rfl (by kernel_rfl) (by kernel_rfl) (by kernel_rfl) (fun _ _ _ h => h) (by decide) (by kernel_rfl) (by kernel_rfl) rfl HF rfl rfl (fun _ HS => (yl_load (v := .slice a4 c.fPast.length c4) rfl (HF.ev rfl) (((HS.box 1 rfl).cell 4).trans rfl) (by kernel_rfl))) HS.out ?_; clear HF; clear a; intro a HF
            refine wm_t 2 rfl (by kernel_rfl) (by kernel_rfl) (by kernel_rfl) (fun _ _ _ h => h) (by decide) rfl HF rfl rfl (fun _ _ => (yl_fieldAddr (j := 2) rfl (HF.ev rfl) (by kernel_rfl))) (fun _ => HS.out) ?_; clear HF; clear a; intro a HF
            refine wm_y 3 rfl (by kernel_rfl) (by kernel_rfl) (by kernel_rfl) (fun _ _ _ h => h) (by decide) (by kernel_rfl) (by kernel_rfl) rfl HF rfl rfl (fun _ HS => (yl_load (v := .slice (some ⟨g, 0, none⟩) c.fOnce.length c2) rfl (HF.ev rfl) (((HS.box 1 rfl).cell 2).trans rfl) (by kernel_rfl))) HS.out ?_; clear HF; clear a; intro a HF
            refine wm_t 4 rfl (by kernel_rfl) (by kernel_rfl) (by kernel_rfl) (fun _ _ _ h => h) (by decide) rfl HF rfl rfl (fun _ _ => (yl_move rfl (HF.ev rfl))) (fun _ => HS.out) ?_; clear HF; clear a; intro a HF
            refine wm_y 5 rfl (by kernel_rfl) (by kernel_rfl) (by kernel_rfl) (fun _ _ _ h => h) (by decide) (by kernel_rfl) (by kernel_rfl) rfl HF rfl rfl (fun _ HS => (yl_subI (r := ((c.fOnce.length - 1 : Nat) : Int)) rfl (HF.ev rfl) (HF.ev rfl) ((i64w (by omega)).trans (by omega)))) HS.out ?_; clear HF; clear a; intro a HF
            refine wm_y 6 rfl (by kernel_rfl) (by kernel_rfl) (by kernel_rfl) (fun _ _ _ h => h) (by decide) (by kernel_rfl) (by kernel_rfl) rfl HF rfl rfl (fun _ HS => (yl_indexAddr (e := 3) (i := c.fOnce.length - 1) (size := 1) rfl (HF.ev rfl) (HF.ev rfl) (by kernel_rfl) rfl (by omega))) HS.out ?_; clear HF; clear a; intro a HF
            refine wm_y 7 rfl (by kernel_rfl) (by kernel_rfl) (by kernel_rfl) (fun _ _ _ h => h) (by decide) (by kernel_rfl) (by kernel_rfl) rfl HF rfl rfl (fun _ HS => (yl_load (v := .int .i64 (c.fOnce.getD (c.fOnce.length - 1) 0)) rfl (HF.ev rfl) (HS.elem1 encI_len 2 rfl (get_getD (xs := c.fOnce) (j := c.fOnce.length - 1) (d := 0) (by omega)) rfl) (by kernel_rfl))) HS.out ?_; clear HF; clear a; intro a HF
            refine wm_one 8 (by kernel_rfl) ?_
            refine wo_call rfl rfl HF rfl (enter_of Try.func105 (by kernel_rfl) rfl) (args := #[.slice a4 c.fPast.length c4, .int .i64 (c.fOnce.getD (c.fOnce.length - 1) 0)]) rfl (l27Front_any _ _ c.fPast (c.fOnce.getD (c.fOnce.length - 1) 0) _ (by first | omega | (simp; omega)) (St.rdOf HS2.out encI_len 4 rfl)) rfl rfl ?_
            rintro _ w10 ⟨ao6, cp7, rfl, hn⟩
            refine ⟨_, rfl, ?_⟩; replace HS := Bx.mk (HS.out.later hn.bel); replace HS2 := Bx.mk (HS2.out.add hn); clear hn HF; clear a; intro a HF
            replace HS2 : Bx (St w0 (rowA encI 1 3 (.slice ao6 (((c.fOnce.getD (c.fOnce.length - 1) 0) :: c.fPast).length) cp7) ((c.fOnce.getD (c.fOnce.length - 1) 0) :: c.fPast) :: boxA b2 6 48 (.agg #[.int .i64 0, .int .i64 0, .slice none 0 0, .slice none 0 0, .slice none 0 0, .slice none 0 0]) :: boxA b1 6 48 (.agg #[.int .i64 c.fRoom, .int .i64 c.fGoal, .slice (some ⟨g, 0, none⟩) c.fOnce.length c2, .slice a3 c.fOften.length c3, .slice a4 c.fPast.length c4, .slice a5 c.fFormer.length c5]) :: rowA encI 1 3 (.slice (some ⟨g, 0, none⟩) c.fOnce.length c2) c.fOnce :: rowA encI 1 3 (.slice a3 c.fOften.length c3) c.fOften :: rowA encI 1 3 (.slice a4 c.fPast.length c4) c.fPast :: rowA encI 1 3 (.slice a5 c.fFormer.length c5) c.fFormer :: F) _) := ⟨HS2.out⟩
            refine ⟨fun _ => HS.out, ?_⟩
            refine wm_t 9 rfl (by kernel_rfl) (by kernel_rfl) (by kernel_rfl) (fun _ _ _ h => h) (by decide) rfl HF rfl rfl (fun _ _ => (yl_fieldAddr (j := 4) rfl (HF.ev rfl) (by kernel_rfl))) (fun _ => HS.out) ?_; clear HF; clear a; intro a HF
            refine wm_one 10 (by kernel_rfl) ?_
            refine wo_storeF rfl rfl rfl rfl (HF.ev rfl) (HF.ev rfl) (by kernel_rfl) HS2.out 2 rfl rfl rfl ?_
            clear HS2; intro w11 HS2; replace HS2 : Bx (St w0 (rowA encI 1 3 (.slice ao6 (((c.fOnce.getD (c.fOnce.length - 1) 0) :: c.fPast).length) cp7) ((c.fOnce.getD (c.fOnce.length - 1) 0) :: c.fPast) :: boxA b2 6 48 (.agg #[.int .i64 0, .int .i64 0, .slice none 0 0, .slice none 0 0, .slice none 0 0, .slice none 0 0]) :: boxA b1 6 48 (.agg #[.int .i64 c.fRoom, .int .i64 c.fGoal, .slice (some ⟨g, 0, none⟩) c.fOnce.length c2, .slice a3 c.fOften.length c3, .slice ao6 (((c.fOnce.getD (c.fOnce.length - 1) 0) :: c.fPast).length) cp7, .slice a5 c.fFormer.length c5]) :: rowA encI 1 3 (.slice (some ⟨g, 0, none⟩) c.fOnce.length c2) c.fOnce :: rowA encI 1 3 (.slice a3 c.fOften.length c3) c.fOften :: rowA encI 1 3 (.slice a4 c.fPast.length c4) c.fPast :: rowA encI 1 3 (.slice a5 c.fFormer.length c5) c.fFormer :: F) _) := ⟨HS2⟩; refine ⟨(fun h => absurd (show true = false from h) (by decide)), ?_⟩
            refine wm_done (by kernel_rfl) ?_
            clear HS; have HS := HS2; clear HS2
            refine ex_then ?_
            refine wp_seq ?_
            refine wp_region_lit ?_
            refine wl_y rfl HF rfl rfl (yl_fieldAddr (j := 2) rfl (HF.ev rfl) (by kernel_rfl)) ?_; clear HF; clear a; intro a HF
            refine wl_y rfl HF rfl rfl (yl_load (v := .slice (some ⟨g, 0, none⟩) c.fOnce.length c2) rfl (HF.ev rfl) (((HS.out.box 2 rfl).cell 2).trans rfl) (by kernel_rfl)) ?_; clear HF; clear a; intro a HF
            refine wl_y rfl HF rfl rfl (yl_move rfl (HF.ev rfl)) ?_; clear HF; clear a; intro a HF
            refine wl_y rfl HF rfl rfl (yl_subI (r := ((c.fOnce.length - 1 : Nat) : Int)) rfl (HF.ev rfl) (HF.ev rfl) ((i64w (by omega)).trans (by omega))) ?_; clear HF; clear a; intro a HF
            refine wl_y rfl HF rfl rfl (yl_sliceHi (e := 3) (size := 1) (k := c.fOnce.length - 1) rfl (HF.ev rfl) (HF.ev rfl) (by kernel_rfl) (by omega) (Nat.le_trans (by omega) (St.capLe HS.out 3 rfl))) ?_; clear HF; clear a; intro a HF
            replace HS := Bx.mk (HS.out.rowDrop encI_len 3 rfl)
            have HS : Bx (St w0 (rowA encI 1 3 (.slice ao6 (((c.fOnce.getD (c.fOnce.length - 1) 0) :: c.fPast).length) cp7) ((c.fOnce.getD (c.fOnce.length - 1) 0) :: c.fPast) :: boxA b2 6 48 (.agg #[.int .i64 0, .int .i64 0, .slice none 0 0, .slice none 0 0, .slice none 0 0, .slice none 0 0]) :: boxA b1 6 48 (.agg #[.int .i64 c.fRoom, .int .i64 c.fGoal, .slice (some ⟨g, 0, none⟩) c.fOnce.length c2, .slice a3 c.fOften.length c3, .slice ao6 (((c.fOnce.getD (c.fOnce.length - 1) 0) :: c.fPast).length) cp7, .slice a5 c.fFormer.length c5]) :: rowA encI 1 3 (.slice (some ⟨g, 0, none⟩) (c.fOnce.length - 1) c2) c.fOnce.dropLast :: rowA encI 1 3 (.slice a3 c.fOften.length c3) c.fOften :: rowA encI 1 3 (.slice a4 c.fPast.length c4) c.fPast :: rowA encI 1 3 (.slice a5 c.fFormer.length c5) c.fFormer :: F) _) := HS
            refine wl_y rfl HF rfl rfl (yl_fieldAddr (j := 2) rfl (HF.ev rfl) (by kernel_rfl)) ?_; clear HF; clear a; intro a HF
            refine wl_storeF rfl rfl rfl (HF.ev rfl) (HF.ev rfl) (by kernel_rfl) HS.out 2 rfl rfl rfl ?_; clear HS; intro w12 HS; replace HS := Bx.mk HS
            have HS : Bx (St w0 (rowA encI 1 3 (.slice ao6 (((c.fOnce.getD (c.fOnce.length - 1) 0) :: c.fPast).length) cp7) ((c.fOnce.getD (c.fOnce.length - 1) 0) :: c.fPast) :: boxA b2 6 48 (.agg #[.int .i64 0, .int .i64 0, .slice none 0 0, .slice none 0 0, .slice none 0 0, .slice none 0 0]) :: boxA b1 6 48 (.agg #[.int .i64 c.fRoom, .int .i64 c.fGoal, .slice (some ⟨g, 0, none⟩) (c.fOnce.length - 1) c2, .slice a3 c.fOften.length c3, .slice ao6 (((c.fOnce.getD (c.fOnce.length - 1) 0) :: c.fPast).length) cp7, .slice a5 c.fFormer.length c5]) :: rowA encI 1 3 (.slice (some ⟨g, 0, none⟩) (c.fOnce.length - 1) c2) c.fOnce.dropLast :: rowA encI 1 3 (.slice a3 c.fOften.length c3) c.fOften :: rowA encI 1 3 (.slice a4 c.fPast.length c4) c.fPast :: rowA encI 1 3 (.slice a5 c.fFormer.length c5) c.fFormer :: F) _) := HS
            refine wpList_nil ?_
            refine ex_then ?_
            refine wp_seq ?_
            refine wp_region_lit ?_
            refine wl_y rfl HF rfl rfl (yl_loadR (cs := [.int .i64 c.fRoom, .int .i64 c.fGoal, .slice (some ⟨g, 0, none⟩) (c.fOnce.length - 1) c2, .slice a3 c.fOften.length c3, .slice ao6 (((c.fOnce.getD (c.fOnce.length - 1) 0) :: c.fPast).length) cp7, .slice a5 c.fFormer.length c5]) rfl (HF.ev rfl) ((HS.out.box 2 rfl).sub 0 6) (by kernel_rfl)) ?_; clear HF; clear a; intro a HF
            refine wl_storeBox rfl HF rfl rfl (HF.ev rfl) (HF.ev rfl) HS.out 1 rfl (cells_lit [.int .i64 c.fRoom, .int .i64 c.fGoal, .slice (some ⟨g, 0, none⟩) (c.fOnce.length - 1) c2, .slice a3 c.fOften.length c3, .slice ao6 (((c.fOnce.getD (c.fOnce.length - 1) 0) :: c.fPast).length) cp7, .slice a5 c.fFormer.length c5] rfl rfl) (by kernel_rfl) ?_; clear HS; intro w13 HS; replace HS := Bx.mk HS
            have HS : Bx (St w0 (rowA encI 1 3 (.slice ao6 (((c.fOnce.getD (c.fOnce.length - 1) 0) :: c.fPast).length) cp7) ((c.fOnce.getD (c.fOnce.length - 1) 0) :: c.fPast) :: boxA b2 6 48 (.agg #[.int .i64 c.fRoom, .int .i64 c.fGoal, .slice (some ⟨g, 0, none⟩) (c.fOnce.length - 1) c2, .slice a3 c.fOften.length c3, .slice ao6 (((c.fOnce.getD (c.fOnce.length - 1) 0) :: c.fPast).length) cp7, .slice a5 c.fFormer.length c5]) :: boxA b1 6 48 (.agg #[.int .i64 c.fRoom, .int .i64 c.fGoal, .slice (some ⟨g, 0, none⟩) (c.fOnce.length - 1) c2, .slice a3 c.fOften.length c3, .slice ao6 (((c.fOnce.getD (c.fOnce.length - 1) 0) :: c.fPast).length) cp7, .slice a5 c.fFormer.length c5]) :: rowA encI 1 3 (.slice (some ⟨g, 0, none⟩) (c.fOnce.length - 1) c2) c.fOnce.dropLast :: rowA encI 1 3 (.slice a3 c.fOften.length c3) c.fOften :: rowA encI 1 3 (.slice a4 c.fPast.length c4) c.fPast :: rowA encI 1 3 (.slice a5 c.fFormer.length c5) c.fFormer :: F) _) := HS
            refine wpList_nil ?_
            refine ex_then ?_
            refine wp_ret ?_
            refine ex_then_ret ?_
            refine bp_ret1 HF Try.results106 (HF.resBox rfl (HS.out.box 1 rfl) (by kernel_rfl)) ?_
            replace HS : Bx (St w0 (rowA encI 1 3 (.slice (some ⟨g, 0, none⟩) (c.fOnce.length - 1) c2) c.fOnce.dropLast :: rowA encI 1 3 (.slice a3 c.fOften.length c3) c.fOften :: rowA encI 1 3 (.slice ao6 (((c.fOnce.getD (c.fOnce.length - 1) 0) :: c.fPast).length) cp7) ((c.fOnce.getD (c.fOnce.length - 1) 0) :: c.fPast) :: rowA encI 1 3 (.slice a5 c.fFormer.length c5) c.fFormer :: boxA b2 6 48 (.agg #[.int .i64 c.fRoom, .int .i64 c.fGoal, .slice (some ⟨g, 0, none⟩) (c.fOnce.length - 1) c2, .slice a3 c.fOften.length c3, .slice ao6 (((c.fOnce.getD (c.fOnce.length - 1) 0) :: c.fPast).length) cp7, .slice a5 c.fFormer.length c5]) :: boxA b1 6 48 (.agg #[.int .i64 c.fRoom, .int .i64 c.fGoal, .slice (some ⟨g, 0, none⟩) (c.fOnce.length - 1) c2, .slice a3 c.fOften.length c3, .slice ao6 (((c.fOnce.getD (c.fOnce.length - 1) 0) :: c.fPast).length) cp7, .slice a5 c.fFormer.length c5]) :: rowA encI 1 3 (.slice a4 c.fPast.length c4) c.fPast :: F) _) := ⟨((((HS.out).pick 6 rfl).pick 1 rfl).pick 5 rfl).pick 5 rfl⟩
            have hw : c.wayC former = { c with fPast := lastI c.fOnce :: c.fPast, fOnce := c.fOnce.dropLast } := by unfold CacheD.wayC; rw [if_neg (by omega), if_pos ((wayC_cond c former).2 ⟨by omega, by first | exact .inl (by omega) | exact .inr (.inl ⟨by assumption, by omega⟩) | exact .inr (.inr (by omega))⟩)]
            have HT := (((HS.out.erase 6).erase 5).erase 4)
            rw [show c.fOnce.getD (c.fOnce.length - 1) 0 = lastI c.fOnce from rfl] at HT ⊢
            rw [show c.fOnce.length - 1 = c.fOnce.dropLast.length by rw [List.length_dropLast]] at HT ⊢
            rw [hw]; exact ⟨_, rfl, _, _, _, _, _, _, _, _, rfl, HT⟩
          · clear HF; have HF := HF1; clear HF1
            have cc5 := ne_of_beq_false cc5
            refine wl_yg HF rfl rfl rfl rfl rfl (yl_move rfl (HF.ev rfl)) ?_; clear HF; clear a; intro a HF
            refine wl_yg HF rfl rfl rfl rfl rfl (yl_eqlI rfl (HF.ev rfl) (HF.ev rfl)) ?_; clear HF; clear a; intro a HF
            refine wl_y rfl HF rfl rfl (yl_pick_f rfl (HF.ev rfl) (HF.ev rfl)) ?_; clear HF; clear a; intro a HF
            refine wpList_nil ?_
            refine ex_then ?_
            refine HF.cases 44 rfl (fun cc6 HF1 => ?_) (fun cc6 HF1 => ?_)
            · clear HF; have HF := HF1; clear HF1
              have cc6 := eq_of_beq cc6
              refine wc_true HF rfl ?_
              refine wp_seq ?_
              obtain ⟨g, rfl, _, _, _, _⟩ := HS.out.rowOpen 2 rfl (by omega)
              refine wr_marked (W := w0) (s := boxA b2 6 48 (.agg #[.int .i64 0, .int .i64 0, .slice none 0 0, .slice none 0 0, .slice none 0 0, .slice none 0 0]) :: boxA b1 6 48 (.agg #[.int .i64 c.fRoom, .int .i64 c.fGoal, .slice (some ⟨g, 0, none⟩) c.fOnce.length c2, .slice a3 c.fOften.length c3, .slice a4 c.fPast.length c4, .slice a5 c.fFormer.length c5]) :: rowA encI 1 3 (.slice (some ⟨g, 0, none⟩) c.fOnce.length c2) c.fOnce :: rowA encI 1 3 (.slice a3 c.fOften.length c3) c.fOften :: rowA encI 1 3 (.slice a4 c.fPast.length c4) c.fPast :: rowA encI 1 3 (.slice a5 c.fFormer.length c5) c.fFormer :: F) 10 (by kernel_rfl) ?_
              have HS2 := Bx.mk HS.out.drew; replace HS := Bx.mk HS.out.drew; generalize World.drew _ = w14 at HS HS2 ⊢
              refine wm_t 0 rfl (by kernel_rfl) (by kernel_rfl) (by kernel_rfl) (fun _ _ _ h => h) (by decide) rfl HF rfl rfl (fun _ _ => (yl_fieldAddr (j := 4) rfl (HF.ev rfl) (by kernel_rfl))) (fun _ => HS.out) ?_; clear HF; clear a; intro a HF
              refine wm_y 1 rfl (by kernel_rfl) (by kernel_rfl) (by kernel_rfl) (fun _ _ _ h => h) (by decide) (by kernel_rfl) (by kernel_rfl) rfl HF rfl rfl (fun _ HS => (yl_load (v := .slice a4 c.fPast.length c4) rfl (HF.ev rfl) (((HS.box 1 rfl).cell 4).trans rfl) (by kernel_rfl))) HS.out ?_; clear HF; clear a; intro a HF
              refine wm_t 2 rfl (by kernel_rfl) (by kernel_rfl) (by kernel_rfl) (fun _ _ _ h => h) (by decide) rfl HF rfl rfl (fun _ _ => (yl_fieldAddr (j := 2) rfl (HF.ev rfl) (by kernel_rfl))) (fun _ => HS.out) ?_; clear HF; clear a; intro a HF
              refine wm_y 3 rfl (by kernel_rfl) (by kernel_rfl) (by kernel_rfl) (fun _ _ _ h => h) (by decide) (by kernel_rfl) (by kernel_rfl) rfl HF rfl rfl (fun _ HS => (yl_load (v := .slice (some ⟨g, 0, none⟩) c.fOnce.length c2) rfl (HF.ev rfl) (((HS.box 1 rfl).cell 2).trans rfl) (by kernel_rfl))) HS.out ?_; clear HF; clear a; intro a HF
              refine wm_t 4 rfl (by kernel_rfl) (by kernel_rfl) (by kernel_rfl) (fun _ _ _ h => h) (by decide) rfl HF rfl rfl (fun _ _ => (yl_move rfl (HF.ev rfl))) (fun _ => HS.out) ?_; clear HF; clear a; intro a HF
              refine wm_y 5 rfl (by kernel_rfl) (by kernel_rfl) (by kernel_rfl) (fun _ _ _ h => h) (by decide) (by kernel_rfl) (by kernel_rfl) rfl HF rfl rfl (fun _ HS => (yl_subI (r := ((c.fOnce.length - 1 : Nat) : Int)) rfl (HF.ev rfl) (HF.ev rfl) ((i64w (by omega)).trans (by omega)))) HS.out ?_; clear HF; clear a; intro a HF
              refine wm_y 6 rfl (by kernel_rfl) (by kernel_rfl) (by kernel_rfl) (fun _ _ _ h => h) (by decide) (by kernel_rfl) (by kernel_rfl) rfl HF rfl rfl (fun _ HS => (yl_indexAddr (e := 3) (i := c.fOnce.length - 1) (size := 1) rfl (HF.ev rfl) (HF.ev rfl) (by kernel_rfl) rfl (by omega))) HS.out ?_; clear HF; clear a; intro a HF
              refine wm_y 7 rfl (by kernel_rfl) (by kernel_rfl) (by kernel_rfl) (fun _ _ _ h => h) (by decide) (by kernel_rfl) (by kernel_rfl) rfl HF rfl rfl (fun _ HS => (yl_load (v := .int .i64 (c.fOnce.getD (c.fOnce.length - 1) 0)) rfl (HF.ev rfl) (HS.elem1 encI_len 2 rfl (get_getD (xs := c.fOnce) (j := c.fOnce.length - 1) (d := 0) (by omega)) rfl) (by kernel_rfl))) HS.out ?_; clear HF; clear a; intro a HF
              refine wm_one 8 (by kernel_rfl) ?_
              refine wo_call rfl rfl HF rfl (enter_of Try.func105 (by kernel_rfl) rfl) (args := #[.slice a4 c.fPast.length c4, .int .i64 (c.fOnce.getD (c.fOnce.length - 1) 0)]) rfl (l27Front_any _ _ c.fPast (c.fOnce.getD (c.fOnce.length - 1) 0) _ (by first | omega | (simp; omega)) (St.rdOf HS2.out encI_len 4 rfl)) rfl rfl ?_
              rintro _ w15 ⟨ao9, cp10, rfl, hn⟩
              refine ⟨_, rfl, ?_⟩; replace HS := Bx.mk (HS.out.later hn.bel); replace HS2 := Bx.mk (HS2.out.add hn); clear hn HF; clear a; intro a HF
              replace HS2 : Bx (St w0 (rowA encI 1 3 (.slice ao9 (((c.fOnce.getD (c.fOnce.length - 1) 0) :: c.fPast).length) cp10) ((c.fOnce.getD (c.fOnce.length - 1) 0) :: c.fPast) :: boxA b2 6 48 (.agg #[.int .i64 0, .int .i64 0, .slice none 0 0, .slice none 0 0, .slice none 0 0, .slice none 0 0]) :: boxA b1 6 48 (.agg #[.int .i64 c.fRoom, .int .i64 c.fGoal, .slice (some ⟨g, 0, none⟩) c.fOnce.length c2, .slice a3 c.fOften.length c3, .slice a4 c.fPast.length c4, .slice a5 c.fFormer.length c5]) :: rowA encI 1 3 (.slice (some ⟨g, 0, none⟩) c.fOnce.length c2) c.fOnce :: rowA encI 1 3 (.slice a3 c.fOften.length c3) c.fOften :: rowA encI 1 3 (.slice a4 c.fPast.length c4) c.fPast :: rowA encI 1 3 (.slice a5 c.fFormer.length c5) c.fFormer :: F) _) := ⟨HS2.out⟩
              refine ⟨fun _ => HS.out, ?_⟩
              refine wm_t 9 rfl (by kernel_rfl) (by kernel_rfl) (by kernel_rfl) (fun _ _ _ h => h) (by decide) rfl HF rfl rfl (fun _ _ => (yl_fieldAddr (j := 4) rfl (HF.ev rfl) (by kernel_rfl))) (fun _ => HS.out) ?_; clear HF; clear a; intro a HF
              refine wm_one 10 (by kernel_rfl) ?_
              refine wo_storeF rfl rfl rfl rfl (HF.ev rfl) (HF.ev rfl) (by kernel_rfl) HS2.out 2 rfl rfl rfl ?_
              clear HS2; intro w16 HS2; replace HS2 : Bx (St w0 (rowA encI 1 3 (.slice ao9 (((c.fOnce.getD (c.fOnce.length - 1) 0) :: c.fPast).length) cp10) ((c.fOnce.getD (c.fOnce.length - 1) 0) :: c.fPast) :: boxA b2 6 48 (.agg #[.int .i64 0, .int .i64 0, .slice none 0 0, .slice none 0 0, .slice none 0 0, .slice none 0 0]) :: boxA b1 6 48 (.agg #[.int .i64 c.fRoom, .int .i64 c.fGoal, .slice (some ⟨g, 0, none⟩) c.fOnce.length c2, .slice a3 c.fOften.length c3, .slice ao9 (((c.fOnce.getD (c.fOnce.length - 1) 0) :: c.fPast).length) cp10, .slice a5 c.fFormer.length c5]) :: rowA encI 1 3 (.slice (some ⟨g, 0, none⟩) c.fOnce.length c2) c.fOnce :: rowA encI 1 3 (.slice a3 c.fOften.length c3) c.fOften :: rowA encI 1 3 (.slice a4 c.fPast.length c4) c.fPast :: rowA encI 1 3 (.slice a5 c.fFormer.length c5) c.fFormer :: F) _) := ⟨HS2⟩; refine ⟨(fun h => absurd (show true = false from h) (by decide)), ?_⟩
              refine wm_done (by kernel_rfl) ?_
              clear HS; have HS := HS2; clear HS2
              refine ex_then ?_
              refine wp_seq ?_
              refine wp_region_lit ?_
              refine wl_y rfl HF rfl rfl (yl_fieldAddr (j := 2) rfl (HF.ev rfl) (by kernel_rfl)) ?_; clear HF; clear a; intro a HF
              refine wl_y rfl HF rfl rfl (yl_load (v := .slice (some ⟨g, 0, none⟩) c.fOnce.length c2) rfl (HF.ev rfl) (((HS.out.box 2 rfl).cell 2).trans rfl) (by kernel_rfl)) ?_; clear HF; clear a; intro a HF
              refine wl_y rfl HF rfl rfl (yl_move rfl (HF.ev rfl)) ?_; clear HF; clear a; intro a HF
              refine wl_y rfl HF rfl rfl (yl_subI (r := ((c.fOnce.length - 1 : Nat) : Int)) rfl (HF.ev rfl) (HF.ev rfl) ((i64w (by omega)).trans (by omega))) ?_; clear HF; clear a; intro a HF
              refine wl_y rfl HF rfl rfl (yl_sliceHi (e := 3) (size := 1) (k := c.fOnce.length - 1) rfl (HF.ev rfl) (HF.ev rfl) (by kernel_rfl) (by omega) (Nat.le_trans (by omega) (St.capLe HS.out 3 rfl))) ?_; clear HF; clear a; intro a HF
              replace HS := Bx.mk (HS.out.rowDrop encI_len 3 rfl)
              have HS : Bx (St w0 (rowA encI 1 3 (.slice ao9 (((c.fOnce.getD (c.fOnce.length - 1) 0) :: c.fPast).length) cp10) ((c.fOnce.getD (c.fOnce.length - 1) 0) :: c.fPast) :: boxA b2 6 48 (.agg #[.int .i64 0, .int .i64 0, .slice none 0 0, .slice none 0 0, .slice none 0 0, .slice none 0 0]) :: boxA b1 6 48 (.agg #[.int .i64 c.fRoom, .int .i64 c.fGoal, .slice (some ⟨g, 0, none⟩) c.fOnce.length c2, .slice a3 c.fOften.length c3, .slice ao9 (((c.fOnce.getD (c.fOnce.length - 1) 0) :: c.fPast).length) cp10, .slice a5 c.fFormer.length c5]) :: rowA encI 1 3 (.slice (some ⟨g, 0, none⟩) (c.fOnce.length - 1) c2) c.fOnce.dropLast :: rowA encI 1 3 (.slice a3 c.fOften.length c3) c.fOften :: rowA encI 1 3 (.slice a4 c.fPast.length c4) c.fPast :: rowA encI 1 3 (.slice a5 c.fFormer.length c5) c.fFormer :: F) _) := HS
              refine wl_y rfl HF rfl rfl (yl_fieldAddr (j := 2) rfl (HF.ev rfl) (by kernel_rfl)) ?_; clear HF; clear a; intro a HF
              refine wl_storeF rfl rfl rfl (HF.ev rfl) (HF.ev rfl) (by kernel_rfl) HS.out 2 rfl rfl rfl ?_; clear HS; intro w17 HS; replace HS := Bx.mk HS
              have HS : Bx (St w0 (rowA encI 1 3 (.slice ao9 (((c.fOnce.getD (c.fOnce.length - 1) 0) :: c.fPast).length) cp10) ((c.fOnce.getD (c.fOnce.length - 1) 0) :: c.fPast) :: boxA b2 6 48 (.agg #[.int .i64 0, .int .i64 0, .slice none 0 0, .slice none 0 0, .slice none 0 0, .slice none 0 0]) :: boxA b1 6 48 (.agg #[.int .i64 c.fRoom, .int .i64 c.fGoal, .slice (some ⟨g, 0, none⟩) (c.fOnce.length - 1) c2, .slice a3 c.fOften.length c3, .slice ao9 (((c.fOnce.getD (c.fOnce.length - 1) 0) :: c.fPast).length) cp10, .slice a5 c.fFormer.length c5]) :: rowA encI 1 3 (.slice (some ⟨g, 0, none⟩) (c.fOnce.length - 1) c2) c.fOnce.dropLast :: rowA encI 1 3 (.slice a3 c.fOften.length c3) c.fOften :: rowA encI 1 3 (.slice a4 c.fPast.length c4) c.fPast :: rowA encI 1 3 (.slice a5 c.fFormer.length c5) c.fFormer :: F) _) := HS
              refine wpList_nil ?_
              refine ex_then ?_
              refine wp_seq ?_
              refine wp_region_lit ?_
              refine wl_y rfl HF rfl rfl (yl_loadR (cs := [.int .i64 c.fRoom, .int .i64 c.fGoal, .slice (some ⟨g, 0, none⟩) (c.fOnce.length - 1) c2, .slice a3 c.fOften.length c3, .slice ao9 (((c.fOnce.getD (c.fOnce.length - 1) 0) :: c.fPast).length) cp10, .slice a5 c.fFormer.length c5]) rfl (HF.ev rfl) ((HS.out.box 2 rfl).sub 0 6) (by kernel_rfl)) ?_; clear HF; clear a; intro a HF
              refine wl_storeBox rfl HF rfl rfl (HF.ev rfl) (HF.ev rfl) HS.out 1 rfl (cells_lit [.int .i64 c.fRoom, .int .i64 c.fGoal, .slice (some ⟨g, 0, none⟩) (c.fOnce.length - 1) c2, .slice a3 c.fOften.length c3, .slice ao9 (((c.fOnce.getD (c.fOnce.length - 1) 0) :: c.fPast).length) cp10, .slice a5 c.fFormer.length c5] rfl rfl) (by kernel_rfl) ?_; clear HS; intro w18 HS; replace HS := Bx.mk HS
              have HS : Bx (St w0 (rowA encI 1 3 (.slice ao9 (((c.fOnce.getD (c.fOnce.length - 1) 0) :: c.fPast).length) cp10) ((c.fOnce.getD (c.fOnce.length - 1) 0) :: c.fPast) :: boxA b2 6 48 (.agg #[.int .i64 c.fRoom, .int .i64 c.fGoal, .slice (some ⟨g, 0, none⟩) (c.fOnce.length - 1) c2, .slice a3 c.fOften.length c3, .slice ao9 (((c.fOnce.getD (c.fOnce.length - 1) 0) :: c.fPast).length) cp10, .slice a5 c.fFormer.length c5]) :: boxA b1 6 48 (.agg #[.int .i64 c.fRoom, .int .i64 c.fGoal, .slice (some ⟨g, 0, none⟩) (c.fOnce.length - 1) c2, .slice a3 c.fOften.length c3, .slice ao9 (((c.fOnce.getD (c.fOnce.length - 1) 0) :: c.fPast).length) cp10, .slice a5 c.fFormer.length c5]) :: rowA encI 1 3 (.slice (some ⟨g, 0, none⟩) (c.fOnce.length - 1) c2) c.fOnce.dropLast :: rowA encI 1 3 (.slice a3 c.fOften.length c3) c.fOften :: rowA encI 1 3 (.slice a4 c.fPast.length c4) c.fPast :: rowA encI 1 3 (.slice a5 c.fFormer.length c5) c.fFormer :: F) _) := HS
              refine wpList_nil ?_
              refine ex_then ?_
              refine wp_ret ?_
              refine ex_then_ret ?_
              refine bp_ret1 HF Try.results106 (HF.resBox rfl (HS.out.box 1 rfl) (by kernel_rfl)) ?_
              replace HS : Bx (St w0 (rowA encI 1 3 (.slice (some ⟨g, 0, none⟩) (c.fOnce.length - 1) c2) c.fOnce.dropLast :: rowA encI 1 3 (.slice a3 c.fOften.length c3) c.fOften :: rowA encI 1 3 (.slice ao9 (((c.fOnce.getD (c.fOnce.length - 1) 0) :: c.fPast).length) cp10) ((c.fOnce.getD (c.fOnce.length - 1) 0) :: c.fPast) :: rowA encI 1 3 (.slice a5 c.fFormer.length c5) c.fFormer :: boxA b2 6 48 (.agg #[.int .i64 c.fRoom, .int .i64 c.fGoal, .slice (some ⟨g, 0, none⟩) (c.fOnce.length - 1) c2, .slice a3 c.fOften.length c3, .slice ao9 (((c.fOnce.getD (c.fOnce.length - 1) 0) :: c.fPast).length) cp10, .slice a5 c.fFormer.length c5]) :: boxA b1 6 48 (.agg #[.int .i64 c.fRoom, .int .i64 c.fGoal, .slice (some ⟨g, 0, none⟩) (c.fOnce.length - 1) c2, .slice a3 c.fOften.length c3, .slice ao9 (((c.fOnce.getD (c.fOnce.length - 1) 0) :: c.fPast).length) cp10, .slice a5 c.fFormer.length c5]) :: rowA encI 1 3 (.slice a4 c.fPast.length c4) c.fPast :: F) _) := ⟨((((HS.out).pick 6 rfl).pick 1 rfl).pick 5 rfl).pick 5 rfl⟩
              have hw : c.wayC former = { c with fPast := lastI c.fOnce :: c.fPast, fOnce := c.fOnce.dropLast } := by unfold CacheD.wayC; rw [if_neg (by omega), if_pos ((wayC_cond c former).2 ⟨by omega, by first | exact .inl (by omega) | exact .inr (.inl ⟨by assumption, by omega⟩) | exact .inr (.inr (by omega))⟩)]
              have HT := (((HS.out.erase 6).erase 5).erase 4)
              rw [show c.fOnce.getD (c.fOnce.length - 1) 0 = lastI c.fOnce from rfl] at HT ⊢
              rw [show c.fOnce.length - 1 = c.fOnce.dropLast.length by rw [List.length_dropLast]] at HT ⊢
              rw [hw]; exact ⟨_, rfl, _, _, _, _, _, _, _, _, rfl, HT⟩
            · clear HF; have HF := HF1; clear HF1
              have cc6 := ne_of_beq_false cc6
              refine wc_false HF rfl ?_
              refine wp_skip ?_
              refine ex_then ?_
              refine wp_seq ?_
              obtain ⟨g, rfl, _, _, _, _⟩ := HS.out.rowOpen 3 rfl (by omega)
              refine wr_marked (W := w0) (s := boxA b2 6 48 (.agg #[.int .i64 0, .int .i64 0, .slice none 0 0, .slice none 0 0, .slice none 0 0, .slice none 0 0]) :: boxA b1 6 48 (.agg #[.int .i64 c.fRoom, .int .i64 c.fGoal, .slice a2 c.fOnce.length c2, .slice (some ⟨g, 0, none⟩) c.fOften.length c3, .slice a4 c.fPast.length c4, .slice a5 c.fFormer.length c5]) :: rowA encI 1 3 (.slice a2 c.fOnce.length c2) c.fOnce :: rowA encI 1 3 (.slice (some ⟨g, 0, none⟩) c.fOften.length c3) c.fOften :: rowA encI 1 3 (.slice a4 c.fPast.length c4) c.fPast :: rowA encI 1 3 (.slice a5 c.fFormer.length c5) c.fFormer :: F) 10 (by kernel_rfl) ?_
              have HS2 := Bx.mk HS.out.drew; replace HS := Bx.mk HS.out.drew; generalize World.drew _ = w19 at HS HS2 ⊢
              refine wm_t 0 rfl (by kernel_rfl) (by kernel_rfl) (by kernel_rfl) (fun _ _ _ h => h) (by decide) rfl HF rfl rfl (fun _ _ => (yl_fieldAddr (j := 5) rfl (HF.ev rfl) (by kernel_rfl))) (fun _ => HS.out) ?_; clear HF; clear a; intro a HF
              refine wm_y 1 rfl (by kernel_rfl) (by kernel_rfl) (by kernel_rfl) (fun _ _ _ h => h) (by decide) (by kernel_rfl) (by kernel_rfl) rfl HF rfl rfl (fun _ HS => (yl_load (v := .slice a5 c.fFormer.length c5) rfl (HF.ev rfl) (((HS.box 1 rfl).cell 5).trans rfl) (by kernel_rfl))) HS.out ?_; clear HF; clear a; intro a HF
              refine wm_t 2 rfl (by kernel_rfl) (by kernel_rfl) (by kernel_rfl) (fun _ _ _ h => h) (by decide) rfl HF rfl rfl (fun _ _ => (yl_fieldAddr (j := 3) rfl (HF.ev rfl) (by kernel_rfl))) (fun _ => HS.out) ?_; clear HF; clear a; intro a HF
              refine wm_y 3 rfl (by kernel_rfl) (by kernel_rfl) (by kernel_rfl) (fun _ _ _ h => h) (by decide) (by kernel_rfl) (by kernel_rfl) rfl HF rfl rfl (fun _ HS => (yl_load (v := .slice (some ⟨g, 0, none⟩) c.fOften.length c3) rfl (HF.ev rfl) (((HS.box 1 rfl).cell 3).trans rfl) (by kernel_rfl))) HS.out ?_; clear HF; clear a; intro a HF
              refine wm_t 4 rfl (by kernel_rfl) (by kernel_rfl) (by kernel_rfl) (fun _ _ _ h => h) (by decide) rfl HF rfl rfl (fun _ _ => (yl_move rfl (HF.ev rfl))) (fun _ => HS.out) ?_; clear HF; clear a; intro a HF
              refine wm_y 5 rfl (by kernel_rfl) (by kernel_rfl) (by kernel_rfl) (fun _ _ _ h => h) (by decide) (by kernel_rfl) (by kernel_rfl) rfl HF rfl rfl (fun _ HS => (yl_subI (r := ((c.fOften.length - 1 : Nat) : Int)) rfl (HF.ev rfl) (HF.ev rfl) ((i64w (by omega)).trans (by omega)))) HS.out ?_; clear HF; clear a; intro a HF
              refine wm_y 6 rfl (by kernel_rfl) (by kernel_rfl) (by kernel_rfl) (fun _ _ _ h => h) (by decide) (by kernel_rfl) (by kernel_rfl) rfl HF rfl rfl (fun _ HS => (yl_indexAddr (e := 3) (i := c.fOften.length - 1) (size := 1) rfl (HF.ev rfl) (HF.ev rfl) (by kernel_rfl) rfl (by omega))) HS.out ?_; clear HF; clear a; intro a HF
              refine wm_y 7 rfl (by kernel_rfl) (by kernel_rfl) (by kernel_rfl) (fun _ _ _ h => h) (by decide) (by kernel_rfl) (by kernel_rfl) rfl HF rfl rfl (fun _ HS => (yl_load (v := .int .i64 (c.fOften.getD (c.fOften.length - 1) 0)) rfl (HF.ev rfl) (HS.elem1 encI_len 3 rfl (get_getD (xs := c.fOften) (j := c.fOften.length - 1) (d := 0) (by omega)) rfl) (by kernel_rfl))) HS.out ?_; clear HF; clear a; intro a HF
              refine wm_one 8 (by kernel_rfl) ?_
              refine wo_call rfl rfl HF rfl (enter_of Try.func105 (by kernel_rfl) rfl) (args := #[.slice a5 c.fFormer.length c5, .int .i64 (c.fOften.getD (c.fOften.length - 1) 0)]) rfl (l27Front_any _ _ c.fFormer (c.fOften.getD (c.fOften.length - 1) 0) _ (by first | omega | (simp; omega)) (St.rdOf HS2.out encI_len 5 rfl)) rfl rfl ?_
              rintro _ w20 ⟨ao12, cp13, rfl, hn⟩
              refine ⟨_, rfl, ?_⟩; replace HS := Bx.mk (HS.out.later hn.bel); replace HS2 := Bx.mk (HS2.out.add hn); clear hn HF; clear a; intro a HF
              replace HS2 : Bx (St w0 (rowA encI 1 3 (.slice ao12 (((c.fOften.getD (c.fOften.length - 1) 0) :: c.fFormer).length) cp13) ((c.fOften.getD (c.fOften.length - 1) 0) :: c.fFormer) :: boxA b2 6 48 (.agg #[.int .i64 0, .int .i64 0, .slice none 0 0, .slice none 0 0, .slice none 0 0, .slice none 0 0]) :: boxA b1 6 48 (.agg #[.int .i64 c.fRoom, .int .i64 c.fGoal, .slice a2 c.fOnce.length c2, .slice (some ⟨g, 0, none⟩) c.fOften.length c3, .slice a4 c.fPast.length c4, .slice a5 c.fFormer.length c5]) :: rowA encI 1 3 (.slice a2 c.fOnce.length c2) c.fOnce :: rowA encI 1 3 (.slice (some ⟨g, 0, none⟩) c.fOften.length c3) c.fOften :: rowA encI 1 3 (.slice a4 c.fPast.length c4) c.fPast :: rowA encI 1 3 (.slice a5 c.fFormer.length c5) c.fFormer :: F) _) := ⟨HS2.out⟩
              refine ⟨fun _ => HS.out, ?_⟩
              refine wm_t 9 rfl (by kernel_rfl) (by kernel_rfl) (by kernel_rfl) (fun _ _ _ h => h) (by decide) rfl HF rfl rfl (fun _ _ => (yl_fieldAddr (j := 5) rfl (HF.ev rfl) (by kernel_rfl))) (fun _ => HS.out) ?_; clear HF; clear a; intro a HF
              refine wm_one 10 (by kernel_rfl) ?_
              refine wo_storeF rfl rfl rfl rfl (HF.ev rfl) (HF.ev rfl) (by kernel_rfl) HS2.out 2 rfl rfl rfl ?_
              clear HS2; intro w21 HS2; replace HS2 : Bx (St w0 (rowA encI 1 3 (.slice ao12 (((c.fOften.getD (c.fOften.length - 1) 0) :: c.fFormer).length) cp13) ((c.fOften.getD (c.fOften.length - 1) 0) :: c.fFormer) :: boxA b2 6 48 (.agg #[.int .i64 0, .int .i64 0, .slice none 0 0, .slice none 0 0, .slice none 0 0, .slice none 0 0]) :: boxA b1 6 48 (.agg #[.int .i64 c.fRoom, .int .i64 c.fGoal, .slice a2 c.fOnce.length c2, .slice (some ⟨g, 0, none⟩) c.fOften.length c3, .slice a4 c.fPast.length c4, .slice ao12 (((c.fOften.getD (c.fOften.length - 1) 0) :: c.fFormer).length) cp13]) :: rowA encI 1 3 (.slice a2 c.fOnce.length c2) c.fOnce :: rowA encI 1 3 (.slice (some ⟨g, 0, none⟩) c.fOften.length c3) c.fOften :: rowA encI 1 3 (.slice a4 c.fPast.length c4) c.fPast :: rowA encI 1 3 (.slice a5 c.fFormer.length c5) c.fFormer :: F) _) := ⟨HS2⟩; refine ⟨(fun h => absurd (show true = false from h) (by decide)), ?_⟩
              refine wm_done (by kernel_rfl) ?_
              clear HS; have HS := HS2; clear HS2
              refine ex_then ?_
              refine wp_seq ?_
              refine wp_region_lit ?_
              refine wl_y rfl HF rfl rfl (yl_fieldAddr (j := 3) rfl (HF.ev rfl) (by kernel_rfl)) ?_; clear HF; clear a; intro a HF
              refine wl_y rfl HF rfl rfl (yl_load (v := .slice (some ⟨g, 0, none⟩) c.fOften.length c3) rfl (HF.ev rfl) (((HS.out.box 2 rfl).cell 3).trans rfl) (by kernel_rfl)) ?_; clear HF; clear a; intro a HF
              refine wl_y rfl HF rfl rfl (yl_move rfl (HF.ev rfl)) ?_; clear HF; clear a; intro a HF
              refine wl_y rfl HF rfl rfl (yl_subI (r := ((c.fOften.length - 1 : Nat) : Int)) rfl (HF.ev rfl) (HF.ev rfl) ((i64w (by omega)).trans (by omega))) ?_; clear HF; clear a; intro a HF
              refine wl_y rfl HF rfl rfl (yl_sliceHi (e := 3) (size := 1) (k := c.fOften.length - 1) rfl (HF.ev rfl) (HF.ev rfl) (by kernel_rfl) (by omega) (Nat.le_trans (by omega) (St.capLe HS.out 4 rfl))) ?_; clear HF; clear a; intro a HF
              replace HS := Bx.mk (HS.out.rowDrop encI_len 4 rfl)
              have HS : Bx (St w0 (rowA encI 1 3 (.slice ao12 (((c.fOften.getD (c.fOften.length - 1) 0) :: c.fFormer).length) cp13) ((c.fOften.getD (c.fOften.length - 1) 0) :: c.fFormer) :: boxA b2 6 48 (.agg #[.int .i64 0, .int .i64 0, .slice none 0 0, .slice none 0 0, .slice none 0 0, .slice none 0 0]) :: boxA b1 6 48 (.agg #[.int .i64 c.fRoom, .int .i64 c.fGoal, .slice a2 c.fOnce.length c2, .slice (some ⟨g, 0, none⟩) c.fOften.length c3, .slice a4 c.fPast.length c4, .slice ao12 (((c.fOften.getD (c.fOften.length - 1) 0) :: c.fFormer).length) cp13]) :: rowA encI 1 3 (.slice a2 c.fOnce.length c2) c.fOnce :: rowA encI 1 3 (.slice (some ⟨g, 0, none⟩) (c.fOften.length - 1) c3) c.fOften.dropLast :: rowA encI 1 3 (.slice a4 c.fPast.length c4) c.fPast :: rowA encI 1 3 (.slice a5 c.fFormer.length c5) c.fFormer :: F) _) := HS
              refine wl_y rfl HF rfl rfl (yl_fieldAddr (j := 3) rfl (HF.ev rfl) (by kernel_rfl)) ?_; clear HF; clear a; intro a HF
              refine wl_storeF rfl rfl rfl (HF.ev rfl) (HF.ev rfl) (by kernel_rfl) HS.out 2 rfl rfl rfl ?_; clear HS; intro w22 HS; replace HS := Bx.mk HS
              have HS : Bx (St w0 (rowA encI 1 3 (.slice ao12 (((c.fOften.getD (c.fOften.length - 1) 0) :: c.fFormer).length) cp13) ((c.fOften.getD (c.fOften.length - 1) 0) :: c.fFormer) :: boxA b2 6 48 (.agg #[.int .i64 0, .int .i64 0, .slice none 0 0, .slice none 0 0, .slice none 0 0, .slice none 0 0]) :: boxA b1 6 48 (.agg #[.int .i64 c.fRoom, .int .i64 c.fGoal, .slice a2 c.fOnce.length c2, .slice (some ⟨g, 0, none⟩) (c.fOften.length - 1) c3, .slice a4 c.fPast.length c4, .slice ao12 (((c.fOften.getD (c.fOften.length - 1) 0) :: c.fFormer).length) cp13]) :: rowA encI 1 3 (.slice a2 c.fOnce.length c2) c.fOnce :: rowA encI 1 3 (.slice (some ⟨g, 0, none⟩) (c.fOften.length - 1) c3) c.fOften.dropLast :: rowA encI 1 3 (.slice a4 c.fPast.length c4) c.fPast :: rowA encI 1 3 (.slice a5 c.fFormer.length c5) c.fFormer :: F) _) := HS
              refine wpList_nil ?_
              refine ex_then ?_
              refine wp_seq ?_
              refine wp_region_lit ?_
              refine wl_y rfl HF rfl rfl (yl_loadR (cs := [.int .i64 c.fRoom, .int .i64 c.fGoal, .slice a2 c.fOnce.length c2, .slice (some ⟨g, 0, none⟩) (c.fOften.length - 1) c3, .slice a4 c.fPast.length c4, .slice ao12 (((c.fOften.getD (c.fOften.length - 1) 0) :: c.fFormer).length) cp13]) rfl (HF.ev rfl) ((HS.out.box 2 rfl).sub 0 6) (by kernel_rfl)) ?_; clear HF; clear a; intro a HF
              refine wl_storeBox rfl HF rfl rfl (HF.ev rfl) (HF.ev rfl) HS.out 1 rfl (cells_lit [.int .i64 c.fRoom, .int .i64 c.fGoal, .slice a2 c.fOnce.length c2, .slice (some ⟨g, 0, none⟩) (c.fOften.length - 1) c3, .slice a4 c.fPast.length c4, .slice ao12 (((c.fOften.getD (c.fOften.length - 1) 0) :: c.fFormer).length) cp13] rfl rfl) (by kernel_rfl) ?_; clear HS; intro w23 HS; replace HS := Bx.mk HS
              have HS : Bx (St w0 (rowA encI 1 3 (.slice ao12 (((c.fOften.getD (c.fOften.length - 1) 0) :: c.fFormer).length) cp13) ((c.fOften.getD (c.fOften.length - 1) 0) :: c.fFormer) :: boxA b2 6 48 (.agg #[.int .i64 c.fRoom, .int .i64 c.fGoal, .slice a2 c.fOnce.length c2, .slice (some ⟨g, 0, none⟩) (c.fOften.length - 1) c3, .slice a4 c.fPast.length c4, .slice ao12 (((c.fOften.getD (c.fOften.length - 1) 0) :: c.fFormer).length) cp13]) :: boxA b1 6 48 (.agg #[.int .i64 c.fRoom, .int .i64 c.fGoal, .slice a2 c.fOnce.length c2, .slice (some ⟨g, 0, none⟩) (c.fOften.length - 1) c3, .slice a4 c.fPast.length c4, .slice ao12 (((c.fOften.getD (c.fOften.length - 1) 0) :: c.fFormer).length) cp13]) :: rowA encI 1 3 (.slice a2 c.fOnce.length c2) c.fOnce :: rowA encI 1 3 (.slice (some ⟨g, 0, none⟩) (c.fOften.length - 1) c3) c.fOften.dropLast :: rowA encI 1 3 (.slice a4 c.fPast.length c4) c.fPast :: rowA encI 1 3 (.slice a5 c.fFormer.length c5) c.fFormer :: F) _) := HS
              refine wpList_nil ?_
              refine ex_then ?_
              refine wp_ret ?_
              refine bp_ret1 HF Try.results106 (HF.resBox rfl (HS.out.box 1 rfl) (by kernel_rfl)) ?_
              replace HS : Bx (St w0 (rowA encI 1 3 (.slice a2 c.fOnce.length c2) c.fOnce :: rowA encI 1 3 (.slice (some ⟨g, 0, none⟩) (c.fOften.length - 1) c3) c.fOften.dropLast :: rowA encI 1 3 (.slice a4 c.fPast.length c4) c.fPast :: rowA encI 1 3 (.slice ao12 (((c.fOften.getD (c.fOften.length - 1) 0) :: c.fFormer).length) cp13) ((c.fOften.getD (c.fOften.length - 1) 0) :: c.fFormer) :: boxA b2 6 48 (.agg #[.int .i64 c.fRoom, .int .i64 c.fGoal, .slice a2 c.fOnce.length c2, .slice (some ⟨g, 0, none⟩) (c.fOften.length - 1) c3, .slice a4 c.fPast.length c4, .slice ao12 (((c.fOften.getD (c.fOften.length - 1) 0) :: c.fFormer).length) cp13]) :: boxA b1 6 48 (.agg #[.int .i64 c.fRoom, .int .i64 c.fGoal, .slice a2 c.fOnce.length c2, .slice (some ⟨g, 0, none⟩) (c.fOften.length - 1) c3, .slice a4 c.fPast.length c4, .slice ao12 (((c.fOften.getD (c.fOften.length - 1) 0) :: c.fFormer).length) cp13]) :: rowA encI 1 3 (.slice a5 c.fFormer.length c5) c.fFormer :: F) _) := ⟨((((HS.out).pick 0 rfl).pick 5 rfl).pick 5 rfl).pick 5 rfl⟩
              have hw : c.wayC former = { c with fFormer := lastI c.fOften :: c.fFormer, fOften := c.fOften.dropLast } := by unfold CacheD.wayC; rw [if_neg (by omega), if_neg (fun h => by obtain ⟨p, q | ⟨q1, q2⟩ | q⟩ := (wayC_cond c former).1 h <;> first | omega | simp_all)]
              have HT := (((HS.out.erase 6).erase 5).erase 4)
              rw [show c.fOften.getD (c.fOften.length - 1) 0 = lastI c.fOften from rfl] at HT ⊢
              rw [show c.fOften.length - 1 = c.fOften.dropLast.length by rw [List.length_dropLast]] at HT ⊢
              rw [hw]; exact ⟨_, rfl, _, _, _, _, _, _, _, _, rfl, HT⟩
        · clear HF; have HF := HF1; clear HF1
          refine wl_skip HF rfl rfl rfl rfl rfl rfl ?_; clear HF; clear a; intro a HF
          refine wl_skip HF rfl rfl rfl rfl rfl rfl ?_; clear HF; clear a; intro a HF
          refine wl_skip HF rfl rfl rfl rfl rfl rfl ?_; clear HF; clear a; intro a HF
          refine wl_skip HF rfl rfl rfl rfl rfl rfl ?_; clear HF; clear a; intro a HF
          refine wl_yg HF rfl rfl rfl rfl rfl (yl_pick_f rfl (HF.ev rfl) (HF.ev rfl)) ?_; clear HF; clear a; intro a HF
          refine wl_yg HF rfl rfl rfl rfl rfl (yl_pick_f rfl (HF.ev rfl) (HF.ev rfl)) ?_; clear HF; clear a; intro a HF
          refine wl_y rfl HF rfl rfl (yl_pick_t rfl (HF.ev rfl) (HF.ev rfl)) ?_; clear HF; clear a; intro a HF
          refine wl_y rfl HF rfl rfl (yl_move rfl (HF.ev rfl)) ?_; clear HF; clear a; intro a HF
          refine wl_yg HF rfl rfl rfl rfl rfl (yl_move rfl (HF.ev rfl)) ?_; clear HF; clear a; intro a HF
          refine wl_yg HF rfl rfl rfl rfl rfl (yl_eqlI rfl (HF.ev rfl) (HF.ev rfl)) ?_; clear HF; clear a; intro a HF
          refine wl_y rfl HF rfl rfl (yl_pick_f rfl (HF.ev rfl) (HF.ev rfl)) ?_; clear HF; clear a; intro a HF
          refine wpList_nil ?_
          refine ex_then ?_
          refine HF.cases 44 rfl (fun cc7 HF1 => ?_) (fun cc7 HF1 => ?_)
          · clear HF; have HF := HF1; clear HF1
            have cc7 := eq_of_beq cc7
            refine wc_true HF rfl ?_
            refine wp_seq ?_
            obtain ⟨g, rfl, _, _, _, _⟩ := HS.out.rowOpen 2 rfl (by omega)
            refine wr_marked (W := w0) (s := boxA b2 6 48 (.agg #[.int .i64 0, .int .i64 0, .slice none 0 0, .slice none 0 0, .slice none 0 0, .slice none 0 0]) :: boxA b1 6 48 (.agg #[.int .i64 c.fRoom, .int .i64 c.fGoal, .slice (some ⟨g, 0, none⟩) c.fOnce.length c2, .slice a3 c.fOften.length c3, .slice a4 c.fPast.length c4, .slice a5 c.fFormer.length c5]) :: rowA encI 1 3 (.slice (some ⟨g, 0, none⟩) c.fOnce.length c2) c.fOnce :: rowA encI 1 3 (.slice a3 c.fOften.length c3) c.fOften :: rowA encI 1 3 (.slice a4 c.fPast.length c4) c.fPast :: rowA encI 1 3 (.slice a5 c.fFormer.length c5) c.fFormer :: F) 10 (by kernel_rfl) ?_
            have HS2 := Bx.mk HS.out.drew; replace HS := Bx.mk HS.out.drew; generalize World.drew _ = w24 at HS HS2 ⊢
            refine wm_t 0 rfl (by kernel_rfl) (by kernel_rfl) (by kernel_rfl) (fun _ _ _ h => h) (by decide) rfl HF rfl rfl (fun _ _ => (yl_fieldAddr (j := 4) rfl (HF.ev rfl) (by kernel_rfl))) (fun _ => HS.out) ?_; clear HF; clear a; intro a HF
            refine wm_y 1 rfl (by kernel_rfl) (by kernel_rfl) (by kernel_rfl) (fun _ _ _ h => h) (by decide) (by kernel_rfl) (by kernel_rfl) rfl HF rfl rfl (fun _ HS => (yl_load (v := .slice a4 c.fPast.length c4) rfl (HF.ev rfl) (((HS.box 1 rfl).cell 4).trans rfl) (by kernel_rfl))) HS.out ?_; clear HF; clear a; intro a HF
            refine wm_t 2 rfl (by kernel_rfl) (by kernel_rfl) (by kernel_rfl) (fun _ _ _ h => h) (by decide) rfl HF rfl rfl (fun _ _ => (yl_fieldAddr (j := 2) rfl (HF.ev rfl) (by kernel_rfl))) (fun _ => HS.out) ?_; clear HF; clear a; intro a HF
            refine wm_y 3 rfl (by kernel_rfl) (by kernel_rfl) (by kernel_rfl) (fun _ _ _ h => h) (by decide) (by kernel_rfl) (by kernel_rfl) rfl HF rfl rfl (fun _ HS => (yl_load (v := .slice (some ⟨g, 0, none⟩) c.fOnce.length c2) rfl (HF.ev rfl) (((HS.box 1 rfl).cell 2).trans rfl) (by kernel_rfl))) HS.out ?_; clear HF; clear a; intro a HF
            refine wm_t 4 rfl (by kernel_rfl) (by kernel_rfl) (by kernel_rfl) (fun _ _ _ h => h) (by decide) rfl HF rfl rfl (fun _ _ => (yl_move rfl (HF.ev rfl))) (fun _ => HS.out) ?_; clear HF; clear a; intro a HF
            refine wm_y 5 rfl (by kernel_rfl) (by kernel_rfl) (by kernel_rfl) (fun _ _ _ h => h) (by decide) (by kernel_rfl) (by kernel_rfl) rfl HF rfl rfl (fun _ HS => (yl_subI (r := ((c.fOnce.length - 1 : Nat) : Int)) rfl (HF.ev rfl) (HF.ev rfl) ((i64w (by omega)).trans (by omega)))) HS.out ?_; clear HF; clear a; intro a HF
            refine wm_y 6 rfl (by kernel_rfl) (by kernel_rfl) (by kernel_rfl) (fun _ _ _ h => h) (by decide) (by kernel_rfl) (by kernel_rfl) rfl HF rfl rfl (fun _ HS => (yl_indexAddr (e := 3) (i := c.fOnce.length - 1) (size := 1) rfl (HF.ev rfl) (HF.ev rfl) (by kernel_rfl) rfl (by omega))) HS.out ?_; clear HF; clear a; intro a HF
            refine wm_y 7 rfl (by kernel_rfl) (by kernel_rfl) (by kernel_rfl) (fun _ _ _ h => h) (by decide) (by kernel_rfl) (by kernel_rfl) rfl HF rfl rfl (fun _ HS => (yl_load (v := .int .i64 (c.fOnce.getD (c.fOnce.length - 1) 0)) rfl (HF.ev rfl) (HS.elem1 encI_len 2 rfl (get_getD (xs := c.fOnce) (j := c.fOnce.length - 1) (d := 0) (by omega)) rfl) (by kernel_rfl))) HS.out ?_; clear HF; clear a; intro a HF
            refine wm_one 8 (by kernel_rfl) ?_
            refine wo_call rfl rfl HF rfl (enter_of Try.func105 (by kernel_rfl) rfl) (args := #[.slice a4 c.fPast.length c4, .int .i64 (c.fOnce.getD (c.fOnce.length - 1) 0)]) rfl (l27Front_any _ _ c.fPast (c.fOnce.getD (c.fOnce.length - 1) 0) _ (by first | omega | (simp; omega)) (St.rdOf HS2.out encI_len 4 rfl)) rfl rfl ?_
            rintro _ w25 ⟨ao15, cp16, rfl, hn⟩
            refine ⟨_, rfl, ?_⟩; replace HS := Bx.mk (HS.out.later hn.bel); replace HS2 := Bx.mk (HS2.out.add hn); clear hn HF; clear a; intro a HF
            replace HS2 : Bx (St w0 (rowA encI 1 3 (.slice ao15 (((c.fOnce.getD (c.fOnce.length - 1) 0) :: c.fPast).length) cp16) ((c.fOnce.getD (c.fOnce.length - 1) 0) :: c.fPast) :: boxA b2 6 48 (.agg #[.int .i64 0, .int .i64 0, .slice none 0 0, .slice none 0 0, .slice none 0 0, .slice none 0 0]) :: boxA b1 6 48 (.agg #[.int .i64 c.fRoom, .int .i64 c.fGoal, .slice (some ⟨g, 0, none⟩) c.fOnce.length c2, .slice a3 c.fOften.length c3, .slice a4 c.fPast.length c4, .slice a5 c.fFormer.length c5]) :: rowA encI 1 3 (.slice (some ⟨g, 0, none⟩) c.fOnce.length c2) c.fOnce :: rowA encI 1 3 (.slice a3 c.fOften.length c3) c.fOften :: rowA encI 1 3 (.slice a4 c.fPast.length c4) c.fPast :: rowA encI 1 3 (.slice a5 c.fFormer.length c5) c.fFormer :: F) _) := ⟨HS2.out⟩
            refine ⟨fun _ => HS.out, ?_⟩
            refine wm_t 9 rfl (by kernel_rfl) (by kernel_rfl) (by kernel_rfl) (fun _ _ _ h => h) (by decide) rfl HF rfl rfl (fun _ _ => (yl_fieldAddr (j := 4) rfl (HF.ev rfl) (by kernel_rfl))) (fun _ => HS.out) ?_; clear HF; clear a; intro a HF
            refine wm_one 10 (by kernel_rfl) ?_
            refine wo_storeF rfl rfl rfl rfl (HF.ev rfl) (HF.ev rfl) (by kernel_rfl) HS2.out 2 rfl rfl rfl ?_
            clear HS2; intro w26 HS2; replace HS2 : Bx (St w0 (rowA encI 1 3 (.slice ao15 (((c.fOnce.getD (c.fOnce.length - 1) 0) :: c.fPast).length) cp16) ((c.fOnce.getD (c.fOnce.length - 1) 0) :: c.fPast) :: boxA b2 6 48 (.agg #[.int .i64 0, .int .i64 0, .slice none 0 0, .slice none 0 0, .slice none 0 0, .slice none 0 0]) :: boxA b1 6 48 (.agg #[.int .i64 c.fRoom, .int .i64 c.fGoal, .slice (some ⟨g, 0, none⟩) c.fOnce.length c2, .slice a3 c.fOften.length c3, .slice ao15 (((c.fOnce.getD (c.fOnce.length - 1) 0) :: c.fPast).length) cp16, .slice a5 c.fFormer.length c5]) :: rowA encI 1 3 (.slice (some ⟨g, 0, none⟩) c.fOnce.length c2) c.fOnce :: rowA encI 1 3 (.slice a3 c.fOften.length c3) c.fOften :: rowA encI 1 3 (.slice a4 c.fPast.length c4) c.fPast :: rowA encI 1 3 (.slice a5 c.fFormer.length c5) c.fFormer :: F) _) := ⟨HS2⟩; refine ⟨(fun h => absurd (show true = false from h) (by decide)), ?_⟩
            refine wm_done (by kernel_rfl) ?_
            clear HS; have HS := HS2; clear HS2
            refine ex_then ?_
            refine wp_seq ?_
            refine wp_region_lit ?_
            refine wl_y rfl HF rfl rfl (yl_fieldAddr (j := 2) rfl (HF.ev rfl) (by kernel_rfl)) ?_; clear HF; clear a; intro a HF
            refine wl_y rfl HF rfl rfl (yl_load (v := .slice (some ⟨g, 0, none⟩) c.fOnce.length c2) rfl (HF.ev rfl) (((HS.out.box 2 rfl).cell 2).trans rfl) (by kernel_rfl)) ?_; clear HF; clear a; intro a HF
            refine wl_y rfl HF rfl rfl (yl_move rfl (HF.ev rfl)) ?_; clear HF; clear a; intro a HF
            refine wl_y rfl HF rfl rfl (yl_subI (r := ((c.fOnce.length - 1 : Nat) : Int)) rfl (HF.ev rfl) (HF.ev rfl) ((i64w (by omega)).trans (by omega))) ?_; clear HF; clear a; intro a HF
            refine wl_y rfl HF rfl rfl (yl_sliceHi (e := 3) (size := 1) (k := c.fOnce.length - 1) rfl (HF.ev rfl) (HF.ev rfl) (by kernel_rfl) (by omega) (Nat.le_trans (by omega) (St.capLe HS.out 3 rfl))) ?_; clear HF; clear a; intro a HF
            replace HS := Bx.mk (HS.out.rowDrop encI_len 3 rfl)
            have HS : Bx (St w0 (rowA encI 1 3 (.slice ao15 (((c.fOnce.getD (c.fOnce.length - 1) 0) :: c.fPast).length) cp16) ((c.fOnce.getD (c.fOnce.length - 1) 0) :: c.fPast) :: boxA b2 6 48 (.agg #[.int .i64 0, .int .i64 0, .slice none 0 0, .slice none 0 0, .slice none 0 0, .slice none 0 0]) :: boxA b1 6 48 (.agg #[.int .i64 c.fRoom, .int .i64 c.fGoal, .slice (some ⟨g, 0, none⟩) c.fOnce.length c2, .slice a3 c.fOften.length c3, .slice ao15 (((c.fOnce.getD (c.fOnce.length - 1) 0) :: c.fPast).length) cp16, .slice a5 c.fFormer.length c5]) :: rowA encI 1 3 (.slice (some ⟨g, 0, none⟩) (c.fOnce.length - 1) c2) c.fOnce.dropLast :: rowA encI 1 3 (.slice a3 c.fOften.length c3) c.fOften :: rowA encI 1 3 (.slice a4 c.fPast.length c4) c.fPast :: rowA encI 1 3 (.slice a5 c.fFormer.length c5) c.fFormer :: F) _) := HS
            refine wl_y rfl HF rfl rfl (yl_fieldAddr (j := 2) rfl (HF.ev rfl) (by kernel_rfl)) ?_; clear HF; clear a; intro a HF
            refine wl_storeF rfl rfl rfl (HF.ev rfl) (HF.ev rfl) (by kernel_rfl) HS.out 2 rfl rfl rfl ?_; clear HS; intro w27 HS; replace HS := Bx.mk HS
            have HS : Bx (St w0 (rowA encI 1 3 (.slice ao15 (((c.fOnce.getD (c.fOnce.length - 1) 0) :: c.fPast).length) cp16) ((c.fOnce.getD (c.fOnce.length - 1) 0) :: c.fPast) :: boxA b2 6 48 (.agg #[.int .i64 0, .int .i64 0, .slice none 0 0, .slice none 0 0, .slice none 0 0, .slice none 0 0]) :: boxA b1 6 48 (.agg #[.int .i64 c.fRoom, .int .i64 c.fGoal, .slice (some ⟨g, 0, none⟩) (c.fOnce.length - 1) c2, .slice a3 c.fOften.length c3, .slice ao15 (((c.fOnce.getD (c.fOnce.length - 1) 0) :: c.fPast).length) cp16, .slice a5 c.fFormer.length c5]) :: rowA encI 1 3 (.slice (some ⟨g, 0, none⟩) (c.fOnce.length - 1) c2) c.fOnce.dropLast :: rowA encI 1 3 (.slice a3 c.fOften.length c3) c.fOften :: rowA encI 1 3 (.slice a4 c.fPast.length c4) c.fPast :: rowA encI 1 3 (.slice a5 c.fFormer.length c5) c.fFormer :: F) _) := HS
            refine wpList_nil ?_
            refine ex_then ?_
            refine wp_seq ?_
            refine wp_region_lit ?_
            refine wl_y rfl HF rfl rfl (yl_loadR (cs := [.int .i64 c.fRoom, .int .i64 c.fGoal, .slice (some ⟨g, 0, none⟩) (c.fOnce.length - 1) c2, .slice a3 c.fOften.length c3, .slice ao15 (((c.fOnce.getD (c.fOnce.length - 1) 0) :: c.fPast).length) cp16, .slice a5 c.fFormer.length c5]) rfl (HF.ev rfl) ((HS.out.box 2 rfl).sub 0 6) (by kernel_rfl)) ?_; clear HF; clear a; intro a HF
            refine wl_storeBox rfl HF rfl rfl (HF.ev rfl) (HF.ev rfl) HS.out 1 rfl (cells_lit [.int .i64 c.fRoom, .int .i64 c.fGoal, .slice (some ⟨g, 0, none⟩) (c.fOnce.length - 1) c2, .slice a3 c.fOften.length c3, .slice ao15 (((c.fOnce.getD (c.fOnce.length - 1) 0) :: c.fPast).length) cp16, .slice a5 c.fFormer.length c5] rfl rfl) (by kernel_rfl) ?_; clear HS; intro w28 HS; replace HS := Bx.mk HS
            have HS : Bx (St w0 (rowA encI 1 3 (.slice ao15 (((c.fOnce.getD (c.fOnce.length - 1) 0) :: c.fPast).length) cp16) ((c.fOnce.getD (c.fOnce.length - 1) 0) :: c.fPast) :: boxA b2 6 48 (.agg #[.int .i64 c.fRoom, .int .i64 c.fGoal, .slice (some ⟨g, 0, none⟩) (c.fOnce.length - 1) c2, .slice a3 c.fOften.length c3, .slice ao15 (((c.fOnce.getD (c.fOnce.length - 1) 0) :: c.fPast).length) cp16, .slice a5 c.fFormer.length c5]) :: boxA b1 6 48 (.agg #[.int .i64 c.fRoom, .int .i64 c.fGoal, .slice (some ⟨g, 0, none⟩) (c.fOnce.length - 1) c2, .slice a3 c.fOften.length c3, .slice ao15 (((c.fOnce.getD (c.fOnce.length - 1) 0) :: c.fPast).length) cp16, .slice a5 c.fFormer.length c5]) :: rowA encI 1 3 (.slice (some ⟨g, 0, none⟩) (c.fOnce.length - 1) c2) c.fOnce.dropLast :: rowA encI 1 3 (.slice a3 c.fOften.length c3) c.fOften :: rowA encI 1 3 (.slice a4 c.fPast.length c4) c.fPast :: rowA encI 1 3 (.slice a5 c.fFormer.length c5) c.fFormer :: F) _) := HS
            refine wpList_nil ?_
            refine ex_then ?_
            refine wp_ret ?_
            refine ex_then_ret ?_
            refine bp_ret1 HF Try.results106 (HF.resBox rfl (HS.out.box 1 rfl) (by kernel_rfl)) ?_
            replace HS : Bx (St w0 (rowA encI 1 3 (.slice (some ⟨g, 0, none⟩) (c.fOnce.length - 1) c2) c.fOnce.dropLast :: rowA encI 1 3 (.slice a3 c.fOften.length c3) c.fOften :: rowA encI 1 3 (.slice ao15 (((c.fOnce.getD (c.fOnce.length - 1) 0) :: c.fPast).length) cp16) ((c.fOnce.getD (c.fOnce.length - 1) 0) :: c.fPast) :: rowA encI 1 3 (.slice a5 c.fFormer.length c5) c.fFormer :: boxA b2 6 48 (.agg #[.int .i64 c.fRoom, .int .i64 c.fGoal, .slice (some ⟨g, 0, none⟩) (c.fOnce.length - 1) c2, .slice a3 c.fOften.length c3, .slice ao15 (((c.fOnce.getD (c.fOnce.length - 1) 0) :: c.fPast).length) cp16, .slice a5 c.fFormer.length c5]) :: boxA b1 6 48 (.agg #[.int .i64 c.fRoom, .int .i64 c.fGoal, .slice (some ⟨g, 0, none⟩) (c.fOnce.length - 1) c2, .slice a3 c.fOften.length c3, .slice ao15 (((c.fOnce.getD (c.fOnce.length - 1) 0) :: c.fPast).length) cp16, .slice a5 c.fFormer.length c5]) :: rowA encI 1 3 (.slice a4 c.fPast.length c4) c.fPast :: F) _) := ⟨((((HS.out).pick 6 rfl).pick 1 rfl).pick 5 rfl).pick 5 rfl⟩
            have hw : c.wayC former = { c with fPast := lastI c.fOnce :: c.fPast, fOnce := c.fOnce.dropLast } := by unfold CacheD.wayC; rw [if_neg (by omega), if_pos ((wayC_cond c former).2 ⟨by omega, by first | exact .inl (by omega) | exact .inr (.inl ⟨by assumption, by omega⟩) | exact .inr (.inr (by omega))⟩)]
            have HT := (((HS.out.erase 6).erase 5).erase 4)
            rw [show c.fOnce.getD (c.fOnce.length - 1) 0 = lastI c.fOnce from rfl] at HT ⊢
            rw [show c.fOnce.length - 1 = c.fOnce.dropLast.length by rw [List.length_dropLast]] at HT ⊢
            rw [hw]; exact ⟨_, rfl, _, _, _, _, _, _, _, _, rfl, HT⟩
          · clear HF; have HF := HF1; clear HF1
            have cc7 := ne_of_beq_false cc7
            refine wc_false HF rfl ?_
            refine wp_skip ?_
            refine ex_then ?_
            refine wp_seq ?_
            obtain ⟨g, rfl, _, _, _, _⟩ := HS.out.rowOpen 3 rfl (by omega)
            refine wr_marked (W := w0) (s := boxA b2 6 48 (.agg #[.int .i64 0, .int .i64 0, .slice none 0 0, .slice none 0 0, .slice none 0 0, .slice none 0 0]) :: boxA b1 6 48 (.agg #[.int .i64 c.fRoom, .int .i64 c.fGoal, .slice a2 c.fOnce.length c2, .slice (some ⟨g, 0, none⟩) c.fOften.length c3, .slice a4 c.fPast.length c4, .slice a5 c.fFormer.length c5]) :: rowA encI 1 3 (.slice a2 c.fOnce.length c2) c.fOnce :: rowA encI 1 3 (.slice (some ⟨g, 0, none⟩) c.fOften.length c3) c.fOften :: rowA encI 1 3 (.slice a4 c.fPast.length c4) c.fPast :: rowA encI 1 3 (.slice a5 c.fFormer.length c5) c.fFormer :: F) 10 (by kernel_rfl) ?_
            have HS2 := Bx.mk HS.out.drew; replace HS := Bx.mk HS.out.drew; generalize World.drew _ = w29 at HS HS2 ⊢
            refine wm_t 0 rfl (by kernel_rfl) (by kernel_rfl) (by kernel_rfl) (fun _ _ _ h => h) (by decide) rfl HF rfl rfl (fun _ _ => (yl_fieldAddr (j := 5) rfl (HF.ev rfl) (by kernel_rfl))) (fun _ => HS.out) ?_; clear HF; clear a; intro a HF
            refine wm_y 1 rfl (by kernel_rfl) (by kernel_rfl) (by kernel_rfl) (fun _ _ _ h => h) (by decide) (by kernel_rfl) (by kernel_rfl) rfl HF rfl rfl (fun _ HS => (yl_load (v := .slice a5 c.fFormer.length c5) rfl (HF.ev rfl) (((HS.box 1 rfl).cell 5).trans rfl) (by kernel_rfl))) HS.out ?_; clear HF; clear a; intro a HF
            refine wm_t 2 rfl (by kernel_rfl) (by kernel_rfl) (by kernel_rfl) (fun _ _ _ h => h) (by decide) rfl HF rfl rfl (fun _ _ => (yl_fieldAddr (j := 3) rfl (HF.ev rfl) (by kernel_rfl))) (fun _ => HS.out) ?_; clear HF; clear a; intro a HF
            refine wm_y 3 rfl (by kernel_rfl) (by kernel_rfl) (by kernel_rfl) (fun _ _ _ h => h) (by decide) (by kernel_rfl) (by kernel_rfl) rfl HF rfl rfl (fun _ HS => (yl_load (v := .slice (some ⟨g, 0, none⟩) c.fOften.length c3) rfl (HF.ev rfl) (((HS.box 1 rfl).cell 3).trans rfl) (by kernel_rfl))) HS.out ?_; clear HF; clear a; intro a HF
            refine wm_t 4 rfl (by kernel_rfl) (by kernel_rfl) (by kernel_rfl) (fun _ _ _ h => h) (by decide) rfl HF rfl rfl (fun _ _ => (yl_move rfl (HF.ev rfl))) (fun _ => HS.out) ?_; clear HF; clear a; intro a HF
            refine wm_y 5 rfl (by kernel_rfl) (by kernel_rfl) (by kernel_rfl) (fun _ _ _ h => h) (by decide) (by kernel_rfl) (by kernel_rfl) rfl HF rfl rfl (fun _ HS => (yl_subI (r := ((c.fOften.length - 1 : Nat) : Int)) rfl (HF.ev rfl) (HF.ev rfl) ((i64w (by omega)).trans (by omega)))) HS.out ?_; clear HF; clear a; intro a HF
            refine wm_y 6 rfl (by kernel_rfl) (by kernel_rfl) (by kernel_rfl) (fun _ _ _ h => h) (by decide) (by kernel_rfl) (by kernel_rfl) rfl HF rfl rfl (fun _ HS => (yl_indexAddr (e := 3) (i := c.fOften.length - 1) (size := 1) rfl (HF.ev rfl) (HF.ev rfl) (by kernel_rfl) rfl (by omega))) HS.out ?_; clear HF; clear a; intro a HF
            refine wm_y 7 rfl (by kernel_rfl) (by kernel_rfl) (by kernel_rfl) (fun _ _ _ h => h) (by decide) (by kernel_rfl) (by kernel_rfl) rfl HF rfl rfl (fun _ HS => (yl_load (v := .int .i64 (c.fOften.getD (c.fOften.length - 1) 0)) rfl (HF.ev rfl) (HS.elem1 encI_len 3 rfl (get_getD (xs := c.fOften) (j := c.fOften.length - 1) (d := 0) (by omega)) rfl) (by kernel_rfl))) HS.out ?_; clear HF; clear a; intro a HF
            refine wm_one 8 (by kernel_rfl) ?_
            refine wo_call rfl rfl HF rfl (enter_of Try.func105 (by kernel_rfl) rfl) (args := #[.slice a5 c.fFormer.length c5, .int .i64 (c.fOften.getD (c.fOften.length - 1) 0)]) rfl (l27Front_any _ _ c.fFormer (c.fOften.getD (c.fOften.length - 1) 0) _ (by first | omega | (simp; omega)) (St.rdOf HS2.out encI_len 5 rfl)) rfl rfl ?_
            rintro _ w30 ⟨ao18, cp19, rfl, hn⟩
            refine ⟨_, rfl, ?_⟩; replace HS := Bx.mk (HS.out.later hn.bel); replace HS2 := Bx.mk (HS2.out.add hn); clear hn HF; clear a; intro a HF
            replace HS2 : Bx (St w0 (rowA encI 1 3 (.slice ao18 (((c.fOften.getD (c.fOften.length - 1) 0) :: c.fFormer).length) cp19) ((c.fOften.getD (c.fOften.length - 1) 0) :: c.fFormer) :: boxA b2 6 48 (.agg #[.int .i64 0, .int .i64 0, .slice none 0 0, .slice none 0 0, .slice none 0 0, .slice none 0 0]) :: boxA b1 6 48 (.agg #[.int .i64 c.fRoom, .int .i64 c.fGoal, .slice a2 c.fOnce.length c2, .slice (some ⟨g, 0, none⟩) c.fOften.length c3, .slice a4 c.fPast.length c4, .slice a5 c.fFormer.length c5]) :: rowA encI 1 3 (.slice a2 c.fOnce.length c2) c.fOnce :: rowA encI 1 3 (.slice (some ⟨g, 0, none⟩) c.fOften.length c3) c.fOften :: rowA encI 1 3 (.slice a4 c.fPast.length c4) c.fPast :: rowA encI 1 3 (.slice a5 c.fFormer.length c5) c.fFormer :: F) _) := ⟨HS2.out⟩
            refine ⟨fun _ => HS.out, ?_⟩
            refine wm_t 9 rfl (by kernel_rfl) (by kernel_rfl) (by kernel_rfl) (fun _ _ _ h => h) (by decide) rfl HF rfl rfl (fun _ _ => (yl_fieldAddr (j := 5) rfl (HF.ev rfl) (by kernel_rfl))) (fun _ => HS.out) ?_; clear HF; clear a; intro a HF
            refine wm_one 10 (by kernel_rfl) ?_
            refine wo_storeF rfl rfl rfl rfl (HF.ev rfl) (HF.ev rfl) (by kernel_rfl) HS2.out 2 rfl rfl rfl ?_
            clear HS2; intro w31 HS2; replace HS2 : Bx (St w0 (rowA encI 1 3 (.slice ao18 (((c.fOften.getD (c.fOften.length - 1) 0) :: c.fFormer).length) cp19) ((c.fOften.getD (c.fOften.length - 1) 0) :: c.fFormer) :: boxA b2 6 48 (.agg #[.int .i64 0, .int .i64 0, .slice none 0 0, .slice none 0 0, .slice none 0 0, .slice none 0 0]) :: boxA b1 6 48 (.agg #[.int .i64 c.fRoom, .int .i64 c.fGoal, .slice a2 c.fOnce.length c2, .slice (some ⟨g, 0, none⟩) c.fOften.length c3, .slice a4 c.fPast.length c4, .slice ao18 (((c.fOften.getD (c.fOften.length - 1) 0) :: c.fFormer).length) cp19]) :: rowA encI 1 3 (.slice a2 c.fOnce.length c2) c.fOnce :: rowA encI 1 3 (.slice (some ⟨g, 0, none⟩) c.fOften.length c3) c.fOften :: rowA encI 1 3 (.slice a4 c.fPast.length c4) c.fPast :: rowA encI 1 3 (.slice a5 c.fFormer.length c5) c.fFormer :: F) _) := ⟨HS2⟩; refine ⟨(fun h => absurd (show true = false from h) (by decide)), ?_⟩
            refine wm_done (by kernel_rfl) ?_
            clear HS; have HS := HS2; clear HS2
            refine ex_then ?_
            refine wp_seq ?_
            refine wp_region_lit ?_
            refine wl_y rfl HF rfl rfl (yl_fieldAddr (j := 3) rfl (HF.ev rfl) (by kernel_rfl)) ?_; clear HF; clear a; intro a HF
            refine wl_y rfl HF rfl rfl (yl_load (v := .slice (some ⟨g, 0, none⟩) c.fOften.length c3) rfl (HF.ev rfl) (((HS.out.box 2 rfl).cell 3).trans rfl) (by kernel_rfl)) ?_; clear HF; clear a; intro a HF
            refine wl_y rfl HF rfl rfl (yl_move rfl (HF.ev rfl)) ?_; clear HF; clear a; intro a HF
            refine wl_y rfl HF rfl rfl (yl_subI (r := ((c.fOften.length - 1 : Nat) : Int)) rfl (HF.ev rfl) (HF.ev rfl) ((i64w (by omega)).trans (by omega))) ?_; clear HF; clear a; intro a HF
            refine wl_y rfl HF rfl rfl (yl_sliceHi (e := 3) (size := 1) (k := c.fOften.length - 1) rfl (HF.ev rfl) (HF.ev rfl) (by kernel_rfl) (by omega) (Nat.le_trans (by omega) (St.capLe HS.out 4 rfl))) ?_; clear HF; clear a; intro a HF
            replace HS := Bx.mk (HS.out.rowDrop encI_len 4 rfl)
            have HS : Bx (St w0 (rowA encI 1 3 (.slice ao18 (((c.fOften.getD (c.fOften.length - 1) 0) :: c.fFormer).length) cp19) ((c.fOften.getD (c.fOften.length - 1) 0) :: c.fFormer) :: boxA b2 6 48 (.agg #[.int .i64 0, .int .i64 0, .slice none 0 0, .slice none 0 0, .slice none 0 0, .slice none 0 0]) :: boxA b1 6 48 (.agg #[.int .i64 c.fRoom, .int .i64 c.fGoal, .slice a2 c.fOnce.length c2, .slice (some ⟨g, 0, none⟩) c.fOften.length c3, .slice a4 c.fPast.length c4, .slice ao18 (((c.fOften.getD (c.fOften.length - 1) 0) :: c.fFormer).length) cp19]) :: rowA encI 1 3 (.slice a2 c.fOnce.length c2) c.fOnce :: rowA encI 1 3 (.slice (some ⟨g, 0, none⟩) (c.fOften.length - 1) c3) c.fOften.dropLast :: rowA encI 1 3 (.slice a4 c.fPast.length c4) c.fPast :: rowA encI 1 3 (.slice a5 c.fFormer.length c5) c.fFormer :: F) _) := HS
            refine wl_y rfl HF rfl rfl (yl_fieldAddr (j := 3) rfl (HF.ev rfl) (by kernel_rfl)) ?_; clear HF; clear a; intro a HF
            refine wl_storeF rfl rfl rfl (HF.ev rfl) (HF.ev rfl) (by kernel_rfl) HS.out 2 rfl rfl rfl ?_; clear HS; intro w32 HS; replace HS := Bx.mk HS
            have HS : Bx (St w0 (rowA encI 1 3 (.slice ao18 (((c.fOften.getD (c.fOften.length - 1) 0) :: c.fFormer).length) cp19) ((c.fOften.getD (c.fOften.length - 1) 0) :: c.fFormer) :: boxA b2 6 48 (.agg #[.int .i64 0, .int .i64 0, .slice none 0 0, .slice none 0 0, .slice none 0 0, .slice none 0 0]) :: boxA b1 6 48 (.agg #[.int .i64 c.fRoom, .int .i64 c.fGoal, .slice a2 c.fOnce.length c2, .slice (some ⟨g, 0, none⟩) (c.fOften.length - 1) c3, .slice a4 c.fPast.length c4, .slice ao18 (((c.fOften.getD (c.fOften.length - 1) 0) :: c.fFormer).length) cp19]) :: rowA encI 1 3 (.slice a2 c.fOnce.length c2) c.fOnce :: rowA encI 1 3 (.slice (some ⟨g, 0, none⟩) (c.fOften.length - 1) c3) c.fOften.dropLast :: rowA encI 1 3 (.slice a4 c.fPast.length c4) c.fPast :: rowA encI 1 3 (.slice a5 c.fFormer.length c5) c.fFormer :: F) _) := HS
            refine wpList_nil ?_
            refine ex_then ?_
            refine wp_seq ?_
            refine wp_region_lit ?_
            refine wl_y rfl HF rfl rfl (yl_loadR (cs := [.int .i64 c.fRoom, .int .i64 c.fGoal, .slice a2 c.fOnce.length c2, .slice (some ⟨g, 0, none⟩) (c.fOften.length - 1) c3, .slice a4 c.fPast.length c4, .slice ao18 (((c.fOften.getD (c.fOften.length - 1) 0) :: c.fFormer).length) cp19]) rfl (HF.ev rfl) ((HS.out.box 2 rfl).sub 0 6) (by kernel_rfl)) ?_; clear HF; clear a; intro a HF
            refine wl_storeBox rfl HF rfl rfl (HF.ev rfl) (HF.ev rfl) HS.out 1 rfl (cells_lit [.int .i64 c.fRoom, .int .i64 c.fGoal, .slice a2 c.fOnce.length c2, .slice (some ⟨g, 0, none⟩) (c.fOften.length - 1) c3, .slice a4 c.fPast.length c4, .slice ao18 (((c.fOften.getD (c.fOften.length - 1) 0) :: c.fFormer).length) cp19] rfl rfl) (by kernel_rfl) ?_; clear HS; intro w33 HS; replace HS := Bx.mk HS
            have HS : Bx (St w0 (rowA encI 1 3 (.slice ao18 (((c.fOften.getD (c.fOften.length - 1) 0) :: c.fFormer).length) cp19) ((c.fOften.getD (c.fOften.length - 1) 0) :: c.fFormer) :: boxA b2 6 48 (.agg #[.int .i64 c.fRoom, .int .i64 c.fGoal, .slice a2 c.fOnce.length c2, .slice (some ⟨g, 0, none⟩) (c.fOften.length - 1) c3, .slice a4 c.fPast.length c4, .slice ao18 (((c.fOften.getD (c.fOften.length - 1) 0) :: c.fFormer).length) cp19]) :: boxA b1 6 48 (.agg #[.int .i64 c.fRoom, .int .i64 c.fGoal, .slice a2 c.fOnce.length c2, .slice (some ⟨g, 0, none⟩) (c.fOften.length - 1) c3, .slice a4 c.fPast.length c4, .slice ao18 (((c.fOften.getD (c.fOften.length - 1) 0) :: c.fFormer).length) cp19]) :: rowA encI 1 3 (.slice a2 c.fOnce.length c2) c.fOnce :: rowA encI 1 3 (.slice (some ⟨g, 0, none⟩) (c.fOften.length - 1) c3) c.fOften.dropLast :: rowA encI 1 3 (.slice a4 c.fPast.length c4) c.fPast :: rowA encI 1 3 (.slice a5 c.fFormer.length c5) c.fFormer :: F) _) := HS
            refine wpList_nil ?_
            refine ex_then ?_
            refine wp_ret ?_
            refine bp_ret1 HF Try.results106 (HF.resBox rfl (HS.out.box 1 rfl) (by kernel_rfl)) ?_
            replace HS : Bx (St w0 (rowA encI 1 3 (.slice a2 c.fOnce.length c2) c.fOnce :: rowA encI 1 3 (.slice (some ⟨g, 0, none⟩) (c.fOften.length - 1) c3) c.fOften.dropLast :: rowA encI 1 3 (.slice a4 c.fPast.length c4) c.fPast :: rowA encI 1 3 (.slice ao18 (((c.fOften.getD (c.fOften.length - 1) 0) :: c.fFormer).length) cp19) ((c.fOften.getD (c.fOften.length - 1) 0) :: c.fFormer) :: boxA b2 6 48 (.agg #[.int .i64 c.fRoom, .int .i64 c.fGoal, .slice a2 c.fOnce.length c2, .slice (some ⟨g, 0, none⟩) (c.fOften.length - 1) c3, .slice a4 c.fPast.length c4, .slice ao18 (((c.fOften.getD (c.fOften.length - 1) 0) :: c.fFormer).length) cp19]) :: boxA b1 6 48 (.agg #[.int .i64 c.fRoom, .int .i64 c.fGoal, .slice a2 c.fOnce.length c2, .slice (some ⟨g, 0, none⟩) (c.fOften.length - 1) c3, .slice a4 c.fPast.length c4, .slice ao18 (((c.fOften.getD (c.fOften.length - 1) 0) :: c.fFormer).length) cp19]) :: rowA encI 1 3 (.slice a5 c.fFormer.length c5) c.fFormer :: F) _) := ⟨((((HS.out).pick 0 rfl).pick 5 rfl).pick 5 rfl).pick 5 rfl⟩
            have hw : c.wayC former = { c with fFormer := lastI c.fOften :: c.fFormer, fOften := c.fOften.dropLast } := by unfold CacheD.wayC; rw [if_neg (by omega), if_neg (fun h => by obtain ⟨p, q | ⟨q1, q2⟩ | q⟩ := (wayC_cond c former).1 h <;> first | omega | simp_all)]
            have HT := (((HS.out.erase 6).erase 5).erase 4)
            rw [show c.fOften.getD (c.fOften.length - 1) 0 = lastI c.fOften from rfl] at HT ⊢
            rw [show c.fOften.length - 1 = c.fOften.dropLast.length by rw [List.length_dropLast]] at HT ⊢
            rw [hw]; exact ⟨_, rfl, _, _, _, _, _, _, _, _, rfl, HT⟩
    · clear HF; have HF := HF1; clear HF1
      have cc2 := of_decide_eq_false cc2
      refine wl_skip HF rfl rfl rfl rfl rfl rfl ?_; clear HF; clear a; intro a HF
      refine wl_skip HF rfl rfl rfl rfl rfl rfl ?_; clear HF; clear a; intro a HF
      refine wl_skip HF rfl rfl rfl rfl rfl rfl ?_; clear HF; clear a; intro a HF
      refine wl_skip HF rfl rfl rfl rfl rfl rfl ?_; clear HF; clear a; intro a HF
      refine wl_skip HF rfl rfl rfl rfl rfl rfl ?_; clear HF; clear a; intro a HF
      refine wl_skipU HF rfl rfl rfl rfl rfl ?_; clear HF; clear a; intro a HF
      refine wl_skipU HF rfl rfl rfl rfl rfl ?_; clear HF; clear a; intro a HF
      refine wl_skipU HF rfl rfl rfl rfl rfl ?_; clear HF; clear a; intro a HF
      refine wl_skipU HF rfl rfl rfl rfl rfl ?_; clear HF; clear a; intro a HF
      refine wl_skipU HF rfl rfl rfl rfl rfl ?_; clear HF; clear a; intro a HF
      refine wl_skipU HF rfl rfl rfl rfl rfl ?_; clear HF; clear a; intro a HF
      refine wl_skipU HF rfl rfl rfl rfl rfl ?_; clear HF; clear a; intro a HF
      refine wl_skip HF rfl rfl rfl rfl rfl rfl ?_; clear HF; clear a; intro a HF
      refine wl_y rfl HF rfl rfl (yl_pick_f rfl (HF.ev rfl) (HF.ev rfl)) ?_; clear HF; clear a; intro a HF
      refine wl_y rfl HF rfl rfl (yl_move rfl (HF.ev rfl)) ?_; clear HF; clear a; intro a HF
      refine wl_yg HF rfl rfl rfl rfl rfl (yl_move rfl (HF.ev rfl)) ?_; clear HF; clear a; intro a HF
      refine wl_yg HF rfl rfl rfl rfl rfl (yl_eqlI rfl (HF.ev rfl) (HF.ev rfl)) ?_; clear HF; clear a; intro a HF
      refine wl_y rfl HF rfl rfl (yl_pick_f rfl (HF.ev rfl) (HF.ev rfl)) ?_; clear HF; clear a; intro a HF
      refine wpList_nil ?_
      refine ex_then ?_
      refine HF.cases 44 rfl (fun cc8 HF1 => ?_) (fun cc8 HF1 => ?_)
      · clear HF; have HF := HF1; clear HF1
        have cc8 := eq_of_beq cc8
        refine wc_true HF rfl ?_
        refine wp_seq ?_
        obtain ⟨g, rfl, _, _, _, _⟩ := HS.out.rowOpen 2 rfl (by omega)
        refine wr_marked (W := w0) (s := boxA b2 6 48 (.agg #[.int .i64 0, .int .i64 0, .slice none 0 0, .slice none 0 0, .slice none 0 0, .slice none 0 0]) :: boxA b1 6 48 (.agg #[.int .i64 c.fRoom, .int .i64 c.fGoal, .slice (some ⟨g, 0, none⟩) c.fOnce.length c2, .slice a3 c.fOften.length c3, .slice a4 c.fPast.length c4, .slice a5 c.fFormer.length c5]) :: rowA encI 1 3 (.slice (some ⟨g, 0, none⟩) c.fOnce.length c2) c.fOnce :: rowA encI 1 3 (.slice a3 c.fOften.length c3) c.fOften :: rowA encI 1 3 (.slice a4 c.fPast.length c4) c.fPast :: rowA encI 1 3 (.slice a5 c.fFormer.length c5) c.fFormer :: F) 10 (by kernel_rfl) ?_
        have HS2 := Bx.mk HS.out.drew; replace HS := Bx.mk HS.out.drew; generalize World.drew _ = w34 at HS HS2 ⊢
        refine wm_t 0 rfl (by kernel_rfl) (by kernel_rfl) (by kernel_rfl) (fun _ _ _ h => h) (by decide) rfl HF rfl rfl (fun _ _ => (yl_fieldAddr (j := 4) rfl (HF.ev rfl) (by kernel_rfl))) (fun _ => HS.out) ?_; clear HF; clear a; intro a HF
        refine wm_y 1 rfl (by kernel_rfl) (by kernel_rfl) (by kernel_rfl) (fun _ _ _ h => h) (by decide) (by kernel_rfl) (by kernel_rfl) rfl HF rfl rfl (fun _ HS => (yl_load (v := .slice a4 c.fPast.length c4) rfl (HF.ev rfl) (((HS.box 1 rfl).cell 4).trans rfl) (by kernel_rfl))) HS.out ?_; clear HF; clear a; intro a HF
        refine wm_t 2 rfl (by kernel_rfl) (by kernel_rfl) (by kernel_rfl) (fun _ _ _ h => h) (by decide) rfl HF rfl rfl (fun _ _ => (yl_fieldAddr (j := 2) rfl (HF.ev rfl) (by kernel_rfl))) (fun _ => HS.out) ?_; clear HF; clear a; intro a HF
        refine wm_y 3 rfl (by kernel_rfl) (by kernel_rfl) (by kernel_rfl) (fun _ _ _ h => h) (by decide) (by kernel_rfl) (by kernel_rfl) rfl HF rfl rfl (fun _ HS => (yl_load (v := .slice (some ⟨g, 0, none⟩) c.fOnce.length c2) rfl (HF.ev rfl) (((HS.box 1 rfl).cell 2).trans rfl) (by kernel_rfl))) HS.out ?_; clear HF; clear a; intro a HF
        refine wm_t 4 rfl (by kernel_rfl) (by kernel_rfl) (by kernel_rfl) (fun _ _ _ h => h) (by decide) rfl HF rfl rfl (fun _ _ => (yl_move rfl (HF.ev rfl))) (fun _ => HS.out) ?_; clear HF; clear a; intro a HF
        refine wm_y 5 rfl (by kernel_rfl) (by kernel_rfl) (by kernel_rfl) (fun _ _ _ h => h) (by decide) (by kernel_rfl) (by kernel_rfl) rfl HF rfl rfl (fun _ HS => (yl_subI (r := ((c.fOnce.length - 1 : Nat) : Int)) rfl (HF.ev rfl) (HF.ev rfl) ((i64w (by omega)).trans (by omega)))) HS.out ?_; clear HF; clear a; intro a HF
        refine wm_y 6 rfl (by kernel_rfl) (by kernel_rfl) (by kernel_rfl) (fun _ _ _ h => h) (by decide) (by kernel_rfl) (by kernel_rfl) rfl HF rfl rfl (fun _ HS => (yl_indexAddr (e := 3) (i := c.fOnce.length - 1) (size := 1) rfl (HF.ev rfl) (HF.ev rfl) (by kernel_rfl) rfl (by omega))) HS.out ?_; clear HF; clear a; intro a HF
        refine wm_y 7 rfl (by kernel_rfl) (by kernel_rfl) (by kernel_rfl) (fun _ _ _ h => h) (by decide) (by kernel_rfl) (by kernel_rfl) rfl HF rfl rfl (fun _ HS => (yl_load (v := .int .i64 (c.fOnce.getD (c.fOnce.length - 1) 0)) rfl (HF.ev rfl) (HS.elem1 encI_len 2 rfl (get_getD (xs := c.fOnce) (j := c.fOnce.length - 1) (d := 0) (by omega)) rfl) (by kernel_rfl))) HS.out ?_; clear HF; clear a; intro a HF
        refine wm_one 8 (by kernel_rfl) ?_
        refine wo_call rfl rfl HF rfl (enter_of Try.func105 (by kernel_rfl) rfl) (args := #[.slice a4 c.fPast.length c4, .int .i64 (c.fOnce.getD (c.fOnce.length - 1) 0)]) rfl (l27Front_any _ _ c.fPast (c.fOnce.getD (c.fOnce.length - 1) 0) _ (by first | omega | (simp; omega)) (St.rdOf HS2.out encI_len 4 rfl)) rfl rfl ?_
        rintro _ w35 ⟨ao21, cp22, rfl, hn⟩
        refine ⟨_, rfl, ?_⟩; replace HS := Bx.mk (HS.out.later hn.bel); replace HS2 := Bx.mk (HS2.out.add hn); clear hn HF; clear a; intro a HF
        replace HS2 : Bx (St w0 (rowA encI 1 3 (.slice ao21 (((c.fOnce.getD (c.fOnce.length - 1) 0) :: c.fPast).length) cp22) ((c.fOnce.getD (c.fOnce.length - 1) 0) :: c.fPast) :: boxA b2 6 48 (.agg #[.int .i64 0, .int .i64 0, .slice none 0 0, .slice none 0 0, .slice none 0 0, .slice none 0 0]) :: boxA b1 6 48 (.agg #[.int .i64 c.fRoom, .int .i64 c.fGoal, .slice (some ⟨g, 0, none⟩) c.fOnce.length c2, .slice a3 c.fOften.length c3, .slice a4 c.fPast.length c4, .slice a5 c.fFormer.length c5]) :: rowA encI 1 3 (.slice (some ⟨g, 0, none⟩) c.fOnce.length c2) c.fOnce :: rowA encI 1 3 (.slice a3 c.fOften.length c3) c.fOften :: rowA encI 1 3 (.slice a4 c.fPast.length c4) c.fPast :: rowA encI 1 3 (.slice a5 c.fFormer.length c5) c.fFormer :: F) _) := ⟨HS2.out⟩
        refine ⟨fun _ => HS.out, ?_⟩
        refine wm_t 9 rfl (by kernel_rfl) (by kernel_rfl) (by kernel_rfl) (fun _ _ _ h => h) (by decide) rfl HF rfl rfl (fun _ _ => (yl_fieldAddr (j := 4) rfl (HF.ev rfl) (by kernel_rfl))) (fun _ => HS.out) ?_; clear HF; clear a; intro a HF
        refine wm_one 10 (by kernel_rfl) ?_
        refine wo_storeF rfl rfl rfl rfl (HF.ev rfl) (HF.ev rfl) (by kernel_rfl) HS2.out 2 rfl rfl rfl ?_
        clear HS2; intro w36 HS2; replace HS2 : Bx (St w0 (rowA encI 1 3 (.slice ao21 (((c.fOnce.getD (c.fOnce.length - 1) 0) :: c.fPast).length) cp22) ((c.fOnce.getD (c.fOnce.length - 1) 0) :: c.fPast) :: boxA b2 6 48 (.agg #[.int .i64 0, .int .i64 0, .slice none 0 0, .slice none 0 0, .slice none 0 0, .slice none 0 0]) :: boxA b1 6 48 (.agg #[.int .i64 c.fRoom, .int .i64 c.fGoal, .slice (some ⟨g, 0, none⟩) c.fOnce.length c2, .slice a3 c.fOften.length c3, .slice ao21 (((c.fOnce.getD (c.fOnce.length - 1) 0) :: c.fPast).length) cp22, .slice a5 c.fFormer.length c5]) :: rowA encI 1 3 (.slice (some ⟨g, 0, none⟩) c.fOnce.length c2) c.fOnce :: rowA encI 1 3 (.slice a3 c.fOften.length c3) c.fOften :: rowA encI 1 3 (.slice a4 c.fPast.length c4) c.fPast :: rowA encI 1 3 (.slice a5 c.fFormer.length c5) c.fFormer :: F) _) := ⟨HS2⟩; refine ⟨(fun h => absurd (show true = false from h) (by decide)), ?_⟩
        refine wm_done (by kernel_rfl) ?_
        clear HS; have HS := HS2; clear HS2
        refine ex_then ?_
        refine wp_seq ?_
        refine wp_region_lit ?_
        refine wl_y rfl HF rfl rfl (yl_fieldAddr (j := 2) rfl (HF.ev rfl) (by kernel_rfl)) ?_; clear HF; clear a; intro a HF
        refine wl_y rfl HF rfl rfl (yl_load (v := .slice (some ⟨g, 0, none⟩) c.fOnce.length c2) rfl (HF.ev rfl) (((HS.out.box 2 rfl).cell 2).trans rfl) (by kernel_rfl)) ?_; clear HF; clear a; intro a HF
        refine wl_y rfl HF rfl rfl (yl_move rfl (HF.ev rfl)) ?_; clear HF; clear a; intro a HF
        refine wl_y rfl HF rfl rfl (yl_subI (r := ((c.fOnce.length - 1 : Nat) : Int)) rfl (HF.ev rfl) (HF.ev rfl) ((i64w (by omega)).trans (by omega))) ?_; clear HF; clear a; intro a HF
        refine wl_y rfl HF rfl rfl (yl_sliceHi (e := 3) (size := 1) (k := c.fOnce.length - 1) rfl (HF.ev rfl) (HF.ev rfl) (by kernel_rfl) (by omega) (Nat.le_trans (by omega) (St.capLe HS.out 3 rfl))) ?_; clear HF; clear a; intro a HF
        replace HS := Bx.mk (HS.out.rowDrop encI_len 3 rfl)
        have HS : Bx (St w0 (rowA encI 1 3 (.slice ao21 (((c.fOnce.getD (c.fOnce.length - 1) 0) :: c.fPast).length) cp22) ((c.fOnce.getD (c.fOnce.length - 1) 0) :: c.fPast) :: boxA b2 6 48 (.agg #[.int .i64 0, .int .i64 0, .slice none 0 0, .slice none 0 0, .slice none 0 0, .slice none 0 0]) :: boxA b1 6 48 (.agg #[.int .i64 c.fRoom, .int .i64 c.fGoal, .slice (some ⟨g, 0, none⟩) c.fOnce.length c2, .slice a3 c.fOften.length c3, .slice ao21 (((c.fOnce.getD (c.fOnce.length - 1) 0) :: c.fPast).length) cp22, .slice a5 c.fFormer.length c5]) :: rowA encI 1 3 (.slice (some ⟨g, 0, none⟩) (c.fOnce.length - 1) c2) c.fOnce.dropLast :: rowA encI 1 3 (.slice a3 c.fOften.length c3) c.fOften :: rowA encI 1 3 (.slice a4 c.fPast.length c4) c.fPast :: rowA encI 1 3 (.slice a5 c.fFormer.length c5) c.fFormer :: F) _) := HS
        refine wl_y rfl HF rfl rfl (yl_fieldAddr (j := 2) rfl (HF.ev rfl) (by kernel_rfl)) ?_; clear HF; clear a; intro a HF
        refine wl_storeF rfl rfl rfl (HF.ev rfl) (HF.ev rfl) (by kernel_rfl) HS.out 2 rfl rfl rfl ?_; clear HS; intro w37 HS; replace HS := Bx.mk HS
        have HS : Bx (St w0 (rowA encI 1 3 (.slice ao21 (((c.fOnce.getD (c.fOnce.length - 1) 0) :: c.fPast).length) cp22) ((c.fOnce.getD (c.fOnce.length - 1) 0) :: c.fPast) :: boxA b2 6 48 (.agg #[.int .i64 0, .int .i64 0, .slice none 0 0, .slice none 0 0, .slice none 0 0, .slice none 0 0]) :: boxA b1 6 48 (.agg #[.int .i64 c.fRoom, .int .i64 c.fGoal, .slice (some ⟨g, 0, none⟩) (c.fOnce.length - 1) c2, .slice a3 c.fOften.length c3, .slice ao21 (((c.fOnce.getD (c.fOnce.length - 1) 0) :: c.fPast).length) cp22, .slice a5 c.fFormer.length c5]) :: rowA encI 1 3 (.slice (some ⟨g, 0, none⟩) (c.fOnce.length - 1) c2) c.fOnce.dropLast :: rowA encI 1 3 (.slice a3 c.fOften.length c3) c.fOften :: rowA encI 1 3 (.slice a4 c.fPast.length c4) c.fPast :: rowA encI 1 3 (.slice a5 c.fFormer.length c5) c.fFormer :: F) _) := HS
        refine wpList_nil ?_
        refine ex_then ?_
        refine wp_seq ?_
        refine wp_region_lit ?_
        refine wl_y rfl HF rfl rfl (yl_loadR (cs := [.int .i64 c.fRoom, .int .i64 c.fGoal, .slice (some ⟨g, 0, none⟩) (c.fOnce.length - 1) c2, .slice a3 c.fOften.length c3, .slice ao21 (((c.fOnce.getD (c.fOnce.length - 1) 0) :: c.fPast).length) cp22, .slice a5 c.fFormer.length c5]) rfl (HF.ev rfl) ((HS.out.box 2 rfl).sub 0 6) (by kernel_rfl)) ?_; clear HF; clear a; intro a HF
        refine wl_storeBox rfl HF rfl rfl (HF.ev rfl) (HF.ev rfl) HS.out 1 rfl (cells_lit [.int .i64 c.fRoom, .int .i64 c.fGoal, .slice (some ⟨g, 0, none⟩) (c.fOnce.length - 1) c2, .slice a3 c.fOften.length c3, .slice ao21 (((c.fOnce.getD (c.fOnce.length - 1) 0) :: c.fPast).length) cp22, .slice a5 c.fFormer.length c5] rfl rfl) (by kernel_rfl) ?_; clear HS; intro w38 HS; replace HS := Bx.mk HS
        have HS : Bx (St w0 (rowA encI 1 3 (.slice ao21 (((c.fOnce.getD (c.fOnce.length - 1) 0) :: c.fPast).length) cp22) ((c.fOnce.getD (c.fOnce.length - 1) 0) :: c.fPast) :: boxA b2 6 48 (.agg #[.int .i64 c.fRoom, .int .i64 c.fGoal, .slice (some ⟨g, 0, none⟩) (c.fOnce.length - 1) c2, .slice a3 c.fOften.length c3, .slice ao21 (((c.fOnce.getD (c.fOnce.length - 1) 0) :: c.fPast).length) cp22, .slice a5 c.fFormer.length c5]) :: boxA b1 6 48 (.agg #[.int .i64 c.fRoom, .int .i64 c.fGoal, .slice (some ⟨g, 0, none⟩) (c.fOnce.length - 1) c2, .slice a3 c.fOften.length c3, .slice ao21 (((c.fOnce.getD (c.fOnce.length - 1) 0) :: c.fPast).length) cp22, .slice a5 c.fFormer.length c5]) :: rowA encI 1 3 (.slice (some ⟨g, 0, none⟩) (c.fOnce.length - 1) c2) c.fOnce.dropLast :: rowA encI 1 3 (.slice a3 c.fOften.length c3) c.fOften :: rowA encI 1 3 (.slice a4 c.fPast.length c4) c.fPast :: rowA encI 1 3 (.slice a5 c.fFormer.length c5) c.fFormer :: F) _) := HS
        refine wpList_nil ?_
        refine ex_then ?_
        refine wp_ret ?_
        refine ex_then_ret ?_
        refine bp_ret1 HF Try.results106 (HF.resBox rfl (HS.out.box 1 rfl) (by kernel_rfl)) ?_
        replace HS : Bx (St w0 (rowA encI 1 3 (.slice (some ⟨g, 0, none⟩) (c.fOnce.length - 1) c2) c.fOnce.dropLast :: rowA encI 1 3 (.slice a3 c.fOften.length c3) c.fOften :: rowA encI 1 3 (.slice ao21 (((c.fOnce.getD (c.fOnce.length - 1) 0) :: c.fPast).length) cp22) ((c.fOnce.getD (c.fOnce.length - 1) 0) :: c.fPast) :: rowA encI 1 3 (.slice a5 c.fFormer.length c5) c.fFormer :: boxA b2 6 48 (.agg #[.int .i64 c.fRoom, .int .i64 c.fGoal, .slice (some ⟨g, 0, none⟩) (c.fOnce.length - 1) c2, .slice a3 c.fOften.length c3, .slice ao21 (((c.fOnce.getD (c.fOnce.length - 1) 0) :: c.fPast).length) cp22, .slice a5 c.fFormer.length c5]) :: boxA b1 6 48 (.agg #[.int .i64 c.fRoom, .int .i64 c.fGoal, .slice (some ⟨g, 0, none⟩) (c.fOnce.length - 1) c2, .slice a3 c.fOften.length c3, .slice ao21 (((c.fOnce.getD (c.fOnce.length - 1) 0) :: c.fPast).length) cp22, .slice a5 c.fFormer.length c5]) :: rowA encI 1 3 (.slice a4 c.fPast.length c4) c.fPast :: F) _) := ⟨((((HS.out).pick 6 rfl).pick 1 rfl).pick 5 rfl).pick 5 rfl⟩
        have hw : c.wayC former = { c with fPast := lastI c.fOnce :: c.fPast, fOnce := c.fOnce.dropLast } := by unfold CacheD.wayC; rw [if_neg (by omega), if_pos ((wayC_cond c former).2 ⟨by omega, by first | exact .inl (by omega) | exact .inr (.inl ⟨by assumption, by omega⟩) | exact .inr (.inr (by omega))⟩)]
        have HT := (((HS.out.erase 6).erase 5).erase 4)
        rw [show c.fOnce.getD (c.fOnce.length - 1) 0 = lastI c.fOnce from rfl] at HT ⊢
        rw [show c.fOnce.length - 1 = c.fOnce.dropLast.length by rw [List.length_dropLast]] at HT ⊢
        rw [hw]; exact ⟨_, rfl, _, _, _, _, _, _, _, _, rfl, HT⟩
      · clear HF; have HF := HF1; clear HF1
        have cc8 := ne_of_beq_false cc8
        refine wc_false HF rfl ?_
        refine wp_skip ?_
        refine ex_then ?_
        refine wp_seq ?_
        obtain ⟨g, rfl, _, _, _, _⟩ := HS.out.rowOpen 3 rfl (by omega)
        refine wr_marked (W := w0) (s := boxA b2 6 48 (.agg #[.int .i64 0, .int .i64 0, .slice none 0 0, .slice none 0 0, .slice none 0 0, .slice none 0 0]) :: boxA b1 6 48 (.agg #[.int .i64 c.fRoom, .int .i64 c.fGoal, .slice a2 c.fOnce.length c2, .slice (some ⟨g, 0, none⟩) c.fOften.length c3, .slice a4 c.fPast.length c4, .slice a5 c.fFormer.length c5]) :: rowA encI 1 3 (.slice a2 c.fOnce.length c2) c.fOnce :: rowA encI 1 3 (.slice (some ⟨g, 0, none⟩) c.fOften.length c3) c.fOften :: rowA encI 1 3 (.slice a4 c.fPast.length c4) c.fPast :: rowA encI 1 3 (.slice a5 c.fFormer.length c5) c.fFormer :: F) 10 (by kernel_rfl) ?_
        have HS2 := Bx.mk HS.out.drew; replace HS := Bx.mk HS.out.drew; generalize World.drew _ = w39 at HS HS2 ⊢
        refine wm_t 0 rfl (by kernel_rfl) (by kernel_rfl) (by kernel_rfl) (fun _ _ _ h => h) (by decide) rfl HF rfl rfl (fun _ _ => (yl_fieldAddr (j := 5) rfl (HF.ev rfl) (by kernel_rfl))) (fun _ => HS.out) ?_; clear HF; clear a; intro a HF
        refine wm_y 1 rfl (by kernel_rfl) (by kernel_rfl) (by kernel_rfl) (fun _ _ _ h => h) (by decide) (by kernel_rfl) (by kernel_rfl) rfl HF rfl rfl (fun _ HS => (yl_load (v := .slice a5 c.fFormer.length c5) rfl (HF.ev rfl) (((HS.box 1 rfl).cell 5).trans rfl) (by kernel_rfl))) HS.out ?_; clear HF; clear a; intro a HF
        refine wm_t 2 rfl (by kernel_rfl) (by kernel_rfl) (by kernel_rfl) (fun _ _ _ h => h) (by decide) rfl HF rfl rfl (fun _ _ => (yl_fieldAddr (j := 3) rfl (HF.ev rfl) (by kernel_rfl))) (fun _ => HS.out) ?_; clear HF; clear a; intro a HF
        refine wm_y 3 rfl (by kernel_rfl) (by kernel_rfl) (by kernel_rfl) (fun _ _ _ h => h) (by decide) (by kernel_rfl) (by kernel_rfl) rfl HF rfl rfl (fun _ HS => (yl_load (v := .slice (some ⟨g, 0, none⟩) c.fOften.length c3) rfl (HF.ev rfl) (((HS.box 1 rfl).cell 3).trans rfl) (by kernel_rfl))) HS.out ?_; clear HF; clear a; intro a HF
        refine wm_t 4 rfl (by kernel_rfl) (by kernel_rfl) (by kernel_rfl) (fun _ _ _ h => h) (by decide) rfl HF rfl rfl (fun _ _ => (yl_move rfl (HF.ev rfl))) (fun _ => HS.out) ?_; clear HF; clear a; intro a HF
        refine wm_y 5 rfl (by kernel_rfl) (by kernel_rfl) (by kernel_rfl) (fun _ _ _ h => h) (by decide) (by kernel_rfl) (by kernel_rfl) rfl HF rfl rfl (fun _ HS => (yl_subI (r := ((c.fOften.length - 1 : Nat) : Int)) rfl (HF.ev rfl) (HF.ev rfl) ((i64w (by omega)).trans (by omega)))) HS.out ?_; clear HF; clear a; intro a HF
        refine wm_y 6 rfl (by kernel_rfl) (by kernel_rfl) (by kernel_rfl) (fun _ _ _ h => h) (by decide) (by kernel_rfl) (by kernel_rfl) rfl HF rfl rfl (fun _ HS => (yl_indexAddr (e := 3) (i := c.fOften.length - 1) (size := 1) rfl (HF.ev rfl) (HF.ev rfl) (by kernel_rfl) rfl (by omega))) HS.out ?_; clear HF; clear a; intro a HF
        refine wm_y 7 rfl (by kernel_rfl) (by kernel_rfl) (by kernel_rfl) (fun _ _ _ h => h) (by decide) (by kernel_rfl) (by kernel_rfl) rfl HF rfl rfl (fun _ HS => (yl_load (v := .int .i64 (c.fOften.getD (c.fOften.length - 1) 0)) rfl (HF.ev rfl) (HS.elem1 encI_len 3 rfl (get_getD (xs := c.fOften) (j := c.fOften.length - 1) (d := 0) (by omega)) rfl) (by kernel_rfl))) HS.out ?_; clear HF; clear a; intro a HF
        refine wm_one 8 (by kernel_rfl) ?_
        refine wo_call rfl rfl HF rfl (enter_of Try.func105 (by kernel_rfl) rfl) (args := #[.slice a5 c.fFormer.length c5, .int .i64 (c.fOften.getD (c.fOften.length - 1) 0)]) rfl (l27Front_any _ _ c.fFormer (c.fOften.getD (c.fOften.length - 1) 0) _ (by first | omega | (simp; omega)) (St.rdOf HS2.out encI_len 5 rfl)) rfl rfl ?_
        rintro _ w40 ⟨ao24, cp25, rfl, hn⟩
        refine ⟨_, rfl, ?_⟩; replace HS := Bx.mk (HS.out.later hn.bel); replace HS2 := Bx.mk (HS2.out.add hn); clear hn HF; clear a; intro a HF
        replace HS2 : Bx (St w0 (rowA encI 1 3 (.slice ao24 (((c.fOften.getD (c.fOften.length - 1) 0) :: c.fFormer).length) cp25) ((c.fOften.getD (c.fOften.length - 1) 0) :: c.fFormer) :: boxA b2 6 48 (.agg #[.int .i64 0, .int .i64 0, .slice none 0 0, .slice none 0 0, .slice none 0 0, .slice none 0 0]) :: boxA b1 6 48 (.agg #[.int .i64 c.fRoom, .int .i64 c.fGoal, .slice a2 c.fOnce.length c2, .slice (some ⟨g, 0, none⟩) c.fOften.length c3, .slice a4 c.fPast.length c4, .slice a5 c.fFormer.length c5]) :: rowA encI 1 3 (.slice a2 c.fOnce.length c2) c.fOnce :: rowA encI 1 3 (.slice (some ⟨g, 0, none⟩) c.fOften.length c3) c.fOften :: rowA encI 1 3 (.slice a4 c.fPast.length c4) c.fPast :: rowA encI 1 3 (.slice a5 c.fFormer.length c5) c.fFormer :: F) _) := ⟨HS2.out⟩
        refine ⟨fun _ => HS.out, ?_⟩
        refine wm_t 9 rfl (by kernel_rfl) (by kernel_rfl) (by kernel_rfl) (fun _ _ _ h => h) (by decide) rfl HF rfl rfl (fun _ _ => (yl_fieldAddr (j := 5) rfl (HF.ev rfl) (by kernel_rfl))) (fun _ => HS.out) ?_; clear HF; clear a; intro a HF
        refine wm_one 10 (by kernel_rfl) ?_
        refine wo_storeF rfl rfl rfl rfl (HF.ev rfl) (HF.ev rfl) (by kernel_rfl) HS2.out 2 rfl rfl rfl ?_
        clear HS2; intro w41 HS2; replace HS2 : Bx (St w0 (rowA encI 1 3 (.slice ao24 (((c.fOften.getD (c.fOften.length - 1) 0) :: c.fFormer).length) cp25) ((c.fOften.getD (c.fOften.length - 1) 0) :: c.fFormer) :: boxA b2 6 48 (.agg #[.int .i64 0, .int .i64 0, .slice none 0 0, .slice none 0 0, .slice none 0 0, .slice none 0 0]) :: boxA b1 6 48 (.agg #[.int .i64 c.fRoom, .int .i64 c.fGoal, .slice a2 c.fOnce.length c2, .slice (some ⟨g, 0, none⟩) c.fOften.length c3, .slice a4 c.fPast.length c4, .slice ao24 (((c.fOften.getD (c.fOften.length - 1) 0) :: c.fFormer).length) cp25]) :: rowA encI 1 3 (.slice a2 c.fOnce.length c2) c.fOnce :: rowA encI 1 3 (.slice (some ⟨g, 0, none⟩) c.fOften.length c3) c.fOften :: rowA encI 1 3 (.slice a4 c.fPast.length c4) c.fPast :: rowA encI 1 3 (.slice a5 c.fFormer.length c5) c.fFormer :: F) _) := ⟨HS2⟩; refine ⟨(fun h => absurd (show true = false from h) (by decide)), ?_⟩
        refine wm_done (by kernel_rfl) ?_
        clear HS; have HS := HS2; clear HS2
        refine ex_then ?_
        refine wp_seq ?_
        refine wp_region_lit ?_
        refine wl_y rfl HF rfl rfl (yl_fieldAddr (j := 3) rfl (HF.ev rfl) (by kernel_rfl)) ?_; clear HF; clear a; intro a HF
        refine wl_y rfl HF rfl rfl (yl_load (v := .slice (some ⟨g, 0, none⟩) c.fOften.length c3) rfl (HF.ev rfl) (((HS.out.box 2 rfl).cell 3).trans rfl) (by kernel_rfl)) ?_; clear HF; clear a; intro a HF
        refine wl_y rfl HF rfl rfl (yl_move rfl (HF.ev rfl)) ?_; clear HF; clear a; intro a HF
        refine wl_y rfl HF rfl rfl (yl_subI (r := ((c.fOften.length - 1 : Nat) : Int)) rfl (HF.ev rfl) (HF.ev rfl) ((i64w (by omega)).trans (by omega))) ?_; clear HF; clear a; intro a HF
        refine wl_y rfl HF rfl rfl (yl_sliceHi (e := 3) (size := 1) (k := c.fOften.length - 1) rfl (HF.ev rfl) (HF.ev rfl) (by kernel_rfl) (by omega) (Nat.le_trans (by omega) (St.capLe HS.out 4 rfl))) ?_; clear HF; clear a; intro a HF
        replace HS := Bx.mk (HS.out.rowDrop encI_len 4 rfl)
        have HS : Bx (St w0 (rowA encI 1 3 (.slice ao24 (((c.fOften.getD (c.fOften.length - 1) 0) :: c.fFormer).length) cp25) ((c.fOften.getD (c.fOften.length - 1) 0) :: c.fFormer) :: boxA b2 6 48 (.agg #[.int .i64 0, .int .i64 0, .slice none 0 0, .slice none 0 0, .slice none 0 0, .slice none 0 0]) :: boxA b1 6 48 (.agg #[.int .i64 c.fRoom, .int .i64 c.fGoal, .slice a2 c.fOnce.length c2, .slice (some ⟨g, 0, none⟩) c.fOften.length c3, .slice a4 c.fPast.length c4, .slice ao24 (((c.fOften.getD (c.fOften.length - 1) 0) :: c.fFormer).length) cp25]) :: rowA encI 1 3 (.slice a2 c.fOnce.length c2) c.fOnce :: rowA encI 1 3 (.slice (some ⟨g, 0, none⟩) (c.fOften.length - 1) c3) c.fOften.dropLast :: rowA encI 1 3 (.slice a4 c.fPast.length c4) c.fPast :: rowA encI 1 3 (.slice a5 c.fFormer.length c5) c.fFormer :: F) _) := HS
        refine wl_y rfl HF rfl rfl (yl_fieldAddr (j := 3) rfl (HF.ev rfl) (by kernel_rfl)) ?_; clear HF; clear a; intro a HF
        refine wl_storeF rfl rfl rfl (HF.ev rfl) (HF.ev rfl) (by kernel_rfl) HS.out 2 rfl rfl rfl ?_; clear HS; intro w42 HS; replace HS := Bx.mk HS
        have HS : Bx (St w0 (rowA encI 1 3 (.slice ao24 (((c.fOften.getD (c.fOften.length - 1) 0) :: c.fFormer).length) cp25) ((c.fOften.getD (c.fOften.length - 1) 0) :: c.fFormer) :: boxA b2 6 48 (.agg #[.int .i64 0, .int .i64 0, .slice none 0 0, .slice none 0 0, .slice none 0 0, .slice none 0 0]) :: boxA b1 6 48 (.agg #[.int .i64 c.fRoom, .int .i64 c.fGoal, .slice a2 c.fOnce.length c2, .slice (some ⟨g, 0, none⟩) (c.fOften.length - 1) c3, .slice a4 c.fPast.length c4, .slice ao24 (((c.fOften.getD (c.fOften.length - 1) 0) :: c.fFormer).length) cp25]) :: rowA encI 1 3 (.slice a2 c.fOnce.length c2) c.fOnce :: rowA encI 1 3 (.slice (some ⟨g, 0, none⟩) (c.fOften.length - 1) c3) c.fOften.dropLast :: rowA encI 1 3 (.slice a4 c.fPast.length c4) c.fPast :: rowA encI 1 3 (.slice a5 c.fFormer.length c5) c.fFormer :: F) _) := HS
        refine wpList_nil ?_
        refine ex_then ?_
        refine wp_seq ?_
        refine wp_region_lit ?_
        refine wl_y rfl HF rfl rfl (yl_loadR (cs := [.int .i64 c.fRoom, .int .i64 c.fGoal, .slice a2 c.fOnce.length c2, .slice (some ⟨g, 0, none⟩) (c.fOften.length - 1) c3, .slice a4 c.fPast.length c4, .slice ao24 (((c.fOften.getD (c.fOften.length - 1) 0) :: c.fFormer).length) cp25]) rfl (HF.ev rfl) ((HS.out.box 2 rfl).sub 0 6) (by kernel_rfl)) ?_; clear HF; clear a; intro a HF
        refine wl_storeBox rfl HF rfl rfl (HF.ev rfl) (HF.ev rfl) HS.out 1 rfl (cells_lit [.int .i64 c.fRoom, .int .i64 c.fGoal, .slice a2 c.fOnce.length c2, .slice (some ⟨g, 0, none⟩) (c.fOften.length - 1) c3, .slice a4 c.fPast.length c4, .slice ao24 (((c.fOften.getD (c.fOften.length - 1) 0) :: c.fFormer).length) cp25] rfl rfl) (by kernel_rfl) ?_; clear HS; intro w43 HS; replace HS := Bx.mk HS
        have HS : Bx (St w0 (rowA encI 1 3 (.slice ao24 (((c.fOften.getD (c.fOften.length - 1) 0) :: c.fFormer).length) cp25) ((c.fOften.getD (c.fOften.length - 1) 0) :: c.fFormer) :: boxA b2 6 48 (.agg #[.int .i64 c.fRoom, .int .i64 c.fGoal, .slice a2 c.fOnce.length c2, .slice (some ⟨g, 0, none⟩) (c.fOften.length - 1) c3, .slice a4 c.fPast.length c4, .slice ao24 (((c.fOften.getD (c.fOften.length - 1) 0) :: c.fFormer).length) cp25]) :: boxA b1 6 48 (.agg #[.int .i64 c.fRoom, .int .i64 c.fGoal, .slice a2 c.fOnce.length c2, .slice (some ⟨g, 0, none⟩) (c.fOften.length - 1) c3, .slice a4 c.fPast.length c4, .slice ao24 (((c.fOften.getD (c.fOften.length - 1) 0) :: c.fFormer).length) cp25]) :: rowA encI 1 3 (.slice a2 c.fOnce.length c2) c.fOnce :: rowA encI 1 3 (.slice (some ⟨g, 0, none⟩) (c.fOften.length - 1) c3) c.fOften.dropLast :: rowA encI 1 3 (.slice a4 c.fPast.length c4) c.fPast :: rowA encI 1 3 (.slice a5 c.fFormer.length c5) c.fFormer :: F) _) := HS
        refine wpList_nil ?_
        refine ex_then ?_
        refine wp_ret ?_
        refine bp_ret1 HF Try.results106 (HF.resBox rfl (HS.out.box 1 rfl) (by kernel_rfl)) ?_
        replace HS : Bx (St w0 (rowA encI 1 3 (.slice a2 c.fOnce.length c2) c.fOnce :: rowA encI 1 3 (.slice (some ⟨g, 0, none⟩) (c.fOften.length - 1) c3) c.fOften.dropLast :: rowA encI 1 3 (.slice a4 c.fPast.length c4) c.fPast :: rowA encI 1 3 (.slice ao24 (((c.fOften.getD (c.fOften.length - 1) 0) :: c.fFormer).length) cp25) ((c.fOften.getD (c.fOften.length - 1) 0) :: c.fFormer) :: boxA b2 6 48 (.agg #[.int .i64 c.fRoom, .int .i64 c.fGoal, .slice a2 c.fOnce.length c2, .slice (some ⟨g, 0, none⟩) (c.fOften.length - 1) c3, .slice a4 c.fPast.length c4, .slice ao24 (((c.fOften.getD (c.fOften.length - 1) 0) :: c.fFormer).length) cp25]) :: boxA b1 6 48 (.agg #[.int .i64 c.fRoom, .int .i64 c.fGoal, .slice a2 c.fOnce.length c2, .slice (some ⟨g, 0, none⟩) (c.fOften.length - 1) c3, .slice a4 c.fPast.length c4, .slice ao24 (((c.fOften.getD (c.fOften.length - 1) 0) :: c.fFormer).length) cp25]) :: rowA encI 1 3 (.slice a5 c.fFormer.length c5) c.fFormer :: F) _) := ⟨((((HS.out).pick 0 rfl).pick 5 rfl).pick 5 rfl).pick 5 rfl⟩
        have hw : c.wayC former = { c with fFormer := lastI c.fOften :: c.fFormer, fOften := c.fOften.dropLast } := by unfold CacheD.wayC; rw [if_neg (by omega), if_neg (fun h => by obtain ⟨p, q | ⟨q1, q2⟩ | q⟩ := (wayC_cond c former).1 h <;> first | omega | simp_all)]
        have HT := (((HS.out.erase 6).erase 5).erase 4)
        rw [show c.fOften.getD (c.fOften.length - 1) 0 = lastI c.fOften from rfl] at HT ⊢
        rw [show c.fOften.length - 1 = c.fOften.dropLast.length by rw [List.length_dropLast]] at HT ⊢
        rw [hw]; exact ⟨_, rfl, _, _, _, _, _, _, _, _, rfl, HT⟩

end Go.Proofs.Ytkgmilobmbeplaa
