/- The cache, walked: way and ask of the program. -/
import Derived.Test.YtkgmilobmbeplaaCaA
namespace Go.Proofs.Ytkgmilobmbeplaa
open Go.RowKit

/-- A cache in a box of the call's own, its rows beside it. -/
def CacheS (w0 : World) (b : Nat) (c : CacheD) (F : List Asr) (w : World) : Prop :=
  ∃ (a2 : Option Addr) (c2 : Nat) (a3 : Option Addr) (c3 : Nat) (a4 : Option Addr) (c4 : Nat) (a5 : Option Addr) (c5 : Nat), St w0 (boxA b 6 48 (.agg #[.int .i64 c.fRoom, .int .i64 c.fGoal, .slice a2 c.fOnce.length c2, .slice a3 c.fOften.length c3, .slice a4 c.fPast.length c4, .slice a5 c.fFormer.length c5]) :: rowA encI 1 3 (.slice a2 c.fOnce.length c2) c.fOnce :: rowA encI 1 3 (.slice a3 c.fOften.length c3) c.fOften :: rowA encI 1 3 (.slice a4 c.fPast.length c4) c.fPast :: rowA encI 1 3 (.slice a5 c.fFormer.length c5) c.fFormer :: F) w
theorem wayC_cond (c : CacheD) (former : Bool) : (decide (0 < c.fOnce.length) && (decide (c.fGoal < c.fOnce.length) || (former && ((c.fOnce.length : Int) == c.fGoal)) || (c.fOften.length == 0))) = true ↔ (0 < c.fOnce.length ∧ (c.fGoal < c.fOnce.length ∨ (former = true ∧ (c.fOnce.length : Int) = c.fGoal) ∨ c.fOften.length = 0)) := by
  rw [Bool.and_eq_true, Bool.or_eq_true, Bool.or_eq_true, Bool.and_eq_true, decide_eq_true_eq, decide_eq_true_eq, beq_iff_eq, beq_iff_eq, or_assoc]
theorem way_le (c : CacheD) (f : Bool) : (c.wayC f).fOnce.length ≤ c.fOnce.length ∧ (c.wayC f).fOften.length ≤ c.fOften.length := by
  unfold CacheD.wayC
  split
  · exact ⟨Nat.le_refl _, Nat.le_refl _⟩
  · split
    · exact ⟨by simp, Nat.le_refl _⟩
    · exact ⟨Nat.le_refl _, by simp⟩
theorem div_le (a b : Nat) : 0 ≤ (a : Int) / (b : Int) ∧ (a : Int) / (b : Int) ≤ a := ⟨Int.ediv_nonneg (by omega) (by omega), Int.ediv_le_self _ (by omega)⟩
theorem inI_pos {xs : List Int} {r : Int} (h : inI xs r = true) : 0 < xs.length := by
  cases xs with
  | nil => cases h
  | cons a l => simp
theorem CacheD.Inv.bounds {c : CacheD} (h : c.Inv) : (1 ≤ c.fRoom ∧ c.fRoom ≤ 8) ∧ (0 ≤ c.fGoal ∧ c.fGoal ≤ 8) ∧ c.fOnce.length ≤ 16 ∧ c.fOften.length ≤ 16 ∧ c.fPast.length ≤ 16 ∧ c.fFormer.length ≤ 16 := by
  have h1 := h.room; have h2 := h.goal; have h3 := h.hot; have h4 := h.one; have h5 := h.all
  unfold CacheD.total at h5
  omega

set_option maxHeartbeats 4000000 in
set_option maxRecDepth 100000 in
theorem way_any (w0 w : World) (b : Nat) (c : CacheD) (former : Bool) (F : List Asr) (h1 : 1 ≤ c.fRoom) (h2 : c.fOnce.length ≤ 100) (h3 : c.fOften.length ≤ 100) (h4 : c.fPast.length ≤ 100) (h5 : c.fFormer.length ≤ 100) (hS : CacheS w0 b c F w) : Calls Try.prog 112 #[.pointer (some ⟨b, 0, none⟩), .bool former] w fun e w' => e = .returned (.tuple #[]) ∧ CacheS w0 b (c.wayC former) F w' := by
  obtain ⟨a2, c2, a3, c3, a4, c4, a5, c5, hS⟩ := hS
  have HS := Bx.mk hS
  clear hS
  refine wc_enter Try.func112 rfl Try.ntmps112 [(0, .pointer (some ⟨b, 0, none⟩)), (1, .bool former)] ⟨rfl, rfl, trivial⟩ rfl ?_; intro a HF
  refine wp_seq ?_
  refine wp_seq ?_
  refine wr_quiet (by kernel_rfl) (by kernel_rfl) HS.out ?_
  refine wq_y rfl HF rfl rfl (fun _ HS => (yl_move rfl (HF.ev rfl))) ?_; clear HF; clear a; intro a HF
  refine wq_y rfl HF rfl rfl (fun _ HS => (yl_nilCheck rfl (HF.ev rfl))) ?_; clear HF; clear a; intro a HF
  refine wq_y rfl HF rfl rfl (fun _ HS => (yl_fieldAddr (j := 2) rfl (HF.ev rfl) (by kernel_rfl))) ?_; clear HF; clear a; intro a HF
  refine wq_y rfl HF rfl rfl (fun _ HS => (yl_load (v := .slice a2 c.fOnce.length c2) rfl (HF.ev rfl) (((HS.box 0 rfl).cell 2).trans rfl) (by kernel_rfl))) ?_; clear HF; clear a; intro a HF
  refine wq_y rfl HF rfl rfl (fun _ HS => (yl_lenL (e := 3) (size := 1) rfl (HF.ev rfl) (by kernel_rfl))) ?_; clear HF; clear a; intro a HF
  refine wq_y rfl HF rfl rfl (fun _ HS => (yl_move rfl (HF.ev rfl))) ?_; clear HF; clear a; intro a HF
  refine wq_y rfl HF rfl rfl (fun _ HS => (yl_nilCheck rfl (HF.ev rfl))) ?_; clear HF; clear a; intro a HF
  refine wq_y rfl HF rfl rfl (fun _ HS => (yl_fieldAddr (j := 3) rfl (HF.ev rfl) (by kernel_rfl))) ?_; clear HF; clear a; intro a HF
  refine wq_y rfl HF rfl rfl (fun _ HS => (yl_load (v := .slice a3 c.fOften.length c3) rfl (HF.ev rfl) (((HS.box 0 rfl).cell 3).trans rfl) (by kernel_rfl))) ?_; clear HF; clear a; intro a HF
  refine wq_y rfl HF rfl rfl (fun _ HS => (yl_lenL (e := 3) (size := 1) rfl (HF.ev rfl) (by kernel_rfl))) ?_; clear HF; clear a; intro a HF
  refine wq_y rfl HF rfl rfl (fun _ HS => (yl_addI rfl (HF.ev rfl) (HF.ev rfl) (i64w (by omega)))) ?_; clear HF; clear a; intro a HF
  refine wq_y rfl HF rfl rfl (fun _ HS => (yl_move rfl (HF.ev rfl))) ?_; clear HF; clear a; intro a HF
  refine wq_y rfl HF rfl rfl (fun _ HS => (yl_nilCheck rfl (HF.ev rfl))) ?_; clear HF; clear a; intro a HF
  refine wq_y rfl HF rfl rfl (fun _ HS => (yl_fieldAddr (j := 0) rfl (HF.ev rfl) (by kernel_rfl))) ?_; clear HF; clear a; intro a HF
  refine wq_y rfl HF rfl rfl (fun _ HS => (yl_load (v := .int .i64 c.fRoom) rfl (HF.ev rfl) (((HS.box 0 rfl).cell 0).trans rfl) (by kernel_rfl))) ?_; clear HF; clear a; intro a HF
  refine wq_y rfl HF rfl rfl (fun _ HS => (yl_lssI rfl (HF.ev rfl) (HF.ev rfl))) ?_; clear HF; clear a; intro a HF
  refine wpQuiet_nil ?_; intro w1 HS; replace HS := Bx.mk HS
  refine ex_then ?_
  refine HF.cases 20 rfl (fun cc1 HF1 => ?_) (fun cc1 HF1 => ?_)
  · clear HF; have HF := HF1; clear HF1
    have cc1 := of_decide_eq_true cc1
    refine wc_true HF rfl ?_
    refine wp_ret ?_
    refine ex_then_ret ?_
    refine bp_ret0 HF Try.results112  ?_
    have hw : c.wayC former = c := by unfold CacheD.wayC; rw [if_pos (by omega)]
    rw [hw]; exact ⟨rfl, _, _, _, _, _, _, _, _, HS.out⟩
  · clear HF; have HF := HF1; clear HF1
    have cc1 := of_decide_eq_false cc1
    refine wc_false HF rfl ?_
    refine wp_skip ?_
    refine ex_then ?_
    refine wp_seq ?_
    refine wp_region_lit ?_
    refine wl_y rfl HF rfl rfl (yl_move rfl (HF.ev rfl)) ?_; clear HF; clear a; intro a HF
    refine wl_y rfl HF rfl rfl (yl_nilCheck rfl (HF.ev rfl)) ?_; clear HF; clear a; intro a HF
    refine wl_y rfl HF rfl rfl (yl_fieldAddr (j := 2) rfl (HF.ev rfl) (by kernel_rfl)) ?_; clear HF; clear a; intro a HF
    refine wl_y rfl HF rfl rfl (yl_load (v := .slice a2 c.fOnce.length c2) rfl (HF.ev rfl) (((HS.out.box 0 rfl).cell 2).trans rfl) (by kernel_rfl)) ?_; clear HF; clear a; intro a HF
    refine wl_y rfl HF rfl rfl (yl_lenL (e := 3) (size := 1) rfl (HF.ev rfl) (by kernel_rfl)) ?_; clear HF; clear a; intro a HF
    refine wl_y rfl HF rfl rfl (yl_assign rfl (HF.ev rfl)) ?_; clear HF; clear a; intro a HF
    refine wpList_nil ?_
    refine ex_then ?_
    refine wp_seq ?_
    refine wp_seq ?_
    refine wp_region_lit ?_
    refine wl_y rfl HF rfl rfl (yl_move rfl (HF.ev rfl)) ?_; clear HF; clear a; intro a HF
    refine wl_y rfl HF rfl rfl (yl_gtrI rfl (HF.ev rfl) (HF.ev rfl)) ?_; clear HF; clear a; intro a HF
    refine wl_y rfl HF rfl rfl (yl_move rfl (HF.ev rfl)) ?_; clear HF; clear a; intro a HF
    refine HF.cases 28 rfl (fun cc2 HF1 => ?_) (fun cc2 HF1 => ?_)
    · clear HF; have HF := HF1; clear HF1
      have cc2 := of_decide_eq_true cc2
      refine wl_yg HF rfl rfl rfl rfl rfl (yl_move rfl (HF.ev rfl)) ?_; clear HF; clear a; intro a HF
      refine wl_yg HF rfl rfl rfl rfl rfl (yl_move rfl (HF.ev rfl)) ?_; clear HF; clear a; intro a HF
      refine wl_yg HF rfl rfl rfl rfl rfl (yl_nilCheck rfl (HF.ev rfl)) ?_; clear HF; clear a; intro a HF
      refine wl_yg HF rfl rfl rfl rfl rfl (yl_fieldAddr (j := 1) rfl (HF.ev rfl) (by kernel_rfl)) ?_; clear HF; clear a; intro a HF
      refine wl_yg HF rfl rfl rfl rfl rfl (yl_load (v := .int .i64 c.fGoal) rfl (HF.ev rfl) (((HS.out.box 0 rfl).cell 1).trans rfl) (by kernel_rfl)) ?_; clear HF; clear a; intro a HF
      refine wl_yg HF rfl rfl rfl rfl rfl (yl_gtrI rfl (HF.ev rfl) (HF.ev rfl)) ?_; clear HF; clear a; intro a HF
      refine wl_yg HF rfl rfl rfl rfl rfl (yl_move rfl (HF.ev rfl)) ?_; clear HF; clear a; intro a HF
      refine HF.cases 35 rfl (fun cc3 HF1 => ?_) (fun cc3 HF1 => ?_)
      · clear HF; have HF := HF1; clear HF1
        have cc3 := of_decide_eq_true cc3
        refine wl_skip HF rfl rfl rfl rfl rfl rfl ?_; clear HF; clear a; intro a HF
        refine wl_skip HF rfl rfl rfl rfl rfl rfl ?_; clear HF; clear a; intro a HF
        refine wl_skipU HF rfl rfl rfl rfl rfl ?_; clear HF; clear a; intro a HF
        refine wl_skipU HF rfl rfl rfl rfl rfl ?_; clear HF; clear a; intro a HF
        refine wl_skipU HF rfl rfl rfl rfl rfl ?_; clear HF; clear a; intro a HF
        refine wl_skipU HF rfl rfl rfl rfl rfl ?_; clear HF; clear a; intro a HF
        refine wl_skipU HF rfl rfl rfl rfl rfl ?_; clear HF; clear a; intro a HF
        refine wl_skipU HF rfl rfl rfl rfl rfl ?_; clear HF; clear a; intro a HF
        refine wl_skip HF rfl rfl rfl rfl rfl rfl ?_; clear HF; clear a; intro a HF
        refine wl_yg HF rfl rfl rfl rfl rfl (yl_pick_t rfl (HF.ev rfl) (HF.ev rfl)) ?_; clear HF; clear a; intro a HF
        refine wl_yg HF rfl rfl rfl rfl rfl (yl_move rfl (HF.ev rfl)) ?_; clear HF; clear a; intro a HF
        refine wl_skip HF rfl rfl rfl rfl rfl rfl ?_; clear HF; clear a; intro a HF
        refine wl_skip HF rfl rfl rfl rfl rfl rfl ?_; clear HF; clear a; intro a HF
        refine wl_skip HF rfl rfl rfl rfl rfl rfl ?_; clear HF; clear a; intro a HF
        refine wl_skip HF rfl rfl rfl rfl rfl rfl ?_; clear HF; clear a; intro a HF
        refine wl_skip HF rfl rfl rfl rfl rfl rfl ?_; clear HF; clear a; intro a HF
        refine wl_skip HF rfl rfl rfl rfl rfl rfl ?_; clear HF; clear a; intro a HF
        refine wl_yg HF rfl rfl rfl rfl rfl (yl_pick_t rfl (HF.ev rfl) (HF.ev rfl)) ?_; clear HF; clear a; intro a HF
        refine wl_y rfl HF rfl rfl (yl_pick_t rfl (HF.ev rfl) (HF.ev rfl)) ?_; clear HF; clear a; intro a HF
        refine wpList_nil ?_
        refine ex_then ?_
        refine wc_true HF rfl ?_
        refine wp_seq ?_
        refine wr_heldS (s := F) (by kernel_rfl) (St.drew ((((((HS.out.erase 4).erase 3).erase 2).erase 1).erase 0))) ?_
        have HS2 := Bx.mk HS.out.drew; replace HS := Bx.mk (show St w0 (F) _ from (((((HS.out.drew.erase 4).erase 3).erase 2).erase 1).erase 0))
        generalize World.drew _ = w2 at HS HS2 ⊢
        refine wh_y 0 rfl (by kernel_rfl) (by kernel_rfl) (by kernel_rfl) (fun _ _ _ h => h) rfl HF rfl rfl (fun _ HS => (yl_move rfl (HF.ev rfl))) HS.out ?_; clear HF; clear a; intro a HF
        refine wh_y 1 rfl (by kernel_rfl) (by kernel_rfl) (by kernel_rfl) (fun _ _ _ h => h) rfl HF rfl rfl (fun _ HS => (yl_nilCheck rfl (HF.ev rfl))) HS.out ?_; clear HF; clear a; intro a HF
        refine wh_y 2 rfl (by kernel_rfl) (by kernel_rfl) (by kernel_rfl) (fun _ _ _ h => h) rfl HF rfl rfl (fun _ HS => (yl_fieldAddr (j := 4) rfl (HF.ev rfl) (by kernel_rfl))) HS.out ?_; clear HF; clear a; intro a HF
        refine wh_y 3 rfl (by kernel_rfl) (by kernel_rfl) (by kernel_rfl) (fun _ _ _ h => h) rfl HF rfl rfl (fun _ HS => (yl_move rfl (HF.ev rfl))) HS.out ?_; clear HF; clear a; intro a HF
        refine wh_y 4 rfl (by kernel_rfl) (by kernel_rfl) (by kernel_rfl) (fun _ _ _ h => h) rfl HF rfl rfl (fun _ HS => (yl_nilCheck rfl (HF.ev rfl))) HS.out ?_; clear HF; clear a; intro a HF
        refine wh_y 5 rfl (by kernel_rfl) (by kernel_rfl) (by kernel_rfl) (fun _ _ _ h => h) rfl HF rfl rfl (fun _ HS => (yl_fieldAddr (j := 2) rfl (HF.ev rfl) (by kernel_rfl))) HS.out ?_; clear HF; clear a; intro a HF
        refine wh_one 6 (by kernel_rfl) ?_
        replace HS2 : Bx (St w0 (boxA b 6 48 (.agg #[.int .i64 c.fRoom, .int .i64 c.fGoal, .slice a2 c.fOnce.length c2, .slice a3 c.fOften.length c3, .slice a4 c.fPast.length c4, .slice a5 c.fFormer.length c5]) :: rowA encI 1 3 (.slice a2 c.fOnce.length c2) c.fOnce :: rowA encI 1 3 (.slice a3 c.fOften.length c3) c.fOften :: rowA encI 1 3 (.slice a4 c.fPast.length c4) c.fPast :: rowA encI 1 3 (.slice a5 c.fFormer.length c5) c.fFormer :: F) _) := ⟨((HS2.out).pick 1 rfl).pick 1 rfl⟩
        refine wo_call rfl rfl HF rfl (enter_of Try.func113 (by kernel_rfl) rfl) (args := #[.pointer (some ⟨b, 0 + 2, none⟩)]) rfl (last_any w0 _ b (0 + 2) _ _ _ c.fOnce _ rfl (by omega) HS2.out (by omega)) rfl rfl ?_
        rintro _ w4 ⟨rfl, hs1⟩
        refine ⟨_, rfl, ?_⟩; replace HS2 := Bx.mk hs1; clear hs1 HF; clear a; intro a HF
        replace HS2 : Bx (St w0 (boxA b 6 48 (.agg #[.int .i64 c.fRoom, .int .i64 c.fGoal, .slice a2 c.fOnce.dropLast.length c2, .slice a3 c.fOften.length c3, .slice a4 c.fPast.length c4, .slice a5 c.fFormer.length c5]) :: rowA encI 1 3 (.slice a2 c.fOnce.dropLast.length c2) c.fOnce.dropLast :: rowA encI 1 3 (.slice a3 c.fOften.length c3) c.fOften :: rowA encI 1 3 (.slice a4 c.fPast.length c4) c.fPast :: rowA encI 1 3 (.slice a5 c.fFormer.length c5) c.fFormer :: F) _) := ⟨HS2.out⟩
        clear HS; have HS : Bx (St w0 (F) _) := ⟨(((((HS2.out.erase 4).erase 3).erase 2).erase 1).erase 0)⟩; refine ⟨HS.out, ?_⟩
        replace HS2 : Bx (St w0 (boxA b 6 48 (.agg #[.int .i64 c.fRoom, .int .i64 c.fGoal, .slice a2 c.fOnce.dropLast.length c2, .slice a3 c.fOften.length c3, .slice a4 c.fPast.length c4, .slice a5 c.fFormer.length c5]) :: rowA encI 1 3 (.slice a2 c.fOnce.dropLast.length c2) c.fOnce.dropLast :: rowA encI 1 3 (.slice a3 c.fOften.length c3) c.fOften :: rowA encI 1 3 (.slice a4 c.fPast.length c4) c.fPast :: rowA encI 1 3 (.slice a5 c.fFormer.length c5) c.fFormer :: F) _) := ⟨(((((HS2.out).pick 4 rfl).pick 4 rfl).pick 4 rfl).pick 4 rfl).pick 4 rfl⟩
        refine wh_one 7 (by kernel_rfl) ?_
        replace HS2 : Bx (St w0 (boxA b 6 48 (.agg #[.int .i64 c.fRoom, .int .i64 c.fGoal, .slice a2 c.fOnce.dropLast.length c2, .slice a3 c.fOften.length c3, .slice a4 c.fPast.length c4, .slice a5 c.fFormer.length c5]) :: rowA encI 1 3 (.slice a4 c.fPast.length c4) c.fPast :: rowA encI 1 3 (.slice a2 c.fOnce.dropLast.length c2) c.fOnce.dropLast :: rowA encI 1 3 (.slice a3 c.fOften.length c3) c.fOften :: rowA encI 1 3 (.slice a5 c.fFormer.length c5) c.fFormer :: F) _) := ⟨((HS2.out).pick 3 rfl).pick 1 rfl⟩
        refine wo_call rfl rfl HF rfl (enter_of Try.func111 (by kernel_rfl) rfl) (args := #[.pointer (some ⟨b, 0 + 4, none⟩), .int .i64 (lastI c.fOnce)]) rfl (front_any w0 _ b (0 + 4) _ _ _ c.fPast (lastI c.fOnce) _ rfl (by first | omega | (simp; omega)) HS2.out) rfl rfl ?_
        rintro _ w6 ⟨rfl, ao1, cp2, hs1⟩
        refine ⟨_, rfl, ?_⟩; replace HS2 := Bx.mk hs1; clear hs1 HF; clear a; intro a HF
        replace HS2 : Bx (St w0 (boxA b 6 48 (.agg #[.int .i64 c.fRoom, .int .i64 c.fGoal, .slice a2 c.fOnce.dropLast.length c2, .slice a3 c.fOften.length c3, .slice ao1 (c.fPast.length + 1) cp2, .slice a5 c.fFormer.length c5]) :: rowA encI 1 3 (.slice ao1 (c.fPast.length + 1) cp2) (lastI c.fOnce :: c.fPast) :: rowA encI 1 3 (.slice a2 c.fOnce.dropLast.length c2) c.fOnce.dropLast :: rowA encI 1 3 (.slice a3 c.fOften.length c3) c.fOften :: rowA encI 1 3 (.slice a5 c.fFormer.length c5) c.fFormer :: F) _) := ⟨HS2.out⟩
        clear HS; have HS : Bx (St w0 (F) _) := ⟨(((((HS2.out.erase 4).erase 3).erase 2).erase 1).erase 0)⟩; refine ⟨HS.out, ?_⟩
        replace HS2 : Bx (St w0 (boxA b 6 48 (.agg #[.int .i64 c.fRoom, .int .i64 c.fGoal, .slice a2 c.fOnce.dropLast.length c2, .slice a3 c.fOften.length c3, .slice ao1 (c.fPast.length + 1) cp2, .slice a5 c.fFormer.length c5]) :: rowA encI 1 3 (.slice a2 c.fOnce.dropLast.length c2) c.fOnce.dropLast :: rowA encI 1 3 (.slice a3 c.fOften.length c3) c.fOften :: rowA encI 1 3 (.slice ao1 (c.fPast.length + 1) cp2) (lastI c.fOnce :: c.fPast) :: rowA encI 1 3 (.slice a5 c.fFormer.length c5) c.fFormer :: F) _) := ⟨(((((HS2.out).pick 4 rfl).pick 2 rfl).pick 4 rfl).pick 4 rfl).pick 4 rfl⟩
        refine wh_done (by kernel_rfl) ?_
        replace HS := HS2; clear HS2
        refine ex_then ?_
        refine wp_ret ?_
        refine ex_then_ret ?_
        refine bp_ret0 HF Try.results112  ?_
        have hw : c.wayC former = { c with fPast := lastI c.fOnce :: c.fPast, fOnce := c.fOnce.dropLast } := by unfold CacheD.wayC; rw [if_neg (by omega), if_pos ((wayC_cond c former).2 ⟨by omega, by first | exact .inl (by omega) | exact .inr (.inl ⟨by assumption, by omega⟩) | exact .inr (.inr (by omega))⟩)]
        rw [hw]; exact ⟨rfl, _, _, _, _, _, _, _, _, HS.out⟩
      · clear HF; have HF := HF1; clear HF1
        have cc3 := of_decide_eq_false cc3
        refine wl_yg HF rfl rfl rfl rfl rfl (yl_move rfl (HF.ev rfl)) ?_; clear HF; clear a; intro a HF
        refine wl_yg HF rfl rfl rfl rfl rfl (yl_move rfl (HF.ev rfl)) ?_; clear HF; clear a; intro a HF
        refine HF.cases 37 rfl (fun cc4 HF1 => ?_) (fun cc4 HF1 => ?_)
        · clear HF; have HF := HF1; clear HF1
          refine wl_yg HF rfl rfl rfl rfl rfl (yl_move rfl (HF.ev rfl)) ?_; clear HF; clear a; intro a HF
          refine wl_yg HF rfl rfl rfl rfl rfl (yl_move rfl (HF.ev rfl)) ?_; clear HF; clear a; intro a HF
          refine wl_yg HF rfl rfl rfl rfl rfl (yl_nilCheck rfl (HF.ev rfl)) ?_; clear HF; clear a; intro a HF
          refine wl_yg HF rfl rfl rfl rfl rfl (yl_fieldAddr (j := 1) rfl (HF.ev rfl) (by kernel_rfl)) ?_; clear HF; clear a; intro a HF
          refine wl_yg HF rfl rfl rfl rfl rfl (yl_load (v := .int .i64 c.fGoal) rfl (HF.ev rfl) (((HS.out.box 0 rfl).cell 1).trans rfl) (by kernel_rfl)) ?_; clear HF; clear a; intro a HF
          refine wl_yg HF rfl rfl rfl rfl rfl (yl_eqlI rfl (HF.ev rfl) (HF.ev rfl)) ?_; clear HF; clear a; intro a HF
          refine wl_yg HF rfl rfl rfl rfl rfl (yl_pick_t rfl (HF.ev rfl) (HF.ev rfl)) ?_; clear HF; clear a; intro a HF
          refine wl_yg HF rfl rfl rfl rfl rfl (yl_pick_f rfl (HF.ev rfl) (HF.ev rfl)) ?_; clear HF; clear a; intro a HF
          refine wl_yg HF rfl rfl rfl rfl rfl (yl_move rfl (HF.ev rfl)) ?_; clear HF; clear a; intro a HF
          refine HF.cases 46 rfl (fun cc5 HF1 => ?_) (fun cc5 HF1 => ?_)
          · clear HF; have HF := HF1; clear HF1
            have cc5 := eq_of_beq cc5
            refine wl_skip HF rfl rfl rfl rfl rfl rfl ?_; clear HF; clear a; intro a HF
            refine wl_skip HF rfl rfl rfl rfl rfl rfl ?_; clear HF; clear a; intro a HF
            refine wl_skip HF rfl rfl rfl rfl rfl rfl ?_; clear HF; clear a; intro a HF
            refine wl_skip HF rfl rfl rfl rfl rfl rfl ?_; clear HF; clear a; intro a HF
            refine wl_skip HF rfl rfl rfl rfl rfl rfl ?_; clear HF; clear a; intro a HF
            refine wl_skip HF rfl rfl rfl rfl rfl rfl ?_; clear HF; clear a; intro a HF
            refine wl_yg HF rfl rfl rfl rfl rfl (yl_pick_t rfl (HF.ev rfl) (HF.ev rfl)) ?_; clear HF; clear a; intro a HF
            refine wl_y rfl HF rfl rfl (yl_pick_t rfl (HF.ev rfl) (HF.ev rfl)) ?_; clear HF; clear a; intro a HF
            refine wpList_nil ?_
            refine ex_then ?_
            refine wc_true HF rfl ?_
            refine wp_seq ?_
            refine wr_heldS (s := F) (by kernel_rfl) (St.drew ((((((HS.out.erase 4).erase 3).erase 2).erase 1).erase 0))) ?_
            have HS2 := Bx.mk HS.out.drew; replace HS := Bx.mk (show St w0 (F) _ from (((((HS.out.drew.erase 4).erase 3).erase 2).erase 1).erase 0))
            generalize World.drew _ = w7 at HS HS2 ⊢
            refine wh_y 0 rfl (by kernel_rfl) (by kernel_rfl) (by kernel_rfl) (fun _ _ _ h => h) rfl HF rfl rfl (fun _ HS => (yl_move rfl (HF.ev rfl))) HS.out ?_; clear HF; clear a; intro a HF
            refine wh_y 1 rfl (by kernel_rfl) (by kernel_rfl) (by kernel_rfl) (fun _ _ _ h => h) rfl HF rfl rfl (fun _ HS => (yl_nilCheck rfl (HF.ev rfl))) HS.out ?_; clear HF; clear a; intro a HF
            refine wh_y 2 rfl (by kernel_rfl) (by kernel_rfl) (by kernel_rfl) (fun _ _ _ h => h) rfl HF rfl rfl (fun _ HS => (yl_fieldAddr (j := 4) rfl (HF.ev rfl) (by kernel_rfl))) HS.out ?_; clear HF; clear a; intro a HF
            refine wh_y 3 rfl (by kernel_rfl) (by kernel_rfl) (by kernel_rfl) (fun _ _ _ h => h) rfl HF rfl rfl (fun _ HS => (yl_move rfl (HF.ev rfl))) HS.out ?_; clear HF; clear a; intro a HF
            refine wh_y 4 rfl (by kernel_rfl) (by kernel_rfl) (by kernel_rfl) (fun _ _ _ h => h) rfl HF rfl rfl (fun _ HS => (yl_nilCheck rfl (HF.ev rfl))) HS.out ?_; clear HF; clear a; intro a HF
            refine wh_y 5 rfl (by kernel_rfl) (by kernel_rfl) (by kernel_rfl) (fun _ _ _ h => h) rfl HF rfl rfl (fun _ HS => (yl_fieldAddr (j := 2) rfl (HF.ev rfl) (by kernel_rfl))) HS.out ?_; clear HF; clear a; intro a HF
            refine wh_one 6 (by kernel_rfl) ?_
            replace HS2 : Bx (St w0 (boxA b 6 48 (.agg #[.int .i64 c.fRoom, .int .i64 c.fGoal, .slice a2 c.fOnce.length c2, .slice a3 c.fOften.length c3, .slice a4 c.fPast.length c4, .slice a5 c.fFormer.length c5]) :: rowA encI 1 3 (.slice a2 c.fOnce.length c2) c.fOnce :: rowA encI 1 3 (.slice a3 c.fOften.length c3) c.fOften :: rowA encI 1 3 (.slice a4 c.fPast.length c4) c.fPast :: rowA encI 1 3 (.slice a5 c.fFormer.length c5) c.fFormer :: F) _) := ⟨((HS2.out).pick 1 rfl).pick 1 rfl⟩
            refine wo_call rfl rfl HF rfl (enter_of Try.func113 (by kernel_rfl) rfl) (args := #[.pointer (some ⟨b, 0 + 2, none⟩)]) rfl (last_any w0 _ b (0 + 2) _ _ _ c.fOnce _ rfl (by omega) HS2.out (by omega)) rfl rfl ?_
            rintro _ w9 ⟨rfl, hs1⟩
            refine ⟨_, rfl, ?_⟩; replace HS2 := Bx.mk hs1; clear hs1 HF; clear a; intro a HF
            replace HS2 : Bx (St w0 (boxA b 6 48 (.agg #[.int .i64 c.fRoom, .int .i64 c.fGoal, .slice a2 c.fOnce.dropLast.length c2, .slice a3 c.fOften.length c3, .slice a4 c.fPast.length c4, .slice a5 c.fFormer.length c5]) :: rowA encI 1 3 (.slice a2 c.fOnce.dropLast.length c2) c.fOnce.dropLast :: rowA encI 1 3 (.slice a3 c.fOften.length c3) c.fOften :: rowA encI 1 3 (.slice a4 c.fPast.length c4) c.fPast :: rowA encI 1 3 (.slice a5 c.fFormer.length c5) c.fFormer :: F) _) := ⟨HS2.out⟩
            clear HS; have HS : Bx (St w0 (F) _) := ⟨(((((HS2.out.erase 4).erase 3).erase 2).erase 1).erase 0)⟩; refine ⟨HS.out, ?_⟩
            replace HS2 : Bx (St w0 (boxA b 6 48 (.agg #[.int .i64 c.fRoom, .int .i64 c.fGoal, .slice a2 c.fOnce.dropLast.length c2, .slice a3 c.fOften.length c3, .slice a4 c.fPast.length c4, .slice a5 c.fFormer.length c5]) :: rowA encI 1 3 (.slice a2 c.fOnce.dropLast.length c2) c.fOnce.dropLast :: rowA encI 1 3 (.slice a3 c.fOften.length c3) c.fOften :: rowA encI 1 3 (.slice a4 c.fPast.length c4) c.fPast :: rowA encI 1 3 (.slice a5 c.fFormer.length c5) c.fFormer :: F) _) := ⟨(((((HS2.out).pick 4 rfl).pick 4 rfl).pick 4 rfl).pick 4 rfl).pick 4 rfl⟩
            refine wh_one 7 (by kernel_rfl) ?_
            replace HS2 : Bx (St w0 (boxA b 6 48 (.agg #[.int .i64 c.fRoom, .int .i64 c.fGoal, .slice a2 c.fOnce.dropLast.length c2, .slice a3 c.fOften.length c3, .slice a4 c.fPast.length c4, .slice a5 c.fFormer.length c5]) :: rowA encI 1 3 (.slice a4 c.fPast.length c4) c.fPast :: rowA encI 1 3 (.slice a2 c.fOnce.dropLast.length c2) c.fOnce.dropLast :: rowA encI 1 3 (.slice a3 c.fOften.length c3) c.fOften :: rowA encI 1 3 (.slice a5 c.fFormer.length c5) c.fFormer :: F) _) := ⟨((HS2.out).pick 3 rfl).pick 1 rfl⟩
            refine wo_call rfl rfl HF rfl (enter_of Try.func111 (by kernel_rfl) rfl) (args := #[.pointer (some ⟨b, 0 + 4, none⟩), .int .i64 (lastI c.fOnce)]) rfl (front_any w0 _ b (0 + 4) _ _ _ c.fPast (lastI c.fOnce) _ rfl (by first | omega | (simp; omega)) HS2.out) rfl rfl ?_
            rintro _ w11 ⟨rfl, ao3, cp4, hs1⟩
            refine ⟨_, rfl, ?_⟩; replace HS2 := Bx.mk hs1; clear hs1 HF; clear a; intro a HF
            replace HS2 : Bx (St w0 (boxA b 6 48 (.agg #[.int .i64 c.fRoom, .int .i64 c.fGoal, .slice a2 c.fOnce.dropLast.length c2, .slice a3 c.fOften.length c3, .slice ao3 (c.fPast.length + 1) cp4, .slice a5 c.fFormer.length c5]) :: rowA encI 1 3 (.slice ao3 (c.fPast.length + 1) cp4) (lastI c.fOnce :: c.fPast) :: rowA encI 1 3 (.slice a2 c.fOnce.dropLast.length c2) c.fOnce.dropLast :: rowA encI 1 3 (.slice a3 c.fOften.length c3) c.fOften :: rowA encI 1 3 (.slice a5 c.fFormer.length c5) c.fFormer :: F) _) := ⟨HS2.out⟩
            clear HS; have HS : Bx (St w0 (F) _) := ⟨(((((HS2.out.erase 4).erase 3).erase 2).erase 1).erase 0)⟩; refine ⟨HS.out, ?_⟩
            replace HS2 : Bx (St w0 (boxA b 6 48 (.agg #[.int .i64 c.fRoom, .int .i64 c.fGoal, .slice a2 c.fOnce.dropLast.length c2, .slice a3 c.fOften.length c3, .slice ao3 (c.fPast.length + 1) cp4, .slice a5 c.fFormer.length c5]) :: rowA encI 1 3 (.slice a2 c.fOnce.dropLast.length c2) c.fOnce.dropLast :: rowA encI 1 3 (.slice a3 c.fOften.length c3) c.fOften :: rowA encI 1 3 (.slice ao3 (c.fPast.length + 1) cp4) (lastI c.fOnce :: c.fPast) :: rowA encI 1 3 (.slice a5 c.fFormer.length c5) c.fFormer :: F) _) := ⟨(((((HS2.out).pick 4 rfl).pick 2 rfl).pick 4 rfl).pick 4 rfl).pick 4 rfl⟩
            refine wh_done (by kernel_rfl) ?_
            replace HS := HS2; clear HS2
            refine ex_then ?_
            refine wp_ret ?_
            refine ex_then_ret ?_
            refine bp_ret0 HF Try.results112  ?_
            have hw : c.wayC former = { c with fPast := lastI c.fOnce :: c.fPast, fOnce := c.fOnce.dropLast } := by unfold CacheD.wayC; rw [if_neg (by omega), if_pos ((wayC_cond c former).2 ⟨by omega, by first | exact .inl (by omega) | exact .inr (.inl ⟨by assumption, by omega⟩) | exact .inr (.inr (by omega))⟩)]
            rw [hw]; exact ⟨rfl, _, _, _, _, _, _, _, _, HS.out⟩
          · clear HF; have HF := HF1; clear HF1
            have cc5 := ne_of_beq_false cc5
            refine wl_yg HF rfl rfl rfl rfl rfl (yl_move rfl (HF.ev rfl)) ?_; clear HF; clear a; intro a HF
            refine wl_yg HF rfl rfl rfl rfl rfl (yl_nilCheck rfl (HF.ev rfl)) ?_; clear HF; clear a; intro a HF
            refine wl_yg HF rfl rfl rfl rfl rfl (yl_fieldAddr (j := 3) rfl (HF.ev rfl) (by kernel_rfl)) ?_; clear HF; clear a; intro a HF
            refine wl_yg HF rfl rfl rfl rfl rfl (yl_load (v := .slice a3 c.fOften.length c3) rfl (HF.ev rfl) (((HS.out.box 0 rfl).cell 3).trans rfl) (by kernel_rfl)) ?_; clear HF; clear a; intro a HF
            refine wl_yg HF rfl rfl rfl rfl rfl (yl_lenL (e := 3) (size := 1) rfl (HF.ev rfl) (by kernel_rfl)) ?_; clear HF; clear a; intro a HF
            refine wl_yg HF rfl rfl rfl rfl rfl (yl_eqlI rfl (HF.ev rfl) (HF.ev rfl)) ?_; clear HF; clear a; intro a HF
            refine wl_yg HF rfl rfl rfl rfl rfl (yl_pick_f rfl (HF.ev rfl) (HF.ev rfl)) ?_; clear HF; clear a; intro a HF
            refine wl_y rfl HF rfl rfl (yl_pick_t rfl (HF.ev rfl) (HF.ev rfl)) ?_; clear HF; clear a; intro a HF
            refine wpList_nil ?_
            refine ex_then ?_
            refine HF.cases 54 rfl (fun cc6 HF1 => ?_) (fun cc6 HF1 => ?_)
            · clear HF; have HF := HF1; clear HF1
              have cc6 := eq_of_beq cc6
              refine wc_true HF rfl ?_
              refine wp_seq ?_
              refine wr_heldS (s := F) (by kernel_rfl) (St.drew ((((((HS.out.erase 4).erase 3).erase 2).erase 1).erase 0))) ?_
              have HS2 := Bx.mk HS.out.drew; replace HS := Bx.mk (show St w0 (F) _ from (((((HS.out.drew.erase 4).erase 3).erase 2).erase 1).erase 0))
              generalize World.drew _ = w12 at HS HS2 ⊢
              refine wh_y 0 rfl (by kernel_rfl) (by kernel_rfl) (by kernel_rfl) (fun _ _ _ h => h) rfl HF rfl rfl (fun _ HS => (yl_move rfl (HF.ev rfl))) HS.out ?_; clear HF; clear a; intro a HF
              refine wh_y 1 rfl (by kernel_rfl) (by kernel_rfl) (by kernel_rfl) (fun _ _ _ h => h) rfl HF rfl rfl (fun _ HS => (yl_nilCheck rfl (HF.ev rfl))) HS.out ?_; clear HF; clear a; intro a HF
              refine wh_y 2 rfl (by kernel_rfl) (by kernel_rfl) (by kernel_rfl) (fun _ _ _ h => h) rfl HF rfl rfl (fun _ HS => (yl_fieldAddr (j := 4) rfl (HF.ev rfl) (by kernel_rfl))) HS.out ?_; clear HF; clear a; intro a HF
              refine wh_y 3 rfl (by kernel_rfl) (by kernel_rfl) (by kernel_rfl) (fun _ _ _ h => h) rfl HF rfl rfl (fun _ HS => (yl_move rfl (HF.ev rfl))) HS.out ?_; clear HF; clear a; intro a HF
              refine wh_y 4 rfl (by kernel_rfl) (by kernel_rfl) (by kernel_rfl) (fun _ _ _ h => h) rfl HF rfl rfl (fun _ HS => (yl_nilCheck rfl (HF.ev rfl))) HS.out ?_; clear HF; clear a; intro a HF
              refine wh_y 5 rfl (by kernel_rfl) (by kernel_rfl) (by kernel_rfl) (fun _ _ _ h => h) rfl HF rfl rfl (fun _ HS => (yl_fieldAddr (j := 2) rfl (HF.ev rfl) (by kernel_rfl))) HS.out ?_; clear HF; clear a; intro a HF
              refine wh_one 6 (by kernel_rfl) ?_
              replace HS2 : Bx (St w0 (boxA b 6 48 (.agg #[.int .i64 c.fRoom, .int .i64 c.fGoal, .slice a2 c.fOnce.length c2, .slice a3 c.fOften.length c3, .slice a4 c.fPast.length c4, .slice a5 c.fFormer.length c5]) :: rowA encI 1 3 (.slice a2 c.fOnce.length c2) c.fOnce :: rowA encI 1 3 (.slice a3 c.fOften.length c3) c.fOften :: rowA encI 1 3 (.slice a4 c.fPast.length c4) c.fPast :: rowA encI 1 3 (.slice a5 c.fFormer.length c5) c.fFormer :: F) _) := ⟨((HS2.out).pick 1 rfl).pick 1 rfl⟩
              refine wo_call rfl rfl HF rfl (enter_of Try.func113 (by kernel_rfl) rfl) (args := #[.pointer (some ⟨b, 0 + 2, none⟩)]) rfl (last_any w0 _ b (0 + 2) _ _ _ c.fOnce _ rfl (by omega) HS2.out (by omega)) rfl rfl ?_
              rintro _ w14 ⟨rfl, hs1⟩
              refine ⟨_, rfl, ?_⟩; replace HS2 := Bx.mk hs1; clear hs1 HF; clear a; intro a HF
              replace HS2 : Bx (St w0 (boxA b 6 48 (.agg #[.int .i64 c.fRoom, .int .i64 c.fGoal, .slice a2 c.fOnce.dropLast.length c2, .slice a3 c.fOften.length c3, .slice a4 c.fPast.length c4, .slice a5 c.fFormer.length c5]) :: rowA encI 1 3 (.slice a2 c.fOnce.dropLast.length c2) c.fOnce.dropLast :: rowA encI 1 3 (.slice a3 c.fOften.length c3) c.fOften :: rowA encI 1 3 (.slice a4 c.fPast.length c4) c.fPast :: rowA encI 1 3 (.slice a5 c.fFormer.length c5) c.fFormer :: F) _) := ⟨HS2.out⟩
              clear HS; have HS : Bx (St w0 (F) _) := ⟨(((((HS2.out.erase 4).erase 3).erase 2).erase 1).erase 0)⟩; refine ⟨HS.out, ?_⟩
              replace HS2 : Bx (St w0 (boxA b 6 48 (.agg #[.int .i64 c.fRoom, .int .i64 c.fGoal, .slice a2 c.fOnce.dropLast.length c2, .slice a3 c.fOften.length c3, .slice a4 c.fPast.length c4, .slice a5 c.fFormer.length c5]) :: rowA encI 1 3 (.slice a2 c.fOnce.dropLast.length c2) c.fOnce.dropLast :: rowA encI 1 3 (.slice a3 c.fOften.length c3) c.fOften :: rowA encI 1 3 (.slice a4 c.fPast.length c4) c.fPast :: rowA encI 1 3 (.slice a5 c.fFormer.length c5) c.fFormer :: F) _) := ⟨(((((HS2.out).pick 4 rfl).pick 4 rfl).pick 4 rfl).pick 4 rfl).pick 4 rfl⟩
              refine wh_one 7 (by kernel_rfl) ?_
              replace HS2 : Bx (St w0 (boxA b 6 48 (.agg #[.int .i64 c.fRoom, .int .i64 c.fGoal, .slice a2 c.fOnce.dropLast.length c2, .slice a3 c.fOften.length c3, .slice a4 c.fPast.length c4, .slice a5 c.fFormer.length c5]) :: rowA encI 1 3 (.slice a4 c.fPast.length c4) c.fPast :: rowA encI 1 3 (.slice a2 c.fOnce.dropLast.length c2) c.fOnce.dropLast :: rowA encI 1 3 (.slice a3 c.fOften.length c3) c.fOften :: rowA encI 1 3 (.slice a5 c.fFormer.length c5) c.fFormer :: F) _) := ⟨((HS2.out).pick 3 rfl).pick 1 rfl⟩
              refine wo_call rfl rfl HF rfl (enter_of Try.func111 (by kernel_rfl) rfl) (args := #[.pointer (some ⟨b, 0 + 4, none⟩), .int .i64 (lastI c.fOnce)]) rfl (front_any w0 _ b (0 + 4) _ _ _ c.fPast (lastI c.fOnce) _ rfl (by first | omega | (simp; omega)) HS2.out) rfl rfl ?_
              rintro _ w16 ⟨rfl, ao5, cp6, hs1⟩
              refine ⟨_, rfl, ?_⟩; replace HS2 := Bx.mk hs1; clear hs1 HF; clear a; intro a HF
              replace HS2 : Bx (St w0 (boxA b 6 48 (.agg #[.int .i64 c.fRoom, .int .i64 c.fGoal, .slice a2 c.fOnce.dropLast.length c2, .slice a3 c.fOften.length c3, .slice ao5 (c.fPast.length + 1) cp6, .slice a5 c.fFormer.length c5]) :: rowA encI 1 3 (.slice ao5 (c.fPast.length + 1) cp6) (lastI c.fOnce :: c.fPast) :: rowA encI 1 3 (.slice a2 c.fOnce.dropLast.length c2) c.fOnce.dropLast :: rowA encI 1 3 (.slice a3 c.fOften.length c3) c.fOften :: rowA encI 1 3 (.slice a5 c.fFormer.length c5) c.fFormer :: F) _) := ⟨HS2.out⟩
              clear HS; have HS : Bx (St w0 (F) _) := ⟨(((((HS2.out.erase 4).erase 3).erase 2).erase 1).erase 0)⟩; refine ⟨HS.out, ?_⟩
              replace HS2 : Bx (St w0 (boxA b 6 48 (.agg #[.int .i64 c.fRoom, .int .i64 c.fGoal, .slice a2 c.fOnce.dropLast.length c2, .slice a3 c.fOften.length c3, .slice ao5 (c.fPast.length + 1) cp6, .slice a5 c.fFormer.length c5]) :: rowA encI 1 3 (.slice a2 c.fOnce.dropLast.length c2) c.fOnce.dropLast :: rowA encI 1 3 (.slice a3 c.fOften.length c3) c.fOften :: rowA encI 1 3 (.slice ao5 (c.fPast.length + 1) cp6) (lastI c.fOnce :: c.fPast) :: rowA encI 1 3 (.slice a5 c.fFormer.length c5) c.fFormer :: F) _) := ⟨(((((HS2.out).pick 4 rfl).pick 2 rfl).pick 4 rfl).pick 4 rfl).pick 4 rfl⟩
              refine wh_done (by kernel_rfl) ?_
              replace HS := HS2; clear HS2
              refine ex_then ?_
              refine wp_ret ?_
              refine ex_then_ret ?_
              refine bp_ret0 HF Try.results112  ?_
              have hw : c.wayC former = { c with fPast := lastI c.fOnce :: c.fPast, fOnce := c.fOnce.dropLast } := by unfold CacheD.wayC; rw [if_neg (by omega), if_pos ((wayC_cond c former).2 ⟨by omega, by first | exact .inl (by omega) | exact .inr (.inl ⟨by assumption, by omega⟩) | exact .inr (.inr (by omega))⟩)]
              rw [hw]; exact ⟨rfl, _, _, _, _, _, _, _, _, HS.out⟩
            · clear HF; have HF := HF1; clear HF1
              have cc6 := ne_of_beq_false cc6
              refine wc_false HF rfl ?_
              refine wp_skip ?_
              refine ex_then ?_
              refine wr_heldS (s := F) (by kernel_rfl) (St.drew ((((((HS.out.erase 4).erase 3).erase 2).erase 1).erase 0))) ?_
              have HS2 := Bx.mk HS.out.drew; replace HS := Bx.mk (show St w0 (F) _ from (((((HS.out.drew.erase 4).erase 3).erase 2).erase 1).erase 0))
              generalize World.drew _ = w17 at HS HS2 ⊢
              refine wh_y 0 rfl (by kernel_rfl) (by kernel_rfl) (by kernel_rfl) (fun _ _ _ h => h) rfl HF rfl rfl (fun _ HS => (yl_move rfl (HF.ev rfl))) HS.out ?_; clear HF; clear a; intro a HF
              refine wh_y 1 rfl (by kernel_rfl) (by kernel_rfl) (by kernel_rfl) (fun _ _ _ h => h) rfl HF rfl rfl (fun _ HS => (yl_nilCheck rfl (HF.ev rfl))) HS.out ?_; clear HF; clear a; intro a HF
              refine wh_y 2 rfl (by kernel_rfl) (by kernel_rfl) (by kernel_rfl) (fun _ _ _ h => h) rfl HF rfl rfl (fun _ HS => (yl_fieldAddr (j := 5) rfl (HF.ev rfl) (by kernel_rfl))) HS.out ?_; clear HF; clear a; intro a HF
              refine wh_y 3 rfl (by kernel_rfl) (by kernel_rfl) (by kernel_rfl) (fun _ _ _ h => h) rfl HF rfl rfl (fun _ HS => (yl_move rfl (HF.ev rfl))) HS.out ?_; clear HF; clear a; intro a HF
              refine wh_y 4 rfl (by kernel_rfl) (by kernel_rfl) (by kernel_rfl) (fun _ _ _ h => h) rfl HF rfl rfl (fun _ HS => (yl_nilCheck rfl (HF.ev rfl))) HS.out ?_; clear HF; clear a; intro a HF
              refine wh_y 5 rfl (by kernel_rfl) (by kernel_rfl) (by kernel_rfl) (fun _ _ _ h => h) rfl HF rfl rfl (fun _ HS => (yl_fieldAddr (j := 3) rfl (HF.ev rfl) (by kernel_rfl))) HS.out ?_; clear HF; clear a; intro a HF
              refine wh_one 6 (by kernel_rfl) ?_
              replace HS2 : Bx (St w0 (boxA b 6 48 (.agg #[.int .i64 c.fRoom, .int .i64 c.fGoal, .slice a2 c.fOnce.length c2, .slice a3 c.fOften.length c3, .slice a4 c.fPast.length c4, .slice a5 c.fFormer.length c5]) :: rowA encI 1 3 (.slice a3 c.fOften.length c3) c.fOften :: rowA encI 1 3 (.slice a2 c.fOnce.length c2) c.fOnce :: rowA encI 1 3 (.slice a4 c.fPast.length c4) c.fPast :: rowA encI 1 3 (.slice a5 c.fFormer.length c5) c.fFormer :: F) _) := ⟨((HS2.out).pick 2 rfl).pick 1 rfl⟩
              refine wo_call rfl rfl HF rfl (enter_of Try.func113 (by kernel_rfl) rfl) (args := #[.pointer (some ⟨b, 0 + 3, none⟩)]) rfl (last_any w0 _ b (0 + 3) _ _ _ c.fOften _ rfl (by omega) HS2.out (by omega)) rfl rfl ?_
              rintro _ w19 ⟨rfl, hs1⟩
              refine ⟨_, rfl, ?_⟩; replace HS2 := Bx.mk hs1; clear hs1 HF; clear a; intro a HF
              replace HS2 : Bx (St w0 (boxA b 6 48 (.agg #[.int .i64 c.fRoom, .int .i64 c.fGoal, .slice a2 c.fOnce.length c2, .slice a3 c.fOften.dropLast.length c3, .slice a4 c.fPast.length c4, .slice a5 c.fFormer.length c5]) :: rowA encI 1 3 (.slice a3 c.fOften.dropLast.length c3) c.fOften.dropLast :: rowA encI 1 3 (.slice a2 c.fOnce.length c2) c.fOnce :: rowA encI 1 3 (.slice a4 c.fPast.length c4) c.fPast :: rowA encI 1 3 (.slice a5 c.fFormer.length c5) c.fFormer :: F) _) := ⟨HS2.out⟩
              clear HS; have HS : Bx (St w0 (F) _) := ⟨(((((HS2.out.erase 4).erase 3).erase 2).erase 1).erase 0)⟩; refine ⟨HS.out, ?_⟩
              replace HS2 : Bx (St w0 (boxA b 6 48 (.agg #[.int .i64 c.fRoom, .int .i64 c.fGoal, .slice a2 c.fOnce.length c2, .slice a3 c.fOften.dropLast.length c3, .slice a4 c.fPast.length c4, .slice a5 c.fFormer.length c5]) :: rowA encI 1 3 (.slice a2 c.fOnce.length c2) c.fOnce :: rowA encI 1 3 (.slice a3 c.fOften.dropLast.length c3) c.fOften.dropLast :: rowA encI 1 3 (.slice a4 c.fPast.length c4) c.fPast :: rowA encI 1 3 (.slice a5 c.fFormer.length c5) c.fFormer :: F) _) := ⟨(((((HS2.out).pick 4 rfl).pick 4 rfl).pick 3 rfl).pick 4 rfl).pick 4 rfl⟩
              refine wh_one 7 (by kernel_rfl) ?_
              replace HS2 : Bx (St w0 (boxA b 6 48 (.agg #[.int .i64 c.fRoom, .int .i64 c.fGoal, .slice a2 c.fOnce.length c2, .slice a3 c.fOften.dropLast.length c3, .slice a4 c.fPast.length c4, .slice a5 c.fFormer.length c5]) :: rowA encI 1 3 (.slice a5 c.fFormer.length c5) c.fFormer :: rowA encI 1 3 (.slice a2 c.fOnce.length c2) c.fOnce :: rowA encI 1 3 (.slice a3 c.fOften.dropLast.length c3) c.fOften.dropLast :: rowA encI 1 3 (.slice a4 c.fPast.length c4) c.fPast :: F) _) := ⟨((HS2.out).pick 4 rfl).pick 1 rfl⟩
              refine wo_call rfl rfl HF rfl (enter_of Try.func111 (by kernel_rfl) rfl) (args := #[.pointer (some ⟨b, 0 + 5, none⟩), .int .i64 (lastI c.fOften)]) rfl (front_any w0 _ b (0 + 5) _ _ _ c.fFormer (lastI c.fOften) _ rfl (by first | omega | (simp; omega)) HS2.out) rfl rfl ?_
              rintro _ w21 ⟨rfl, ao7, cp8, hs1⟩
              refine ⟨_, rfl, ?_⟩; replace HS2 := Bx.mk hs1; clear hs1 HF; clear a; intro a HF
              replace HS2 : Bx (St w0 (boxA b 6 48 (.agg #[.int .i64 c.fRoom, .int .i64 c.fGoal, .slice a2 c.fOnce.length c2, .slice a3 c.fOften.dropLast.length c3, .slice a4 c.fPast.length c4, .slice ao7 (c.fFormer.length + 1) cp8]) :: rowA encI 1 3 (.slice ao7 (c.fFormer.length + 1) cp8) (lastI c.fOften :: c.fFormer) :: rowA encI 1 3 (.slice a2 c.fOnce.length c2) c.fOnce :: rowA encI 1 3 (.slice a3 c.fOften.dropLast.length c3) c.fOften.dropLast :: rowA encI 1 3 (.slice a4 c.fPast.length c4) c.fPast :: F) _) := ⟨HS2.out⟩
              clear HS; have HS : Bx (St w0 (F) _) := ⟨(((((HS2.out.erase 4).erase 3).erase 2).erase 1).erase 0)⟩; refine ⟨HS.out, ?_⟩
              replace HS2 : Bx (St w0 (boxA b 6 48 (.agg #[.int .i64 c.fRoom, .int .i64 c.fGoal, .slice a2 c.fOnce.length c2, .slice a3 c.fOften.dropLast.length c3, .slice a4 c.fPast.length c4, .slice ao7 (c.fFormer.length + 1) cp8]) :: rowA encI 1 3 (.slice a2 c.fOnce.length c2) c.fOnce :: rowA encI 1 3 (.slice a3 c.fOften.dropLast.length c3) c.fOften.dropLast :: rowA encI 1 3 (.slice a4 c.fPast.length c4) c.fPast :: rowA encI 1 3 (.slice ao7 (c.fFormer.length + 1) cp8) (lastI c.fOften :: c.fFormer) :: F) _) := ⟨(((((HS2.out).pick 1 rfl).pick 4 rfl).pick 4 rfl).pick 4 rfl).pick 4 rfl⟩
              refine wh_done (by kernel_rfl) ?_
              replace HS := HS2; clear HS2
              refine bp_end0 HF Try.results112 ?_
              have hw : c.wayC former = { c with fFormer := lastI c.fOften :: c.fFormer, fOften := c.fOften.dropLast } := by unfold CacheD.wayC; rw [if_neg (by omega), if_neg (fun h => by obtain ⟨p, q | ⟨q1, q2⟩ | q⟩ := (wayC_cond c former).1 h <;> first | omega | simp_all)]
              rw [hw]; exact ⟨rfl, _, _, _, _, _, _, _, _, HS.out⟩
        · clear HF; have HF := HF1; clear HF1
          refine wl_skip HF rfl rfl rfl rfl rfl rfl ?_; clear HF; clear a; intro a HF
          refine wl_skip HF rfl rfl rfl rfl rfl rfl ?_; clear HF; clear a; intro a HF
          refine wl_skip HF rfl rfl rfl rfl rfl rfl ?_; clear HF; clear a; intro a HF
          refine wl_skip HF rfl rfl rfl rfl rfl rfl ?_; clear HF; clear a; intro a HF
          refine wl_skip HF rfl rfl rfl rfl rfl rfl ?_; clear HF; clear a; intro a HF
          refine wl_skip HF rfl rfl rfl rfl rfl rfl ?_; clear HF; clear a; intro a HF
          refine wl_yg HF rfl rfl rfl rfl rfl (yl_pick_f rfl (HF.ev rfl) (HF.ev rfl)) ?_; clear HF; clear a; intro a HF
          refine wl_yg HF rfl rfl rfl rfl rfl (yl_pick_f rfl (HF.ev rfl) (HF.ev rfl)) ?_; clear HF; clear a; intro a HF
          refine wl_yg HF rfl rfl rfl rfl rfl (yl_move rfl (HF.ev rfl)) ?_; clear HF; clear a; intro a HF
          refine wl_yg HF rfl rfl rfl rfl rfl (yl_move rfl (HF.ev rfl)) ?_; clear HF; clear a; intro a HF
          refine wl_yg HF rfl rfl rfl rfl rfl (yl_nilCheck rfl (HF.ev rfl)) ?_; clear HF; clear a; intro a HF
          refine wl_yg HF rfl rfl rfl rfl rfl (yl_fieldAddr (j := 3) rfl (HF.ev rfl) (by kernel_rfl)) ?_; clear HF; clear a; intro a HF
          refine wl_yg HF rfl rfl rfl rfl rfl (yl_load (v := .slice a3 c.fOften.length c3) rfl (HF.ev rfl) (((HS.out.box 0 rfl).cell 3).trans rfl) (by kernel_rfl)) ?_; clear HF; clear a; intro a HF
          refine wl_yg HF rfl rfl rfl rfl rfl (yl_lenL (e := 3) (size := 1) rfl (HF.ev rfl) (by kernel_rfl)) ?_; clear HF; clear a; intro a HF
          refine wl_yg HF rfl rfl rfl rfl rfl (yl_eqlI rfl (HF.ev rfl) (HF.ev rfl)) ?_; clear HF; clear a; intro a HF
          refine wl_yg HF rfl rfl rfl rfl rfl (yl_pick_f rfl (HF.ev rfl) (HF.ev rfl)) ?_; clear HF; clear a; intro a HF
          refine wl_y rfl HF rfl rfl (yl_pick_t rfl (HF.ev rfl) (HF.ev rfl)) ?_; clear HF; clear a; intro a HF
          refine wpList_nil ?_
          refine ex_then ?_
          refine HF.cases 54 rfl (fun cc7 HF1 => ?_) (fun cc7 HF1 => ?_)
          · clear HF; have HF := HF1; clear HF1
            have cc7 := eq_of_beq cc7
            refine wc_true HF rfl ?_
            refine wp_seq ?_
            refine wr_heldS (s := F) (by kernel_rfl) (St.drew ((((((HS.out.erase 4).erase 3).erase 2).erase 1).erase 0))) ?_
            have HS2 := Bx.mk HS.out.drew; replace HS := Bx.mk (show St w0 (F) _ from (((((HS.out.drew.erase 4).erase 3).erase 2).erase 1).erase 0))
            generalize World.drew _ = w22 at HS HS2 ⊢
            refine wh_y 0 rfl (by kernel_rfl) (by kernel_rfl) (by kernel_rfl) (fun _ _ _ h => h) rfl HF rfl rfl (fun _ HS => (yl_move rfl (HF.ev rfl))) HS.out ?_; clear HF; clear a; intro a HF
            refine wh_y 1 rfl (by kernel_rfl) (by kernel_rfl) (by kernel_rfl) (fun _ _ _ h => h) rfl HF rfl rfl (fun _ HS => (yl_nilCheck rfl (HF.ev rfl))) HS.out ?_; clear HF; clear a; intro a HF
            refine wh_y 2 rfl (by kernel_rfl) (by kernel_rfl) (by kernel_rfl) (fun _ _ _ h => h) rfl HF rfl rfl (fun _ HS => (yl_fieldAddr (j := 4) rfl (HF.ev rfl) (by kernel_rfl))) HS.out ?_; clear HF; clear a; intro a HF
            refine wh_y 3 rfl (by kernel_rfl) (by kernel_rfl) (by kernel_rfl) (fun _ _ _ h => h) rfl HF rfl rfl (fun _ HS => (yl_move rfl (HF.ev rfl))) HS.out ?_; clear HF; clear a; intro a HF
            refine wh_y 4 rfl (by kernel_rfl) (by kernel_rfl) (by kernel_rfl) (fun _ _ _ h => h) rfl HF rfl rfl (fun _ HS => (yl_nilCheck rfl (HF.ev rfl))) HS.out ?_; clear HF; clear a; intro a HF
            refine wh_y 5 rfl (by kernel_rfl) (by kernel_rfl) (by kernel_rfl) (fun _ _ _ h => h) rfl HF rfl rfl (fun _ HS => (yl_fieldAddr (j := 2) rfl (HF.ev rfl) (by kernel_rfl))) HS.out ?_; clear HF; clear a; intro a HF
            refine wh_one 6 (by kernel_rfl) ?_
            replace HS2 : Bx (St w0 (boxA b 6 48 (.agg #[.int .i64 c.fRoom, .int .i64 c.fGoal, .slice a2 c.fOnce.length c2, .slice a3 c.fOften.length c3, .slice a4 c.fPast.length c4, .slice a5 c.fFormer.length c5]) :: rowA encI 1 3 (.slice a2 c.fOnce.length c2) c.fOnce :: rowA encI 1 3 (.slice a3 c.fOften.length c3) c.fOften :: rowA encI 1 3 (.slice a4 c.fPast.length c4) c.fPast :: rowA encI 1 3 (.slice a5 c.fFormer.length c5) c.fFormer :: F) _) := ⟨((HS2.out).pick 1 rfl).pick 1 rfl⟩
            refine wo_call rfl rfl HF rfl (enter_of Try.func113 (by kernel_rfl) rfl) (args := #[.pointer (some ⟨b, 0 + 2, none⟩)]) rfl (last_any w0 _ b (0 + 2) _ _ _ c.fOnce _ rfl (by omega) HS2.out (by omega)) rfl rfl ?_
            rintro _ w24 ⟨rfl, hs1⟩
            refine ⟨_, rfl, ?_⟩; replace HS2 := Bx.mk hs1; clear hs1 HF; clear a; intro a HF
            replace HS2 : Bx (St w0 (boxA b 6 48 (.agg #[.int .i64 c.fRoom, .int .i64 c.fGoal, .slice a2 c.fOnce.dropLast.length c2, .slice a3 c.fOften.length c3, .slice a4 c.fPast.length c4, .slice a5 c.fFormer.length c5]) :: rowA encI 1 3 (.slice a2 c.fOnce.dropLast.length c2) c.fOnce.dropLast :: rowA encI 1 3 (.slice a3 c.fOften.length c3) c.fOften :: rowA encI 1 3 (.slice a4 c.fPast.length c4) c.fPast :: rowA encI 1 3 (.slice a5 c.fFormer.length c5) c.fFormer :: F) _) := ⟨HS2.out⟩
            clear HS; have HS : Bx (St w0 (F) _) := ⟨(((((HS2.out.erase 4).erase 3).erase 2).erase 1).erase 0)⟩; refine ⟨HS.out, ?_⟩
            replace HS2 : Bx (St w0 (boxA b 6 48 (.agg #[.int .i64 c.fRoom, .int .i64 c.fGoal, .slice a2 c.fOnce.dropLast.length c2, .slice a3 c.fOften.length c3, .slice a4 c.fPast.length c4, .slice a5 c.fFormer.length c5]) :: rowA encI 1 3 (.slice a2 c.fOnce.dropLast.length c2) c.fOnce.dropLast :: rowA encI 1 3 (.slice a3 c.fOften.length c3) c.fOften :: rowA encI 1 3 (.slice a4 c.fPast.length c4) c.fPast :: rowA encI 1 3 (.slice a5 c.fFormer.length c5) c.fFormer :: F) _) := ⟨(((((HS2.out).pick 4 rfl).pick 4 rfl).pick 4 rfl).pick 4 rfl).pick 4 rfl⟩
            refine wh_one 7 (by kernel_rfl) ?_
            replace HS2 : Bx (St w0 (boxA b 6 48 (.agg #[.int .i64 c.fRoom, .int .i64 c.fGoal, .slice a2 c.fOnce.dropLast.length c2, .slice a3 c.fOften.length c3, .slice a4 c.fPast.length c4, .slice a5 c.fFormer.length c5]) :: rowA encI 1 3 (.slice a4 c.fPast.length c4) c.fPast :: rowA encI 1 3 (.slice a2 c.fOnce.dropLast.length c2) c.fOnce.dropLast :: rowA encI 1 3 (.slice a3 c.fOften.length c3) c.fOften :: rowA encI 1 3 (.slice a5 c.fFormer.length c5) c.fFormer :: F) _) := ⟨((HS2.out).pick 3 rfl).pick 1 rfl⟩
            refine wo_call rfl rfl HF rfl (enter_of Try.func111 (by kernel_rfl) rfl) (args := #[.pointer (some ⟨b, 0 + 4, none⟩), .int .i64 (lastI c.fOnce)]) rfl (front_any w0 _ b (0 + 4) _ _ _ c.fPast (lastI c.fOnce) _ rfl (by first | omega | (simp; omega)) HS2.out) rfl rfl ?_
            rintro _ w26 ⟨rfl, ao9, cp10, hs1⟩
            refine ⟨_, rfl, ?_⟩; replace HS2 := Bx.mk hs1; clear hs1 HF; clear a; intro a HF
            replace HS2 : Bx (St w0 (boxA b 6 48 (.agg #[.int .i64 c.fRoom, .int .i64 c.fGoal, .slice a2 c.fOnce.dropLast.length c2, .slice a3 c.fOften.length c3, .slice ao9 (c.fPast.length + 1) cp10, .slice a5 c.fFormer.length c5]) :: rowA encI 1 3 (.slice ao9 (c.fPast.length + 1) cp10) (lastI c.fOnce :: c.fPast) :: rowA encI 1 3 (.slice a2 c.fOnce.dropLast.length c2) c.fOnce.dropLast :: rowA encI 1 3 (.slice a3 c.fOften.length c3) c.fOften :: rowA encI 1 3 (.slice a5 c.fFormer.length c5) c.fFormer :: F) _) := ⟨HS2.out⟩
            clear HS; have HS : Bx (St w0 (F) _) := ⟨(((((HS2.out.erase 4).erase 3).erase 2).erase 1).erase 0)⟩; refine ⟨HS.out, ?_⟩
            replace HS2 : Bx (St w0 (boxA b 6 48 (.agg #[.int .i64 c.fRoom, .int .i64 c.fGoal, .slice a2 c.fOnce.dropLast.length c2, .slice a3 c.fOften.length c3, .slice ao9 (c.fPast.length + 1) cp10, .slice a5 c.fFormer.length c5]) :: rowA encI 1 3 (.slice a2 c.fOnce.dropLast.length c2) c.fOnce.dropLast :: rowA encI 1 3 (.slice a3 c.fOften.length c3) c.fOften :: rowA encI 1 3 (.slice ao9 (c.fPast.length + 1) cp10) (lastI c.fOnce :: c.fPast) :: rowA encI 1 3 (.slice a5 c.fFormer.length c5) c.fFormer :: F) _) := ⟨(((((HS2.out).pick 4 rfl).pick 2 rfl).pick 4 rfl).pick 4 rfl).pick 4 rfl⟩
            refine wh_done (by kernel_rfl) ?_
            replace HS := HS2; clear HS2
            refine ex_then ?_
            refine wp_ret ?_
            refine ex_then_ret ?_
            refine bp_ret0 HF Try.results112  ?_
            have hw : c.wayC former = { c with fPast := lastI c.fOnce :: c.fPast, fOnce := c.fOnce.dropLast } := by unfold CacheD.wayC; rw [if_neg (by omega), if_pos ((wayC_cond c former).2 ⟨by omega, by first | exact .inl (by omega) | exact .inr (.inl ⟨by assumption, by omega⟩) | exact .inr (.inr (by omega))⟩)]
            rw [hw]; exact ⟨rfl, _, _, _, _, _, _, _, _, HS.out⟩
          · clear HF; have HF := HF1; clear HF1
            have cc7 := ne_of_beq_false cc7
            refine wc_false HF rfl ?_
            refine wp_skip ?_
            refine ex_then ?_
            refine wr_heldS (s := F) (by kernel_rfl) (St.drew ((((((HS.out.erase 4).erase 3).erase 2).erase 1).erase 0))) ?_
            have HS2 := Bx.mk HS.out.drew; replace HS := Bx.mk (show St w0 (F) _ from (((((HS.out.drew.erase 4).erase 3).erase 2).erase 1).erase 0))
            generalize World.drew _ = w27 at HS HS2 ⊢
            refine wh_y 0 rfl (by kernel_rfl) (by kernel_rfl) (by kernel_rfl) (fun _ _ _ h => h) rfl HF rfl rfl (fun _ HS => (yl_move rfl (HF.ev rfl))) HS.out ?_; clear HF; clear a; intro a HF
            refine wh_y 1 rfl (by kernel_rfl) (by kernel_rfl) (by kernel_rfl) (fun _ _ _ h => h) rfl HF rfl rfl (fun _ HS => (yl_nilCheck rfl (HF.ev rfl))) HS.out ?_; clear HF; clear a; intro a HF
            refine wh_y 2 rfl (by kernel_rfl) (by kernel_rfl) (by kernel_rfl) (fun _ _ _ h => h) rfl HF rfl rfl (fun _ HS => (yl_fieldAddr (j := 5) rfl (HF.ev rfl) (by kernel_rfl))) HS.out ?_; clear HF; clear a; intro a HF
            refine wh_y 3 rfl (by kernel_rfl) (by kernel_rfl) (by kernel_rfl) (fun _ _ _ h => h) rfl HF rfl rfl (fun _ HS => (yl_move rfl (HF.ev rfl))) HS.out ?_; clear HF; clear a; intro a HF
            refine wh_y 4 rfl (by kernel_rfl) (by kernel_rfl) (by kernel_rfl) (fun _ _ _ h => h) rfl HF rfl rfl (fun _ HS => (yl_nilCheck rfl (HF.ev rfl))) HS.out ?_; clear HF; clear a; intro a HF
            refine wh_y 5 rfl (by kernel_rfl) (by kernel_rfl) (by kernel_rfl) (fun _ _ _ h => h) rfl HF rfl rfl (fun _ HS => (yl_fieldAddr (j := 3) rfl (HF.ev rfl) (by kernel_rfl))) HS.out ?_; clear HF; clear a; intro a HF
            refine wh_one 6 (by kernel_rfl) ?_
            replace HS2 : Bx (St w0 (boxA b 6 48 (.agg #[.int .i64 c.fRoom, .int .i64 c.fGoal, .slice a2 c.fOnce.length c2, .slice a3 c.fOften.length c3, .slice a4 c.fPast.length c4, .slice a5 c.fFormer.length c5]) :: rowA encI 1 3 (.slice a3 c.fOften.length c3) c.fOften :: rowA encI 1 3 (.slice a2 c.fOnce.length c2) c.fOnce :: rowA encI 1 3 (.slice a4 c.fPast.length c4) c.fPast :: rowA encI 1 3 (.slice a5 c.fFormer.length c5) c.fFormer :: F) _) := ⟨((HS2.out).pick 2 rfl).pick 1 rfl⟩
            refine wo_call rfl rfl HF rfl (enter_of Try.func113 (by kernel_rfl) rfl) (args := #[.pointer (some ⟨b, 0 + 3, none⟩)]) rfl (last_any w0 _ b (0 + 3) _ _ _ c.fOften _ rfl (by omega) HS2.out (by omega)) rfl rfl ?_
            rintro _ w29 ⟨rfl, hs1⟩
            refine ⟨_, rfl, ?_⟩; replace HS2 := Bx.mk hs1; clear hs1 HF; clear a; intro a HF
            replace HS2 : Bx (St w0 (boxA b 6 48 (.agg #[.int .i64 c.fRoom, .int .i64 c.fGoal, .slice a2 c.fOnce.length c2, .slice a3 c.fOften.dropLast.length c3, .slice a4 c.fPast.length c4, .slice a5 c.fFormer.length c5]) :: rowA encI 1 3 (.slice a3 c.fOften.dropLast.length c3) c.fOften.dropLast :: rowA encI 1 3 (.slice a2 c.fOnce.length c2) c.fOnce :: rowA encI 1 3 (.slice a4 c.fPast.length c4) c.fPast :: rowA encI 1 3 (.slice a5 c.fFormer.length c5) c.fFormer :: F) _) := ⟨HS2.out⟩
            clear HS; have HS : Bx (St w0 (F) _) := ⟨(((((HS2.out.erase 4).erase 3).erase 2).erase 1).erase 0)⟩; refine ⟨HS.out, ?_⟩
            replace HS2 : Bx (St w0 (boxA b 6 48 (.agg #[.int .i64 c.fRoom, .int .i64 c.fGoal, .slice a2 c.fOnce.length c2, .slice a3 c.fOften.dropLast.length c3, .slice a4 c.fPast.length c4, .slice a5 c.fFormer.length c5]) :: rowA encI 1 3 (.slice a2 c.fOnce.length c2) c.fOnce :: rowA encI 1 3 (.slice a3 c.fOften.dropLast.length c3) c.fOften.dropLast :: rowA encI 1 3 (.slice a4 c.fPast.length c4) c.fPast :: rowA encI 1 3 (.slice a5 c.fFormer.length c5) c.fFormer :: F) _) := ⟨(((((HS2.out).pick 4 rfl).pick 4 rfl).pick 3 rfl).pick 4 rfl).pick 4 rfl⟩
            refine wh_one 7 (by kernel_rfl) ?_
            replace HS2 : Bx (St w0 (boxA b 6 48 (.agg #[.int .i64 c.fRoom, .int .i64 c.fGoal, .slice a2 c.fOnce.length c2, .slice a3 c.fOften.dropLast.length c3, .slice a4 c.fPast.length c4, .slice a5 c.fFormer.length c5]) :: rowA encI 1 3 (.slice a5 c.fFormer.length c5) c.fFormer :: rowA encI 1 3 (.slice a2 c.fOnce.length c2) c.fOnce :: rowA encI 1 3 (.slice a3 c.fOften.dropLast.length c3) c.fOften.dropLast :: rowA encI 1 3 (.slice a4 c.fPast.length c4) c.fPast :: F) _) := ⟨((HS2.out).pick 4 rfl).pick 1 rfl⟩
            refine wo_call rfl rfl HF rfl (enter_of Try.func111 (by kernel_rfl) rfl) (args := #[.pointer (some ⟨b, 0 + 5, none⟩), .int .i64 (lastI c.fOften)]) rfl (front_any w0 _ b (0 + 5) _ _ _ c.fFormer (lastI c.fOften) _ rfl (by first | omega | (simp; omega)) HS2.out) rfl rfl ?_
            rintro _ w31 ⟨rfl, ao11, cp12, hs1⟩
            refine ⟨_, rfl, ?_⟩; replace HS2 := Bx.mk hs1; clear hs1 HF; clear a; intro a HF
            replace HS2 : Bx (St w0 (boxA b 6 48 (.agg #[.int .i64 c.fRoom, .int .i64 c.fGoal, .slice a2 c.fOnce.length c2, .slice a3 c.fOften.dropLast.length c3, .slice a4 c.fPast.length c4, .slice ao11 (c.fFormer.length + 1) cp12]) :: rowA encI 1 3 (.slice ao11 (c.fFormer.length + 1) cp12) (lastI c.fOften :: c.fFormer) :: rowA encI 1 3 (.slice a2 c.fOnce.length c2) c.fOnce :: rowA encI 1 3 (.slice a3 c.fOften.dropLast.length c3) c.fOften.dropLast :: rowA encI 1 3 (.slice a4 c.fPast.length c4) c.fPast :: F) _) := ⟨HS2.out⟩
            clear HS; have HS : Bx (St w0 (F) _) := ⟨(((((HS2.out.erase 4).erase 3).erase 2).erase 1).erase 0)⟩; refine ⟨HS.out, ?_⟩
            replace HS2 : Bx (St w0 (boxA b 6 48 (.agg #[.int .i64 c.fRoom, .int .i64 c.fGoal, .slice a2 c.fOnce.length c2, .slice a3 c.fOften.dropLast.length c3, .slice a4 c.fPast.length c4, .slice ao11 (c.fFormer.length + 1) cp12]) :: rowA encI 1 3 (.slice a2 c.fOnce.length c2) c.fOnce :: rowA encI 1 3 (.slice a3 c.fOften.dropLast.length c3) c.fOften.dropLast :: rowA encI 1 3 (.slice a4 c.fPast.length c4) c.fPast :: rowA encI 1 3 (.slice ao11 (c.fFormer.length + 1) cp12) (lastI c.fOften :: c.fFormer) :: F) _) := ⟨(((((HS2.out).pick 1 rfl).pick 4 rfl).pick 4 rfl).pick 4 rfl).pick 4 rfl⟩
            refine wh_done (by kernel_rfl) ?_
            replace HS := HS2; clear HS2
            refine bp_end0 HF Try.results112 ?_
            have hw : c.wayC former = { c with fFormer := lastI c.fOften :: c.fFormer, fOften := c.fOften.dropLast } := by unfold CacheD.wayC; rw [if_neg (by omega), if_neg (fun h => by obtain ⟨p, q | ⟨q1, q2⟩ | q⟩ := (wayC_cond c former).1 h <;> first | omega | simp_all)]
            rw [hw]; exact ⟨rfl, _, _, _, _, _, _, _, _, HS.out⟩
    · clear HF; have HF := HF1; clear HF1
      have cc2 := of_decide_eq_false cc2
      refine wl_skip HF rfl rfl rfl rfl rfl rfl ?_; clear HF; clear a; intro a HF
      refine wl_skip HF rfl rfl rfl rfl rfl rfl ?_; clear HF; clear a; intro a HF
      refine wl_skip HF rfl rfl rfl rfl rfl rfl ?_; clear HF; clear a; intro a HF
      refine wl_skip HF rfl rfl rfl rfl rfl rfl ?_; clear HF; clear a; intro a HF
      refine wl_skip HF rfl rfl rfl rfl rfl rfl ?_; clear HF; clear a; intro a HF
      refine wl_skip HF rfl rfl rfl rfl rfl rfl ?_; clear HF; clear a; intro a HF
      refine wl_skip HF rfl rfl rfl rfl rfl rfl ?_; clear HF; clear a; intro a HF
      refine wl_skipU HF rfl rfl rfl rfl rfl ?_; clear HF; clear a; intro a HF
      refine wl_skipU HF rfl rfl rfl rfl rfl ?_; clear HF; clear a; intro a HF
      refine wl_skipU HF rfl rfl rfl rfl rfl ?_; clear HF; clear a; intro a HF
      refine wl_skipU HF rfl rfl rfl rfl rfl ?_; clear HF; clear a; intro a HF
      refine wl_skipU HF rfl rfl rfl rfl rfl ?_; clear HF; clear a; intro a HF
      refine wl_skipU HF rfl rfl rfl rfl rfl ?_; clear HF; clear a; intro a HF
      refine wl_skipU HF rfl rfl rfl rfl rfl ?_; clear HF; clear a; intro a HF
      refine wl_skipU HF rfl rfl rfl rfl rfl ?_; clear HF; clear a; intro a HF
      refine wl_skipU HF rfl rfl rfl rfl rfl ?_; clear HF; clear a; intro a HF
      refine wl_skip HF rfl rfl rfl rfl rfl rfl ?_; clear HF; clear a; intro a HF
      refine wl_skip HF rfl rfl rfl rfl rfl rfl ?_; clear HF; clear a; intro a HF
      refine wl_skipU HF rfl rfl rfl rfl rfl ?_; clear HF; clear a; intro a HF
      refine wl_skipU HF rfl rfl rfl rfl rfl ?_; clear HF; clear a; intro a HF
      refine wl_skipU HF rfl rfl rfl rfl rfl ?_; clear HF; clear a; intro a HF
      refine wl_skipU HF rfl rfl rfl rfl rfl ?_; clear HF; clear a; intro a HF
      refine wl_skipU HF rfl rfl rfl rfl rfl ?_; clear HF; clear a; intro a HF
      refine wl_skipU HF rfl rfl rfl rfl rfl ?_; clear HF; clear a; intro a HF
      refine wl_skip HF rfl rfl rfl rfl rfl rfl ?_; clear HF; clear a; intro a HF
      refine wl_y rfl HF rfl rfl (yl_pick_f rfl (HF.ev rfl) (HF.ev rfl)) ?_; clear HF; clear a; intro a HF
      refine wpList_nil ?_
      refine ex_then ?_
      refine wc_false HF rfl ?_
      refine wp_skip ?_
      refine ex_then ?_
      refine wr_heldS (s := F) (by kernel_rfl) (St.drew ((((((HS.out.erase 4).erase 3).erase 2).erase 1).erase 0))) ?_
      have HS2 := Bx.mk HS.out.drew; replace HS := Bx.mk (show St w0 (F) _ from (((((HS.out.drew.erase 4).erase 3).erase 2).erase 1).erase 0))
      generalize World.drew _ = w32 at HS HS2 ⊢
      refine wh_y 0 rfl (by kernel_rfl) (by kernel_rfl) (by kernel_rfl) (fun _ _ _ h => h) rfl HF rfl rfl (fun _ HS => (yl_move rfl (HF.ev rfl))) HS.out ?_; clear HF; clear a; intro a HF
      refine wh_y 1 rfl (by kernel_rfl) (by kernel_rfl) (by kernel_rfl) (fun _ _ _ h => h) rfl HF rfl rfl (fun _ HS => (yl_nilCheck rfl (HF.ev rfl))) HS.out ?_; clear HF; clear a; intro a HF
      refine wh_y 2 rfl (by kernel_rfl) (by kernel_rfl) (by kernel_rfl) (fun _ _ _ h => h) rfl HF rfl rfl (fun _ HS => (yl_fieldAddr (j := 5) rfl (HF.ev rfl) (by kernel_rfl))) HS.out ?_; clear HF; clear a; intro a HF
      refine wh_y 3 rfl (by kernel_rfl) (by kernel_rfl) (by kernel_rfl) (fun _ _ _ h => h) rfl HF rfl rfl (fun _ HS => (yl_move rfl (HF.ev rfl))) HS.out ?_; clear HF; clear a; intro a HF
      refine wh_y 4 rfl (by kernel_rfl) (by kernel_rfl) (by kernel_rfl) (fun _ _ _ h => h) rfl HF rfl rfl (fun _ HS => (yl_nilCheck rfl (HF.ev rfl))) HS.out ?_; clear HF; clear a; intro a HF
      refine wh_y 5 rfl (by kernel_rfl) (by kernel_rfl) (by kernel_rfl) (fun _ _ _ h => h) rfl HF rfl rfl (fun _ HS => (yl_fieldAddr (j := 3) rfl (HF.ev rfl) (by kernel_rfl))) HS.out ?_; clear HF; clear a; intro a HF
      refine wh_one 6 (by kernel_rfl) ?_
      replace HS2 : Bx (St w0 (boxA b 6 48 (.agg #[.int .i64 c.fRoom, .int .i64 c.fGoal, .slice a2 c.fOnce.length c2, .slice a3 c.fOften.length c3, .slice a4 c.fPast.length c4, .slice a5 c.fFormer.length c5]) :: rowA encI 1 3 (.slice a3 c.fOften.length c3) c.fOften :: rowA encI 1 3 (.slice a2 c.fOnce.length c2) c.fOnce :: rowA encI 1 3 (.slice a4 c.fPast.length c4) c.fPast :: rowA encI 1 3 (.slice a5 c.fFormer.length c5) c.fFormer :: F) _) := ⟨((HS2.out).pick 2 rfl).pick 1 rfl⟩
      refine wo_call rfl rfl HF rfl (enter_of Try.func113 (by kernel_rfl) rfl) (args := #[.pointer (some ⟨b, 0 + 3, none⟩)]) rfl (last_any w0 _ b (0 + 3) _ _ _ c.fOften _ rfl (by omega) HS2.out (by omega)) rfl rfl ?_
      rintro _ w34 ⟨rfl, hs1⟩
      refine ⟨_, rfl, ?_⟩; replace HS2 := Bx.mk hs1; clear hs1 HF; clear a; intro a HF
      replace HS2 : Bx (St w0 (boxA b 6 48 (.agg #[.int .i64 c.fRoom, .int .i64 c.fGoal, .slice a2 c.fOnce.length c2, .slice a3 c.fOften.dropLast.length c3, .slice a4 c.fPast.length c4, .slice a5 c.fFormer.length c5]) :: rowA encI 1 3 (.slice a3 c.fOften.dropLast.length c3) c.fOften.dropLast :: rowA encI 1 3 (.slice a2 c.fOnce.length c2) c.fOnce :: rowA encI 1 3 (.slice a4 c.fPast.length c4) c.fPast :: rowA encI 1 3 (.slice a5 c.fFormer.length c5) c.fFormer :: F) _) := ⟨HS2.out⟩
      clear HS; have HS : Bx (St w0 (F) _) := ⟨(((((HS2.out.erase 4).erase 3).erase 2).erase 1).erase 0)⟩; refine ⟨HS.out, ?_⟩
      replace HS2 : Bx (St w0 (boxA b 6 48 (.agg #[.int .i64 c.fRoom, .int .i64 c.fGoal, .slice a2 c.fOnce.length c2, .slice a3 c.fOften.dropLast.length c3, .slice a4 c.fPast.length c4, .slice a5 c.fFormer.length c5]) :: rowA encI 1 3 (.slice a2 c.fOnce.length c2) c.fOnce :: rowA encI 1 3 (.slice a3 c.fOften.dropLast.length c3) c.fOften.dropLast :: rowA encI 1 3 (.slice a4 c.fPast.length c4) c.fPast :: rowA encI 1 3 (.slice a5 c.fFormer.length c5) c.fFormer :: F) _) := ⟨(((((HS2.out).pick 4 rfl).pick 4 rfl).pick 3 rfl).pick 4 rfl).pick 4 rfl⟩
      refine wh_one 7 (by kernel_rfl) ?_
      replace HS2 : Bx (St w0 (boxA b 6 48 (.agg #[.int .i64 c.fRoom, .int .i64 c.fGoal, .slice a2 c.fOnce.length c2, .slice a3 c.fOften.dropLast.length c3, .slice a4 c.fPast.length c4, .slice a5 c.fFormer.length c5]) :: rowA encI 1 3 (.slice a5 c.fFormer.length c5) c.fFormer :: rowA encI 1 3 (.slice a2 c.fOnce.length c2) c.fOnce :: rowA encI 1 3 (.slice a3 c.fOften.dropLast.length c3) c.fOften.dropLast :: rowA encI 1 3 (.slice a4 c.fPast.length c4) c.fPast :: F) _) := ⟨((HS2.out).pick 4 rfl).pick 1 rfl⟩
      refine wo_call rfl rfl HF rfl (enter_of Try.func111 (by kernel_rfl) rfl) (args := #[.pointer (some ⟨b, 0 + 5, none⟩), .int .i64 (lastI c.fOften)]) rfl (front_any w0 _ b (0 + 5) _ _ _ c.fFormer (lastI c.fOften) _ rfl (by first | omega | (simp; omega)) HS2.out) rfl rfl ?_
      rintro _ w36 ⟨rfl, ao13, cp14, hs1⟩
      refine ⟨_, rfl, ?_⟩; replace HS2 := Bx.mk hs1; clear hs1 HF; clear a; intro a HF
      replace HS2 : Bx (St w0 (boxA b 6 48 (.agg #[.int .i64 c.fRoom, .int .i64 c.fGoal, .slice a2 c.fOnce.length c2, .slice a3 c.fOften.dropLast.length c3, .slice a4 c.fPast.length c4, .slice ao13 (c.fFormer.length + 1) cp14]) :: rowA encI 1 3 (.slice ao13 (c.fFormer.length + 1) cp14) (lastI c.fOften :: c.fFormer) :: rowA encI 1 3 (.slice a2 c.fOnce.length c2) c.fOnce :: rowA encI 1 3 (.slice a3 c.fOften.dropLast.length c3) c.fOften.dropLast :: rowA encI 1 3 (.slice a4 c.fPast.length c4) c.fPast :: F) _) := ⟨HS2.out⟩
      clear HS; have HS : Bx (St w0 (F) _) := ⟨(((((HS2.out.erase 4).erase 3).erase 2).erase 1).erase 0)⟩; refine ⟨HS.out, ?_⟩
      replace HS2 : Bx (St w0 (boxA b 6 48 (.agg #[.int .i64 c.fRoom, .int .i64 c.fGoal, .slice a2 c.fOnce.length c2, .slice a3 c.fOften.dropLast.length c3, .slice a4 c.fPast.length c4, .slice ao13 (c.fFormer.length + 1) cp14]) :: rowA encI 1 3 (.slice a2 c.fOnce.length c2) c.fOnce :: rowA encI 1 3 (.slice a3 c.fOften.dropLast.length c3) c.fOften.dropLast :: rowA encI 1 3 (.slice a4 c.fPast.length c4) c.fPast :: rowA encI 1 3 (.slice ao13 (c.fFormer.length + 1) cp14) (lastI c.fOften :: c.fFormer) :: F) _) := ⟨(((((HS2.out).pick 1 rfl).pick 4 rfl).pick 4 rfl).pick 4 rfl).pick 4 rfl⟩
      refine wh_done (by kernel_rfl) ?_
      replace HS := HS2; clear HS2
      refine bp_end0 HF Try.results112 ?_
      have hw : c.wayC former = { c with fFormer := lastI c.fOften :: c.fFormer, fOften := c.fOften.dropLast } := by unfold CacheD.wayC; rw [if_neg (by omega), if_neg (fun h => by obtain ⟨p, q | ⟨q1, q2⟩ | q⟩ := (wayC_cond c former).1 h <;> first | omega | simp_all)]
      rw [hw]; exact ⟨rfl, _, _, _, _, _, _, _, _, HS.out⟩

set_option maxHeartbeats 4000000 in
set_option maxRecDepth 100000 in
theorem ask_any (w0 w : World) (b : Nat) (c : CacheD) (r : Int) (F : List Asr) (hI : c.Inv) (hS : CacheS w0 b c F w) : Calls Try.prog 64 #[.pointer (some ⟨b, 0, none⟩), .int .i64 r] w fun e w' => e = .returned (.bool (c.askI r).2) ∧ CacheS w0 b (c.askI r).1 F w' := by
  obtain ⟨a2, c2, a3, c3, a4, c4, a5, c5, hS⟩ := hS
  have HS := Bx.mk hS
  clear hS
  have hb := hI.bounds
  have g1 := hI.hot; have g2 := hI.one; have g3 := hI.all
  unfold CacheD.total at g3
  refine wc_enter Try.func64 rfl Try.ntmps64 [(0, .pointer (some ⟨b, 0, none⟩)), (1, .int .i64 r)] ⟨rfl, rfl, trivial⟩ rfl ?_; intro a HF
  refine wp_seq ?_
  refine wp_region_lit ?_
  refine wl_y rfl HF rfl rfl (yl_assign rfl (HF.ev rfl)) ?_; clear HF; clear a; intro a HF
  refine wpList_nil ?_
  refine ex_then ?_
  refine wp_seq ?_
  refine wr_quiet (by kernel_rfl) (by kernel_rfl) HS.out ?_
  refine wq_y rfl HF rfl rfl (fun _ HS => (yl_move rfl (HF.ev rfl))) ?_; clear HF; clear a; intro a HF
  refine wq_y rfl HF rfl rfl (fun _ HS => (yl_nilCheck rfl (HF.ev rfl))) ?_; clear HF; clear a; intro a HF
  refine wq_y rfl HF rfl rfl (fun _ HS => (yl_fieldAddr (j := 4) rfl (HF.ev rfl) (by kernel_rfl))) ?_; clear HF; clear a; intro a HF
  refine wq_y rfl HF rfl rfl (fun _ HS => (yl_load (v := .slice a4 c.fPast.length c4) rfl (HF.ev rfl) (((HS.box 0 rfl).cell 4).trans rfl) (by kernel_rfl))) ?_; clear HF; clear a; intro a HF
  refine wq_y rfl HF rfl rfl (fun _ HS => (yl_lenL (e := 3) (size := 1) rfl (HF.ev rfl) (by kernel_rfl))) ?_; clear HF; clear a; intro a HF
  refine wq_y rfl HF rfl rfl (fun _ HS => (yl_move rfl (HF.ev rfl))) ?_; clear HF; clear a; intro a HF
  refine wq_y rfl HF rfl rfl (fun _ HS => (yl_nilCheck rfl (HF.ev rfl))) ?_; clear HF; clear a; intro a HF
  refine wq_y rfl HF rfl rfl (fun _ HS => (yl_fieldAddr (j := 5) rfl (HF.ev rfl) (by kernel_rfl))) ?_; clear HF; clear a; intro a HF
  refine wq_y rfl HF rfl rfl (fun _ HS => (yl_load (v := .slice a5 c.fFormer.length c5) rfl (HF.ev rfl) (((HS.box 0 rfl).cell 5).trans rfl) (by kernel_rfl))) ?_; clear HF; clear a; intro a HF
  refine wq_y rfl HF rfl rfl (fun _ HS => (yl_lenL (e := 3) (size := 1) rfl (HF.ev rfl) (by kernel_rfl))) ?_; clear HF; clear a; intro a HF
  refine wq_y rfl HF rfl rfl (fun _ HS => (yl_assign rfl (HF.ev rfl))) ?_; clear HF; clear a; intro a HF
  refine wq_y rfl HF rfl rfl (fun _ HS => (yl_assign rfl (HF.ev rfl))) ?_; clear HF; clear a; intro a HF
  refine wpQuiet_nil ?_; intro w1 HS; replace HS := Bx.mk HS
  refine ex_then ?_
  refine wp_seq ?_
  refine wp_block ?_
  refine wp_seq ?_
  refine wp_region_lit ?_
  refine wl_y rfl HF rfl rfl (yl_move rfl (HF.ev rfl)) ?_; clear HF; clear a; intro a HF
  refine wl_y rfl HF rfl rfl (yl_nilCheck rfl (HF.ev rfl)) ?_; clear HF; clear a; intro a HF
  refine wl_y rfl HF rfl rfl (yl_fieldAddr (j := 2) rfl (HF.ev rfl) (by kernel_rfl)) ?_; clear HF; clear a; intro a HF
  refine wl_y rfl HF rfl rfl (yl_move rfl (HF.ev rfl)) ?_; clear HF; clear a; intro a HF
  replace HS : Bx (St w0 (boxA b 6 48 (.agg #[.int .i64 c.fRoom, .int .i64 c.fGoal, .slice a2 c.fOnce.length c2, .slice a3 c.fOften.length c3, .slice a4 c.fPast.length c4, .slice a5 c.fFormer.length c5]) :: rowA encI 1 3 (.slice a2 c.fOnce.length c2) c.fOnce :: rowA encI 1 3 (.slice a3 c.fOften.length c3) c.fOften :: rowA encI 1 3 (.slice a4 c.fPast.length c4) c.fPast :: rowA encI 1 3 (.slice a5 c.fFormer.length c5) c.fFormer :: F) _) := ⟨((HS.out).pick 1 rfl).pick 1 rfl⟩
  refine wl_call rfl HF rfl (enter_of Try.func110 (by kernel_rfl) rfl) (args := #[.pointer (some ⟨b, 0 + 2, none⟩), .int .i64 r]) rfl (without_any w0 _ b (0 + 2) _ _ _ c.fOnce r _ rfl (by omega) HS.out) rfl rfl ?_
  rintro _ w2 (⟨hin2, rfl, hs1⟩ | ⟨hin2, rfl, hs1⟩)
  · skip
    refine ⟨_, rfl, ?_⟩; replace HS := Bx.mk hs1; clear hs1 HF; clear a; intro a HF
    replace HS : Bx (St w0 (boxA b 6 48 (.agg #[.int .i64 c.fRoom, .int .i64 c.fGoal, .slice a2 c.fOnce.length c2, .slice a3 c.fOften.length c3, .slice a4 c.fPast.length c4, .slice a5 c.fFormer.length c5]) :: rowA encI 1 3 (.slice a2 c.fOnce.length c2) c.fOnce :: rowA encI 1 3 (.slice a3 c.fOften.length c3) c.fOften :: rowA encI 1 3 (.slice a4 c.fPast.length c4) c.fPast :: rowA encI 1 3 (.slice a5 c.fFormer.length c5) c.fFormer :: F) _) := ⟨HS.out⟩
    replace HS : Bx (St w0 (boxA b 6 48 (.agg #[.int .i64 c.fRoom, .int .i64 c.fGoal, .slice a2 c.fOnce.length c2, .slice a3 c.fOften.length c3, .slice a4 c.fPast.length c4, .slice a5 c.fFormer.length c5]) :: rowA encI 1 3 (.slice a2 c.fOnce.length c2) c.fOnce :: rowA encI 1 3 (.slice a3 c.fOften.length c3) c.fOften :: rowA encI 1 3 (.slice a4 c.fPast.length c4) c.fPast :: rowA encI 1 3 (.slice a5 c.fFormer.length c5) c.fFormer :: F) _) := ⟨(((((HS.out).pick 4 rfl).pick 4 rfl).pick 4 rfl).pick 4 rfl).pick 4 rfl⟩
    refine wl_y rfl HF rfl rfl (yl_move rfl (HF.ev rfl)) ?_; clear HF; clear a; intro a HF
    refine wl_yg HF rfl rfl rfl rfl rfl (yl_move rfl (HF.ev rfl)) ?_; clear HF; clear a; intro a HF
    refine wl_yg HF rfl rfl rfl rfl rfl (yl_nilCheck rfl (HF.ev rfl)) ?_; clear HF; clear a; intro a HF
    refine wl_yg HF rfl rfl rfl rfl rfl (yl_fieldAddr (j := 3) rfl (HF.ev rfl) (by kernel_rfl)) ?_; clear HF; clear a; intro a HF
    refine wl_yg HF rfl rfl rfl rfl rfl (yl_move rfl (HF.ev rfl)) ?_; clear HF; clear a; intro a HF
    replace HS : Bx (St w0 (boxA b 6 48 (.agg #[.int .i64 c.fRoom, .int .i64 c.fGoal, .slice a2 c.fOnce.length c2, .slice a3 c.fOften.length c3, .slice a4 c.fPast.length c4, .slice a5 c.fFormer.length c5]) :: rowA encI 1 3 (.slice a3 c.fOften.length c3) c.fOften :: rowA encI 1 3 (.slice a2 c.fOnce.length c2) c.fOnce :: rowA encI 1 3 (.slice a4 c.fPast.length c4) c.fPast :: rowA encI 1 3 (.slice a5 c.fFormer.length c5) c.fFormer :: F) _) := ⟨((HS.out).pick 2 rfl).pick 1 rfl⟩
    refine wl_callg HF rfl rfl rfl rfl (enter_of Try.func110 (by kernel_rfl) rfl) (args := #[.pointer (some ⟨b, 0 + 3, none⟩), .int .i64 r]) rfl (without_any w0 _ b (0 + 3) _ _ _ c.fOften r _ rfl (by omega) HS.out) rfl rfl ?_
    rintro _ w3 (⟨hin3, rfl, hs1⟩ | ⟨hin3, rfl, hs1⟩)
    · skip
      refine ⟨_, rfl, ?_⟩; replace HS := Bx.mk hs1; clear hs1 HF; clear a; intro a HF
      replace HS : Bx (St w0 (boxA b 6 48 (.agg #[.int .i64 c.fRoom, .int .i64 c.fGoal, .slice a2 c.fOnce.length c2, .slice a3 c.fOften.length c3, .slice a4 c.fPast.length c4, .slice a5 c.fFormer.length c5]) :: rowA encI 1 3 (.slice a3 c.fOften.length c3) c.fOften :: rowA encI 1 3 (.slice a2 c.fOnce.length c2) c.fOnce :: rowA encI 1 3 (.slice a4 c.fPast.length c4) c.fPast :: rowA encI 1 3 (.slice a5 c.fFormer.length c5) c.fFormer :: F) _) := ⟨HS.out⟩
      replace HS : Bx (St w0 (boxA b 6 48 (.agg #[.int .i64 c.fRoom, .int .i64 c.fGoal, .slice a2 c.fOnce.length c2, .slice a3 c.fOften.length c3, .slice a4 c.fPast.length c4, .slice a5 c.fFormer.length c5]) :: rowA encI 1 3 (.slice a2 c.fOnce.length c2) c.fOnce :: rowA encI 1 3 (.slice a3 c.fOften.length c3) c.fOften :: rowA encI 1 3 (.slice a4 c.fPast.length c4) c.fPast :: rowA encI 1 3 (.slice a5 c.fFormer.length c5) c.fFormer :: F) _) := ⟨(((((HS.out).pick 4 rfl).pick 4 rfl).pick 3 rfl).pick 4 rfl).pick 4 rfl⟩
      refine wl_y rfl HF rfl rfl (yl_pick_f rfl (HF.ev rfl) (HF.ev rfl)) ?_; clear HF; clear a; intro a HF
      refine wl_y rfl HF rfl rfl (yl_assign rfl (HF.ev rfl)) ?_; clear HF; clear a; intro a HF
      refine wpList_nil ?_
      refine ex_then ?_
      refine wc_false HF rfl ?_
      refine wp_seq ?_
      refine wp_region_lit ?_
      refine wl_y rfl HF rfl rfl (yl_move rfl (HF.ev rfl)) ?_; clear HF; clear a; intro a HF
      refine wl_y rfl HF rfl rfl (yl_nilCheck rfl (HF.ev rfl)) ?_; clear HF; clear a; intro a HF
      refine wl_y rfl HF rfl rfl (yl_fieldAddr (j := 4) rfl (HF.ev rfl) (by kernel_rfl)) ?_; clear HF; clear a; intro a HF
      refine wl_y rfl HF rfl rfl (yl_move rfl (HF.ev rfl)) ?_; clear HF; clear a; intro a HF
      replace HS : Bx (St w0 (boxA b 6 48 (.agg #[.int .i64 c.fRoom, .int .i64 c.fGoal, .slice a2 c.fOnce.length c2, .slice a3 c.fOften.length c3, .slice a4 c.fPast.length c4, .slice a5 c.fFormer.length c5]) :: rowA encI 1 3 (.slice a4 c.fPast.length c4) c.fPast :: rowA encI 1 3 (.slice a2 c.fOnce.length c2) c.fOnce :: rowA encI 1 3 (.slice a3 c.fOften.length c3) c.fOften :: rowA encI 1 3 (.slice a5 c.fFormer.length c5) c.fFormer :: F) _) := ⟨((HS.out).pick 3 rfl).pick 1 rfl⟩
      refine wl_call rfl HF rfl (enter_of Try.func110 (by kernel_rfl) rfl) (args := #[.pointer (some ⟨b, 0 + 4, none⟩), .int .i64 r]) rfl (without_any w0 _ b (0 + 4) _ _ _ c.fPast r _ rfl (by omega) HS.out) rfl rfl ?_
      rintro _ w4 (⟨hin4, rfl, hs1⟩ | ⟨hin4, rfl, hs1⟩)
      · skip
        refine ⟨_, rfl, ?_⟩; replace HS := Bx.mk hs1; clear hs1 HF; clear a; intro a HF
        replace HS : Bx (St w0 (boxA b 6 48 (.agg #[.int .i64 c.fRoom, .int .i64 c.fGoal, .slice a2 c.fOnce.length c2, .slice a3 c.fOften.length c3, .slice a4 c.fPast.length c4, .slice a5 c.fFormer.length c5]) :: rowA encI 1 3 (.slice a4 c.fPast.length c4) c.fPast :: rowA encI 1 3 (.slice a2 c.fOnce.length c2) c.fOnce :: rowA encI 1 3 (.slice a3 c.fOften.length c3) c.fOften :: rowA encI 1 3 (.slice a5 c.fFormer.length c5) c.fFormer :: F) _) := ⟨HS.out⟩
        replace HS : Bx (St w0 (boxA b 6 48 (.agg #[.int .i64 c.fRoom, .int .i64 c.fGoal, .slice a2 c.fOnce.length c2, .slice a3 c.fOften.length c3, .slice a4 c.fPast.length c4, .slice a5 c.fFormer.length c5]) :: rowA encI 1 3 (.slice a2 c.fOnce.length c2) c.fOnce :: rowA encI 1 3 (.slice a3 c.fOften.length c3) c.fOften :: rowA encI 1 3 (.slice a4 c.fPast.length c4) c.fPast :: rowA encI 1 3 (.slice a5 c.fFormer.length c5) c.fFormer :: F) _) := ⟨(((((HS.out).pick 4 rfl).pick 2 rfl).pick 4 rfl).pick 4 rfl).pick 4 rfl⟩
        refine wl_y rfl HF rfl rfl (yl_assign rfl (HF.ev rfl)) ?_; clear HF; clear a; intro a HF
        refine wpList_nil ?_
        refine ex_then ?_
        refine wc_false HF rfl ?_
        refine wp_seq ?_
        refine wp_region_lit ?_
        refine wl_y rfl HF rfl rfl (yl_move rfl (HF.ev rfl)) ?_; clear HF; clear a; intro a HF
        refine wl_y rfl HF rfl rfl (yl_nilCheck rfl (HF.ev rfl)) ?_; clear HF; clear a; intro a HF
        refine wl_y rfl HF rfl rfl (yl_fieldAddr (j := 5) rfl (HF.ev rfl) (by kernel_rfl)) ?_; clear HF; clear a; intro a HF
        refine wl_y rfl HF rfl rfl (yl_move rfl (HF.ev rfl)) ?_; clear HF; clear a; intro a HF
        replace HS : Bx (St w0 (boxA b 6 48 (.agg #[.int .i64 c.fRoom, .int .i64 c.fGoal, .slice a2 c.fOnce.length c2, .slice a3 c.fOften.length c3, .slice a4 c.fPast.length c4, .slice a5 c.fFormer.length c5]) :: rowA encI 1 3 (.slice a5 c.fFormer.length c5) c.fFormer :: rowA encI 1 3 (.slice a2 c.fOnce.length c2) c.fOnce :: rowA encI 1 3 (.slice a3 c.fOften.length c3) c.fOften :: rowA encI 1 3 (.slice a4 c.fPast.length c4) c.fPast :: F) _) := ⟨((HS.out).pick 4 rfl).pick 1 rfl⟩
        refine wl_call rfl HF rfl (enter_of Try.func110 (by kernel_rfl) rfl) (args := #[.pointer (some ⟨b, 0 + 5, none⟩), .int .i64 r]) rfl (without_any w0 _ b (0 + 5) _ _ _ c.fFormer r _ rfl (by omega) HS.out) rfl rfl ?_
        rintro _ w5 (⟨hin5, rfl, hs1⟩ | ⟨hin5, rfl, hs1⟩)
        · skip
          refine ⟨_, rfl, ?_⟩; replace HS := Bx.mk hs1; clear hs1 HF; clear a; intro a HF
          replace HS : Bx (St w0 (boxA b 6 48 (.agg #[.int .i64 c.fRoom, .int .i64 c.fGoal, .slice a2 c.fOnce.length c2, .slice a3 c.fOften.length c3, .slice a4 c.fPast.length c4, .slice a5 c.fFormer.length c5]) :: rowA encI 1 3 (.slice a5 c.fFormer.length c5) c.fFormer :: rowA encI 1 3 (.slice a2 c.fOnce.length c2) c.fOnce :: rowA encI 1 3 (.slice a3 c.fOften.length c3) c.fOften :: rowA encI 1 3 (.slice a4 c.fPast.length c4) c.fPast :: F) _) := ⟨HS.out⟩
          replace HS : Bx (St w0 (boxA b 6 48 (.agg #[.int .i64 c.fRoom, .int .i64 c.fGoal, .slice a2 c.fOnce.length c2, .slice a3 c.fOften.length c3, .slice a4 c.fPast.length c4, .slice a5 c.fFormer.length c5]) :: rowA encI 1 3 (.slice a2 c.fOnce.length c2) c.fOnce :: rowA encI 1 3 (.slice a3 c.fOften.length c3) c.fOften :: rowA encI 1 3 (.slice a4 c.fPast.length c4) c.fPast :: rowA encI 1 3 (.slice a5 c.fFormer.length c5) c.fFormer :: F) _) := ⟨(((((HS.out).pick 1 rfl).pick 4 rfl).pick 4 rfl).pick 4 rfl).pick 4 rfl⟩
          refine wl_y rfl HF rfl rfl (yl_assign rfl (HF.ev rfl)) ?_; clear HF; clear a; intro a HF
          refine wpList_nil ?_
          refine ex_then ?_
          refine wc_false HF rfl ?_
          refine wp_skip ?_
          refine ex_block ?_
          refine ex_then ?_
          refine wp_seq ?_
          refine wp_block ?_
          refine wp_seq ?_
          refine wr_quiet (by kernel_rfl) (by kernel_rfl) HS.out ?_
          refine wq_y rfl HF rfl rfl (fun _ HS => (yl_move rfl (HF.ev rfl))) ?_; clear HF; clear a; intro a HF
          refine wq_y rfl HF rfl rfl (fun _ HS => (yl_nilCheck rfl (HF.ev rfl))) ?_; clear HF; clear a; intro a HF
          refine wq_y rfl HF rfl rfl (fun _ HS => (yl_fieldAddr (j := 2) rfl (HF.ev rfl) (by kernel_rfl))) ?_; clear HF; clear a; intro a HF
          refine wq_y rfl HF rfl rfl (fun _ HS => (yl_load (v := .slice a2 c.fOnce.length c2) rfl (HF.ev rfl) (((HS.box 0 rfl).cell 2).trans rfl) (by kernel_rfl))) ?_; clear HF; clear a; intro a HF
          refine wq_y rfl HF rfl rfl (fun _ HS => (yl_lenL (e := 3) (size := 1) rfl (HF.ev rfl) (by kernel_rfl))) ?_; clear HF; clear a; intro a HF
          refine wq_y rfl HF rfl rfl (fun _ HS => (yl_move rfl (HF.ev rfl))) ?_; clear HF; clear a; intro a HF
          refine wq_y rfl HF rfl rfl (fun _ HS => (yl_addI rfl (HF.ev rfl) (HF.ev rfl) (i64w (by omega)))) ?_; clear HF; clear a; intro a HF
          refine wq_y rfl HF rfl rfl (fun _ HS => (yl_move rfl (HF.ev rfl))) ?_; clear HF; clear a; intro a HF
          refine wq_y rfl HF rfl rfl (fun _ HS => (yl_nilCheck rfl (HF.ev rfl))) ?_; clear HF; clear a; intro a HF
          refine wq_y rfl HF rfl rfl (fun _ HS => (yl_fieldAddr (j := 0) rfl (HF.ev rfl) (by kernel_rfl))) ?_; clear HF; clear a; intro a HF
          refine wq_y rfl HF rfl rfl (fun _ HS => (yl_load (v := .int .i64 c.fRoom) rfl (HF.ev rfl) (((HS.box 0 rfl).cell 0).trans rfl) (by kernel_rfl))) ?_; clear HF; clear a; intro a HF
          refine wq_y rfl HF rfl rfl (fun _ HS => (yl_lssI rfl (HF.ev rfl) (HF.ev rfl))) ?_; clear HF; clear a; intro a HF
          refine wq_y rfl HF rfl rfl (fun _ HS => (yl_assign rfl (HF.ev rfl))) ?_; clear HF; clear a; intro a HF
          refine wpQuiet_nil ?_; intro w6 HS; replace HS := Bx.mk HS
          refine ex_then ?_
          refine HF.cases 95 rfl (fun cc1 HF1 => ?_) (fun cc1 HF1 => ?_)
          · clear HF; have HF := HF1; clear HF1
            have cc1 := of_decide_eq_true cc1
            refine wc_true HF rfl ?_
            refine wp_seq ?_
            refine wp_seq ?_
            refine wr_quiet (by kernel_rfl) (by kernel_rfl) HS.out ?_
            refine wq_y rfl HF rfl rfl (fun _ HS => (yl_move rfl (HF.ev rfl))) ?_; clear HF; clear a; intro a HF
            refine wq_y rfl HF rfl rfl (fun _ HS => (yl_nilCheck rfl (HF.ev rfl))) ?_; clear HF; clear a; intro a HF
            refine wq_y rfl HF rfl rfl (fun _ HS => (yl_fieldAddr (j := 2) rfl (HF.ev rfl) (by kernel_rfl))) ?_; clear HF; clear a; intro a HF
            refine wq_y rfl HF rfl rfl (fun _ HS => (yl_load (v := .slice a2 c.fOnce.length c2) rfl (HF.ev rfl) (((HS.box 0 rfl).cell 2).trans rfl) (by kernel_rfl))) ?_; clear HF; clear a; intro a HF
            refine wq_y rfl HF rfl rfl (fun _ HS => (yl_lenL (e := 3) (size := 1) rfl (HF.ev rfl) (by kernel_rfl))) ?_; clear HF; clear a; intro a HF
            refine wq_y rfl HF rfl rfl (fun _ HS => (yl_move rfl (HF.ev rfl))) ?_; clear HF; clear a; intro a HF
            refine wq_y rfl HF rfl rfl (fun _ HS => (yl_nilCheck rfl (HF.ev rfl))) ?_; clear HF; clear a; intro a HF
            refine wq_y rfl HF rfl rfl (fun _ HS => (yl_fieldAddr (j := 3) rfl (HF.ev rfl) (by kernel_rfl))) ?_; clear HF; clear a; intro a HF
            refine wq_y rfl HF rfl rfl (fun _ HS => (yl_load (v := .slice a3 c.fOften.length c3) rfl (HF.ev rfl) (((HS.box 0 rfl).cell 3).trans rfl) (by kernel_rfl))) ?_; clear HF; clear a; intro a HF
            refine wq_y rfl HF rfl rfl (fun _ HS => (yl_lenL (e := 3) (size := 1) rfl (HF.ev rfl) (by kernel_rfl))) ?_; clear HF; clear a; intro a HF
            refine wq_y rfl HF rfl rfl (fun _ HS => (yl_addI rfl (HF.ev rfl) (HF.ev rfl) (i64w (by omega)))) ?_; clear HF; clear a; intro a HF
            refine wq_y rfl HF rfl rfl (fun _ HS => (yl_move rfl (HF.ev rfl))) ?_; clear HF; clear a; intro a HF
            refine wq_y rfl HF rfl rfl (fun _ HS => (yl_addI rfl (HF.ev rfl) (HF.ev rfl) (i64w (by omega)))) ?_; clear HF; clear a; intro a HF
            refine wq_y rfl HF rfl rfl (fun _ HS => (yl_move rfl (HF.ev rfl))) ?_; clear HF; clear a; intro a HF
            refine wq_y rfl HF rfl rfl (fun _ HS => (yl_addI rfl (HF.ev rfl) (HF.ev rfl) (i64w (by omega)))) ?_; clear HF; clear a; intro a HF
            refine wq_y rfl HF rfl rfl (fun _ HS => (yl_move rfl (HF.ev rfl))) ?_; clear HF; clear a; intro a HF
            refine wq_y rfl HF rfl rfl (fun _ HS => (yl_nilCheck rfl (HF.ev rfl))) ?_; clear HF; clear a; intro a HF
            refine wq_y rfl HF rfl rfl (fun _ HS => (yl_fieldAddr (j := 0) rfl (HF.ev rfl) (by kernel_rfl))) ?_; clear HF; clear a; intro a HF
            refine wq_y rfl HF rfl rfl (fun _ HS => (yl_load (v := .int .i64 c.fRoom) rfl (HF.ev rfl) (((HS.box 0 rfl).cell 0).trans rfl) (by kernel_rfl))) ?_; clear HF; clear a; intro a HF
            refine wq_y rfl HF rfl rfl (fun _ HS => (yl_mulI rfl (HF.ev rfl) (HF.ev rfl) (i64w (by omega)))) ?_; clear HF; clear a; intro a HF
            refine wq_y rfl HF rfl rfl (fun _ HS => (yl_eqlI rfl (HF.ev rfl) (HF.ev rfl))) ?_; clear HF; clear a; intro a HF
            refine wpQuiet_nil ?_; intro w7 HS; replace HS := Bx.mk HS
            refine ex_then ?_
            refine HF.cases 128 rfl (fun cc2 HF1 => ?_) (fun cc2 HF1 => ?_)
            · clear HF; have HF := HF1; clear HF1
              have cc2 := eq_of_beq cc2
              refine wc_true HF rfl ?_
              refine wp_region_lit ?_
              refine wl_y rfl HF rfl rfl (yl_move rfl (HF.ev rfl)) ?_; clear HF; clear a; intro a HF
              refine wl_y rfl HF rfl rfl (yl_nilCheck rfl (HF.ev rfl)) ?_; clear HF; clear a; intro a HF
              refine wl_y rfl HF rfl rfl (yl_fieldAddr (j := 5) rfl (HF.ev rfl) (by kernel_rfl)) ?_; clear HF; clear a; intro a HF
              replace HS : Bx (St w0 (boxA b 6 48 (.agg #[.int .i64 c.fRoom, .int .i64 c.fGoal, .slice a2 c.fOnce.length c2, .slice a3 c.fOften.length c3, .slice a4 c.fPast.length c4, .slice a5 c.fFormer.length c5]) :: rowA encI 1 3 (.slice a5 c.fFormer.length c5) c.fFormer :: rowA encI 1 3 (.slice a2 c.fOnce.length c2) c.fOnce :: rowA encI 1 3 (.slice a3 c.fOften.length c3) c.fOften :: rowA encI 1 3 (.slice a4 c.fPast.length c4) c.fPast :: F) _) := ⟨((HS.out).pick 4 rfl).pick 1 rfl⟩
              refine wl_call rfl HF rfl (enter_of Try.func113 (by kernel_rfl) rfl) (args := #[.pointer (some ⟨b, 0 + 5, none⟩)]) rfl (last_any w0 _ b (0 + 5) _ _ _ c.fFormer _ rfl (by omega) HS.out (by omega)) rfl rfl ?_
              rintro _ w8 ⟨rfl, hs1⟩
              refine ⟨_, rfl, ?_⟩; replace HS := Bx.mk hs1; clear hs1 HF; clear a; intro a HF
              replace HS : Bx (St w0 (boxA b 6 48 (.agg #[.int .i64 c.fRoom, .int .i64 c.fGoal, .slice a2 c.fOnce.length c2, .slice a3 c.fOften.length c3, .slice a4 c.fPast.length c4, .slice a5 c.fFormer.dropLast.length c5]) :: rowA encI 1 3 (.slice a5 c.fFormer.dropLast.length c5) c.fFormer.dropLast :: rowA encI 1 3 (.slice a2 c.fOnce.length c2) c.fOnce :: rowA encI 1 3 (.slice a3 c.fOften.length c3) c.fOften :: rowA encI 1 3 (.slice a4 c.fPast.length c4) c.fPast :: F) _) := ⟨HS.out⟩
              replace HS : Bx (St w0 (boxA b 6 48 (.agg #[.int .i64 c.fRoom, .int .i64 c.fGoal, .slice a2 c.fOnce.length c2, .slice a3 c.fOften.length c3, .slice a4 c.fPast.length c4, .slice a5 c.fFormer.dropLast.length c5]) :: rowA encI 1 3 (.slice a2 c.fOnce.length c2) c.fOnce :: rowA encI 1 3 (.slice a3 c.fOften.length c3) c.fOften :: rowA encI 1 3 (.slice a4 c.fPast.length c4) c.fPast :: rowA encI 1 3 (.slice a5 c.fFormer.dropLast.length c5) c.fFormer.dropLast :: F) _) := ⟨(((((HS.out).pick 1 rfl).pick 4 rfl).pick 4 rfl).pick 4 rfl).pick 4 rfl⟩
              refine wpList_nil ?_
              refine ex_then ?_
              refine wp_region_lit ?_
              refine wl_y rfl HF rfl rfl (yl_move rfl (HF.ev rfl)) ?_; clear HF; clear a; intro a HF
              replace HS : Bx (St w0 (boxA b 6 48 (.agg #[.int .i64 c.fRoom, .int .i64 c.fGoal, .slice a2 c.fOnce.length c2, .slice a3 c.fOften.length c3, .slice a4 c.fPast.length c4, .slice a5 c.fFormer.dropLast.length c5]) :: rowA encI 1 3 (.slice a2 c.fOnce.length c2) c.fOnce :: rowA encI 1 3 (.slice a3 c.fOften.length c3) c.fOften :: rowA encI 1 3 (.slice a4 c.fPast.length c4) c.fPast :: rowA encI 1 3 (.slice a5 c.fFormer.dropLast.length c5) c.fFormer.dropLast :: F) _) := ⟨(((((HS.out).pick 4 rfl).pick 4 rfl).pick 4 rfl).pick 4 rfl).pick 4 rfl⟩
              obtain ⟨x, hx⟩ : ∃ x : CacheD, x = { c with fFormer := c.fFormer.dropLast } := ⟨_, rfl⟩
              have hcs : CacheS w0 b ({ c with fFormer := c.fFormer.dropLast }) F _ := ⟨_, _, _, _, _, _, _, _, HS.out⟩; rw [← hx] at hcs
              refine wl_call rfl HF rfl (enter_of Try.func112 (by kernel_rfl) rfl) (args := #[.pointer (some ⟨b, 0, none⟩), .bool false]) rfl (way_any w0 _ b x false F (by rw [hx]; first | omega | (simp; omega)) (by rw [hx]; first | omega | (simp; omega)) (by rw [hx]; first | omega | (simp; omega)) (by rw [hx]; first | omega | (simp; omega)) (by rw [hx]; first | omega | (simp; omega)) hcs) rfl rfl ?_
              rintro _ w9 ⟨rfl, hs1⟩
              have hdl := way_le x false
              obtain ⟨d, hd⟩ : ∃ d, d = x.wayC false := ⟨_, rfl⟩; rw [← hd] at hs1 hdl; obtain ⟨d2, f2, d3, f3, d4, f4, d5, f5, hs1⟩ := hs1
              have hd2 : d.fOnce.length ≤ 100 := Nat.le_trans hdl.1 (by rw [hx]; first | omega | (simp; omega)); have hd3 : d.fOften.length ≤ 100 := Nat.le_trans hdl.2 (by rw [hx]; first | omega | (simp; omega)); rw [hx] at hd; clear hdl hcs hx
              refine ⟨_, rfl, ?_⟩; replace HS := Bx.mk hs1; clear hs1 HF; clear a; intro a HF
              refine wpList_nil ?_
              refine ex_block ?_
              refine ex_then ?_
              refine wp_seq ?_
              refine wp_region_lit ?_
              refine wl_y rfl HF rfl rfl (yl_move rfl (HF.ev rfl)) ?_; clear HF; clear a; intro a HF
              refine wl_y rfl HF rfl rfl (yl_nilCheck rfl (HF.ev rfl)) ?_; clear HF; clear a; intro a HF
              refine wl_y rfl HF rfl rfl (yl_fieldAddr (j := 2) rfl (HF.ev rfl) (by kernel_rfl)) ?_; clear HF; clear a; intro a HF
              refine wl_y rfl HF rfl rfl (yl_move rfl (HF.ev rfl)) ?_; clear HF; clear a; intro a HF
              replace HS : Bx (St w0 (boxA b 6 48 (.agg #[.int .i64 d.fRoom, .int .i64 d.fGoal, .slice d2 d.fOnce.length f2, .slice d3 d.fOften.length f3, .slice d4 d.fPast.length f4, .slice d5 d.fFormer.length f5]) :: rowA encI 1 3 (.slice d2 d.fOnce.length f2) d.fOnce :: rowA encI 1 3 (.slice d3 d.fOften.length f3) d.fOften :: rowA encI 1 3 (.slice d4 d.fPast.length f4) d.fPast :: rowA encI 1 3 (.slice d5 d.fFormer.length f5) d.fFormer :: F) _) := ⟨((HS.out).pick 1 rfl).pick 1 rfl⟩
              refine wl_call rfl HF rfl (enter_of Try.func111 (by kernel_rfl) rfl) (args := #[.pointer (some ⟨b, 0 + 2, none⟩), .int .i64 r]) rfl (front_any w0 _ b (0 + 2) _ _ _ d.fOnce r _ rfl (by first | omega | (simp; omega)) HS.out) rfl rfl ?_
              rintro _ w10 ⟨rfl, ao1, cp2, hs1⟩
              refine ⟨_, rfl, ?_⟩; replace HS := Bx.mk hs1; clear hs1 HF; clear a; intro a HF
              replace HS : Bx (St w0 (boxA b 6 48 (.agg #[.int .i64 d.fRoom, .int .i64 d.fGoal, .slice ao1 (d.fOnce.length + 1) cp2, .slice d3 d.fOften.length f3, .slice d4 d.fPast.length f4, .slice d5 d.fFormer.length f5]) :: rowA encI 1 3 (.slice ao1 (d.fOnce.length + 1) cp2) (r :: d.fOnce) :: rowA encI 1 3 (.slice d3 d.fOften.length f3) d.fOften :: rowA encI 1 3 (.slice d4 d.fPast.length f4) d.fPast :: rowA encI 1 3 (.slice d5 d.fFormer.length f5) d.fFormer :: F) _) := ⟨HS.out⟩
              replace HS : Bx (St w0 (boxA b 6 48 (.agg #[.int .i64 d.fRoom, .int .i64 d.fGoal, .slice ao1 (d.fOnce.length + 1) cp2, .slice d3 d.fOften.length f3, .slice d4 d.fPast.length f4, .slice d5 d.fFormer.length f5]) :: rowA encI 1 3 (.slice ao1 (d.fOnce.length + 1) cp2) (r :: d.fOnce) :: rowA encI 1 3 (.slice d3 d.fOften.length f3) d.fOften :: rowA encI 1 3 (.slice d4 d.fPast.length f4) d.fPast :: rowA encI 1 3 (.slice d5 d.fFormer.length f5) d.fFormer :: F) _) := ⟨(((((HS.out).pick 4 rfl).pick 4 rfl).pick 4 rfl).pick 4 rfl).pick 4 rfl⟩
              refine wpList_nil ?_
              refine ex_then ?_
              refine wp_seq ?_
              refine wp_region_lit ?_
              refine wl_y rfl HF rfl rfl (yl_assign rfl (HF.ev rfl)) ?_; clear HF; clear a; intro a HF
              refine wpList_nil ?_
              refine ex_then ?_
              refine wp_ret ?_
              refine bp_ret1 HF Try.results64 (HF.res rfl) ?_
              replace HS : Bx (St w0 (boxA b 6 48 (.agg #[.int .i64 d.fRoom, .int .i64 d.fGoal, .slice ao1 (d.fOnce.length + 1) cp2, .slice d3 d.fOften.length f3, .slice d4 d.fPast.length f4, .slice d5 d.fFormer.length f5]) :: rowA encI 1 3 (.slice ao1 (d.fOnce.length + 1) cp2) (r :: d.fOnce) :: rowA encI 1 3 (.slice d3 d.fOften.length f3) d.fOften :: rowA encI 1 3 (.slice d4 d.fPast.length f4) d.fPast :: rowA encI 1 3 (.slice d5 d.fFormer.length f5) d.fFormer :: F) _) := ⟨(((((HS.out).pick 4 rfl).pick 4 rfl).pick 4 rfl).pick 4 rfl).pick 4 rfl⟩
              have hpu : c.push = d := by unfold CacheD.push; rw [if_pos (by omega), if_pos (by rw [beq_iff_eq]; unfold CacheD.total; omega), ← hd]
              have ha : c.askI r = ({ d with fOnce := r :: d.fOnce }, false) := by simp only [CacheD.askI, hin2, hin3, hin4, hin5, if_true, Bool.false_eq_true, if_false]; rw [hpu]
              rw [ha]; exact ⟨rfl, _, _, _, _, _, _, _, _, HS.out⟩
            · clear HF; have HF := HF1; clear HF1
              have cc2 := ne_of_beq_false cc2
              refine wc_false HF rfl ?_
              refine wp_skip ?_
              refine ex_then ?_
              refine wp_region_lit ?_
              refine wl_y rfl HF rfl rfl (yl_move rfl (HF.ev rfl)) ?_; clear HF; clear a; intro a HF
              replace HS : Bx (St w0 (boxA b 6 48 (.agg #[.int .i64 c.fRoom, .int .i64 c.fGoal, .slice a2 c.fOnce.length c2, .slice a3 c.fOften.length c3, .slice a4 c.fPast.length c4, .slice a5 c.fFormer.length c5]) :: rowA encI 1 3 (.slice a2 c.fOnce.length c2) c.fOnce :: rowA encI 1 3 (.slice a3 c.fOften.length c3) c.fOften :: rowA encI 1 3 (.slice a4 c.fPast.length c4) c.fPast :: rowA encI 1 3 (.slice a5 c.fFormer.length c5) c.fFormer :: F) _) := ⟨(((((HS.out).pick 4 rfl).pick 4 rfl).pick 4 rfl).pick 4 rfl).pick 4 rfl⟩
              obtain ⟨x, hx⟩ : ∃ x : CacheD, x = c := ⟨_, rfl⟩
              have hcs : CacheS w0 b (c) F _ := ⟨_, _, _, _, _, _, _, _, HS.out⟩; rw [← hx] at hcs
              refine wl_call rfl HF rfl (enter_of Try.func112 (by kernel_rfl) rfl) (args := #[.pointer (some ⟨b, 0, none⟩), .bool false]) rfl (way_any w0 _ b x false F (by rw [hx]; first | omega | (simp; omega)) (by rw [hx]; first | omega | (simp; omega)) (by rw [hx]; first | omega | (simp; omega)) (by rw [hx]; first | omega | (simp; omega)) (by rw [hx]; first | omega | (simp; omega)) hcs) rfl rfl ?_
              rintro _ w11 ⟨rfl, hs1⟩
              have hdl := way_le x false
              obtain ⟨d, hd⟩ : ∃ d, d = x.wayC false := ⟨_, rfl⟩; rw [← hd] at hs1 hdl; obtain ⟨d2, f2, d3, f3, d4, f4, d5, f5, hs1⟩ := hs1
              have hd2 : d.fOnce.length ≤ 100 := Nat.le_trans hdl.1 (by rw [hx]; first | omega | (simp; omega)); have hd3 : d.fOften.length ≤ 100 := Nat.le_trans hdl.2 (by rw [hx]; first | omega | (simp; omega)); rw [hx] at hd; clear hdl hcs hx
              refine ⟨_, rfl, ?_⟩; replace HS := Bx.mk hs1; clear hs1 HF; clear a; intro a HF
              refine wpList_nil ?_
              refine ex_block ?_
              refine ex_then ?_
              refine wp_seq ?_
              refine wp_region_lit ?_
              refine wl_y rfl HF rfl rfl (yl_move rfl (HF.ev rfl)) ?_; clear HF; clear a; intro a HF
              refine wl_y rfl HF rfl rfl (yl_nilCheck rfl (HF.ev rfl)) ?_; clear HF; clear a; intro a HF
              refine wl_y rfl HF rfl rfl (yl_fieldAddr (j := 2) rfl (HF.ev rfl) (by kernel_rfl)) ?_; clear HF; clear a; intro a HF
              refine wl_y rfl HF rfl rfl (yl_move rfl (HF.ev rfl)) ?_; clear HF; clear a; intro a HF
              replace HS : Bx (St w0 (boxA b 6 48 (.agg #[.int .i64 d.fRoom, .int .i64 d.fGoal, .slice d2 d.fOnce.length f2, .slice d3 d.fOften.length f3, .slice d4 d.fPast.length f4, .slice d5 d.fFormer.length f5]) :: rowA encI 1 3 (.slice d2 d.fOnce.length f2) d.fOnce :: rowA encI 1 3 (.slice d3 d.fOften.length f3) d.fOften :: rowA encI 1 3 (.slice d4 d.fPast.length f4) d.fPast :: rowA encI 1 3 (.slice d5 d.fFormer.length f5) d.fFormer :: F) _) := ⟨((HS.out).pick 1 rfl).pick 1 rfl⟩
              refine wl_call rfl HF rfl (enter_of Try.func111 (by kernel_rfl) rfl) (args := #[.pointer (some ⟨b, 0 + 2, none⟩), .int .i64 r]) rfl (front_any w0 _ b (0 + 2) _ _ _ d.fOnce r _ rfl (by first | omega | (simp; omega)) HS.out) rfl rfl ?_
              rintro _ w12 ⟨rfl, ao3, cp4, hs1⟩
              refine ⟨_, rfl, ?_⟩; replace HS := Bx.mk hs1; clear hs1 HF; clear a; intro a HF
              replace HS : Bx (St w0 (boxA b 6 48 (.agg #[.int .i64 d.fRoom, .int .i64 d.fGoal, .slice ao3 (d.fOnce.length + 1) cp4, .slice d3 d.fOften.length f3, .slice d4 d.fPast.length f4, .slice d5 d.fFormer.length f5]) :: rowA encI 1 3 (.slice ao3 (d.fOnce.length + 1) cp4) (r :: d.fOnce) :: rowA encI 1 3 (.slice d3 d.fOften.length f3) d.fOften :: rowA encI 1 3 (.slice d4 d.fPast.length f4) d.fPast :: rowA encI 1 3 (.slice d5 d.fFormer.length f5) d.fFormer :: F) _) := ⟨HS.out⟩
              replace HS : Bx (St w0 (boxA b 6 48 (.agg #[.int .i64 d.fRoom, .int .i64 d.fGoal, .slice ao3 (d.fOnce.length + 1) cp4, .slice d3 d.fOften.length f3, .slice d4 d.fPast.length f4, .slice d5 d.fFormer.length f5]) :: rowA encI 1 3 (.slice ao3 (d.fOnce.length + 1) cp4) (r :: d.fOnce) :: rowA encI 1 3 (.slice d3 d.fOften.length f3) d.fOften :: rowA encI 1 3 (.slice d4 d.fPast.length f4) d.fPast :: rowA encI 1 3 (.slice d5 d.fFormer.length f5) d.fFormer :: F) _) := ⟨(((((HS.out).pick 4 rfl).pick 4 rfl).pick 4 rfl).pick 4 rfl).pick 4 rfl⟩
              refine wpList_nil ?_
              refine ex_then ?_
              refine wp_seq ?_
              refine wp_region_lit ?_
              refine wl_y rfl HF rfl rfl (yl_assign rfl (HF.ev rfl)) ?_; clear HF; clear a; intro a HF
              refine wpList_nil ?_
              refine ex_then ?_
              refine wp_ret ?_
              refine bp_ret1 HF Try.results64 (HF.res rfl) ?_
              replace HS : Bx (St w0 (boxA b 6 48 (.agg #[.int .i64 d.fRoom, .int .i64 d.fGoal, .slice ao3 (d.fOnce.length + 1) cp4, .slice d3 d.fOften.length f3, .slice d4 d.fPast.length f4, .slice d5 d.fFormer.length f5]) :: rowA encI 1 3 (.slice ao3 (d.fOnce.length + 1) cp4) (r :: d.fOnce) :: rowA encI 1 3 (.slice d3 d.fOften.length f3) d.fOften :: rowA encI 1 3 (.slice d4 d.fPast.length f4) d.fPast :: rowA encI 1 3 (.slice d5 d.fFormer.length f5) d.fFormer :: F) _) := ⟨(((((HS.out).pick 4 rfl).pick 4 rfl).pick 4 rfl).pick 4 rfl).pick 4 rfl⟩
              have hpu : c.push = d := by unfold CacheD.push; rw [if_pos (by omega), if_neg (by rw [beq_iff_eq]; unfold CacheD.total; omega), ← hd]
              have ha : c.askI r = ({ d with fOnce := r :: d.fOnce }, false) := by simp only [CacheD.askI, hin2, hin3, hin4, hin5, if_true, Bool.false_eq_true, if_false]; rw [hpu]
              rw [ha]; exact ⟨rfl, _, _, _, _, _, _, _, _, HS.out⟩
          · clear HF; have HF := HF1; clear HF1
            have cc1 := of_decide_eq_false cc1
            refine wc_false HF rfl ?_
            refine wp_seq ?_
            refine wp_region_lit ?_
            refine wl_y rfl HF rfl rfl (yl_move rfl (HF.ev rfl)) ?_; clear HF; clear a; intro a HF
            refine wl_y rfl HF rfl rfl (yl_gtrI rfl (HF.ev rfl) (HF.ev rfl)) ?_; clear HF; clear a; intro a HF
            refine wl_y rfl HF rfl rfl (yl_assign rfl (HF.ev rfl)) ?_; clear HF; clear a; intro a HF
            refine wpList_nil ?_
            refine ex_then ?_
            refine HF.cases 135 rfl (fun cc3 HF1 => ?_) (fun cc3 HF1 => ?_)
            · clear HF; have HF := HF1; clear HF1
              have cc3 := of_decide_eq_true cc3
              refine wc_true HF rfl ?_
              refine wp_seq ?_
              refine wp_region_lit ?_
              refine wl_y rfl HF rfl rfl (yl_move rfl (HF.ev rfl)) ?_; clear HF; clear a; intro a HF
              refine wl_y rfl HF rfl rfl (yl_nilCheck rfl (HF.ev rfl)) ?_; clear HF; clear a; intro a HF
              refine wl_y rfl HF rfl rfl (yl_fieldAddr (j := 4) rfl (HF.ev rfl) (by kernel_rfl)) ?_; clear HF; clear a; intro a HF
              replace HS : Bx (St w0 (boxA b 6 48 (.agg #[.int .i64 c.fRoom, .int .i64 c.fGoal, .slice a2 c.fOnce.length c2, .slice a3 c.fOften.length c3, .slice a4 c.fPast.length c4, .slice a5 c.fFormer.length c5]) :: rowA encI 1 3 (.slice a4 c.fPast.length c4) c.fPast :: rowA encI 1 3 (.slice a2 c.fOnce.length c2) c.fOnce :: rowA encI 1 3 (.slice a3 c.fOften.length c3) c.fOften :: rowA encI 1 3 (.slice a5 c.fFormer.length c5) c.fFormer :: F) _) := ⟨((HS.out).pick 3 rfl).pick 1 rfl⟩
              refine wl_call rfl HF rfl (enter_of Try.func113 (by kernel_rfl) rfl) (args := #[.pointer (some ⟨b, 0 + 4, none⟩)]) rfl (last_any w0 _ b (0 + 4) _ _ _ c.fPast _ rfl (by omega) HS.out (by omega)) rfl rfl ?_
              rintro _ w13 ⟨rfl, hs1⟩
              refine ⟨_, rfl, ?_⟩; replace HS := Bx.mk hs1; clear hs1 HF; clear a; intro a HF
              replace HS : Bx (St w0 (boxA b 6 48 (.agg #[.int .i64 c.fRoom, .int .i64 c.fGoal, .slice a2 c.fOnce.length c2, .slice a3 c.fOften.length c3, .slice a4 c.fPast.dropLast.length c4, .slice a5 c.fFormer.length c5]) :: rowA encI 1 3 (.slice a4 c.fPast.dropLast.length c4) c.fPast.dropLast :: rowA encI 1 3 (.slice a2 c.fOnce.length c2) c.fOnce :: rowA encI 1 3 (.slice a3 c.fOften.length c3) c.fOften :: rowA encI 1 3 (.slice a5 c.fFormer.length c5) c.fFormer :: F) _) := ⟨HS.out⟩
              replace HS : Bx (St w0 (boxA b 6 48 (.agg #[.int .i64 c.fRoom, .int .i64 c.fGoal, .slice a2 c.fOnce.length c2, .slice a3 c.fOften.length c3, .slice a4 c.fPast.dropLast.length c4, .slice a5 c.fFormer.length c5]) :: rowA encI 1 3 (.slice a2 c.fOnce.length c2) c.fOnce :: rowA encI 1 3 (.slice a3 c.fOften.length c3) c.fOften :: rowA encI 1 3 (.slice a4 c.fPast.dropLast.length c4) c.fPast.dropLast :: rowA encI 1 3 (.slice a5 c.fFormer.length c5) c.fFormer :: F) _) := ⟨(((((HS.out).pick 4 rfl).pick 2 rfl).pick 4 rfl).pick 4 rfl).pick 4 rfl⟩
              refine wpList_nil ?_
              refine ex_then ?_
              refine wp_region_lit ?_
              refine wl_y rfl HF rfl rfl (yl_move rfl (HF.ev rfl)) ?_; clear HF; clear a; intro a HF
              replace HS : Bx (St w0 (boxA b 6 48 (.agg #[.int .i64 c.fRoom, .int .i64 c.fGoal, .slice a2 c.fOnce.length c2, .slice a3 c.fOften.length c3, .slice a4 c.fPast.dropLast.length c4, .slice a5 c.fFormer.length c5]) :: rowA encI 1 3 (.slice a2 c.fOnce.length c2) c.fOnce :: rowA encI 1 3 (.slice a3 c.fOften.length c3) c.fOften :: rowA encI 1 3 (.slice a4 c.fPast.dropLast.length c4) c.fPast.dropLast :: rowA encI 1 3 (.slice a5 c.fFormer.length c5) c.fFormer :: F) _) := ⟨(((((HS.out).pick 4 rfl).pick 4 rfl).pick 4 rfl).pick 4 rfl).pick 4 rfl⟩
              obtain ⟨x, hx⟩ : ∃ x : CacheD, x = { c with fPast := c.fPast.dropLast } := ⟨_, rfl⟩
              have hcs : CacheS w0 b ({ c with fPast := c.fPast.dropLast }) F _ := ⟨_, _, _, _, _, _, _, _, HS.out⟩; rw [← hx] at hcs
              refine wl_call rfl HF rfl (enter_of Try.func112 (by kernel_rfl) rfl) (args := #[.pointer (some ⟨b, 0, none⟩), .bool false]) rfl (way_any w0 _ b x false F (by rw [hx]; first | omega | (simp; omega)) (by rw [hx]; first | omega | (simp; omega)) (by rw [hx]; first | omega | (simp; omega)) (by rw [hx]; first | omega | (simp; omega)) (by rw [hx]; first | omega | (simp; omega)) hcs) rfl rfl ?_
              rintro _ w14 ⟨rfl, hs1⟩
              have hdl := way_le x false
              obtain ⟨d, hd⟩ : ∃ d, d = x.wayC false := ⟨_, rfl⟩; rw [← hd] at hs1 hdl; obtain ⟨d2, f2, d3, f3, d4, f4, d5, f5, hs1⟩ := hs1
              have hd2 : d.fOnce.length ≤ 100 := Nat.le_trans hdl.1 (by rw [hx]; first | omega | (simp; omega)); have hd3 : d.fOften.length ≤ 100 := Nat.le_trans hdl.2 (by rw [hx]; first | omega | (simp; omega)); rw [hx] at hd; clear hdl hcs hx
              refine ⟨_, rfl, ?_⟩; replace HS := Bx.mk hs1; clear hs1 HF; clear a; intro a HF
              refine wpList_nil ?_
              refine ex_block ?_
              refine ex_then ?_
              refine wp_seq ?_
              refine wp_region_lit ?_
              refine wl_y rfl HF rfl rfl (yl_move rfl (HF.ev rfl)) ?_; clear HF; clear a; intro a HF
              refine wl_y rfl HF rfl rfl (yl_nilCheck rfl (HF.ev rfl)) ?_; clear HF; clear a; intro a HF
              refine wl_y rfl HF rfl rfl (yl_fieldAddr (j := 2) rfl (HF.ev rfl) (by kernel_rfl)) ?_; clear HF; clear a; intro a HF
              refine wl_y rfl HF rfl rfl (yl_move rfl (HF.ev rfl)) ?_; clear HF; clear a; intro a HF
              replace HS : Bx (St w0 (boxA b 6 48 (.agg #[.int .i64 d.fRoom, .int .i64 d.fGoal, .slice d2 d.fOnce.length f2, .slice d3 d.fOften.length f3, .slice d4 d.fPast.length f4, .slice d5 d.fFormer.length f5]) :: rowA encI 1 3 (.slice d2 d.fOnce.length f2) d.fOnce :: rowA encI 1 3 (.slice d3 d.fOften.length f3) d.fOften :: rowA encI 1 3 (.slice d4 d.fPast.length f4) d.fPast :: rowA encI 1 3 (.slice d5 d.fFormer.length f5) d.fFormer :: F) _) := ⟨((HS.out).pick 1 rfl).pick 1 rfl⟩
              refine wl_call rfl HF rfl (enter_of Try.func111 (by kernel_rfl) rfl) (args := #[.pointer (some ⟨b, 0 + 2, none⟩), .int .i64 r]) rfl (front_any w0 _ b (0 + 2) _ _ _ d.fOnce r _ rfl (by first | omega | (simp; omega)) HS.out) rfl rfl ?_
              rintro _ w15 ⟨rfl, ao5, cp6, hs1⟩
              refine ⟨_, rfl, ?_⟩; replace HS := Bx.mk hs1; clear hs1 HF; clear a; intro a HF
              replace HS : Bx (St w0 (boxA b 6 48 (.agg #[.int .i64 d.fRoom, .int .i64 d.fGoal, .slice ao5 (d.fOnce.length + 1) cp6, .slice d3 d.fOften.length f3, .slice d4 d.fPast.length f4, .slice d5 d.fFormer.length f5]) :: rowA encI 1 3 (.slice ao5 (d.fOnce.length + 1) cp6) (r :: d.fOnce) :: rowA encI 1 3 (.slice d3 d.fOften.length f3) d.fOften :: rowA encI 1 3 (.slice d4 d.fPast.length f4) d.fPast :: rowA encI 1 3 (.slice d5 d.fFormer.length f5) d.fFormer :: F) _) := ⟨HS.out⟩
              replace HS : Bx (St w0 (boxA b 6 48 (.agg #[.int .i64 d.fRoom, .int .i64 d.fGoal, .slice ao5 (d.fOnce.length + 1) cp6, .slice d3 d.fOften.length f3, .slice d4 d.fPast.length f4, .slice d5 d.fFormer.length f5]) :: rowA encI 1 3 (.slice ao5 (d.fOnce.length + 1) cp6) (r :: d.fOnce) :: rowA encI 1 3 (.slice d3 d.fOften.length f3) d.fOften :: rowA encI 1 3 (.slice d4 d.fPast.length f4) d.fPast :: rowA encI 1 3 (.slice d5 d.fFormer.length f5) d.fFormer :: F) _) := ⟨(((((HS.out).pick 4 rfl).pick 4 rfl).pick 4 rfl).pick 4 rfl).pick 4 rfl⟩
              refine wpList_nil ?_
              refine ex_then ?_
              refine wp_seq ?_
              refine wp_region_lit ?_
              refine wl_y rfl HF rfl rfl (yl_assign rfl (HF.ev rfl)) ?_; clear HF; clear a; intro a HF
              refine wpList_nil ?_
              refine ex_then ?_
              refine wp_ret ?_
              refine bp_ret1 HF Try.results64 (HF.res rfl) ?_
              replace HS : Bx (St w0 (boxA b 6 48 (.agg #[.int .i64 d.fRoom, .int .i64 d.fGoal, .slice ao5 (d.fOnce.length + 1) cp6, .slice d3 d.fOften.length f3, .slice d4 d.fPast.length f4, .slice d5 d.fFormer.length f5]) :: rowA encI 1 3 (.slice ao5 (d.fOnce.length + 1) cp6) (r :: d.fOnce) :: rowA encI 1 3 (.slice d3 d.fOften.length f3) d.fOften :: rowA encI 1 3 (.slice d4 d.fPast.length f4) d.fPast :: rowA encI 1 3 (.slice d5 d.fFormer.length f5) d.fFormer :: F) _) := ⟨(((((HS.out).pick 4 rfl).pick 4 rfl).pick 4 rfl).pick 4 rfl).pick 4 rfl⟩
              have hpu : c.push = d := by unfold CacheD.push; rw [if_neg (by omega), if_pos (by omega), ← hd]
              have ha : c.askI r = ({ d with fOnce := r :: d.fOnce }, false) := by simp only [CacheD.askI, hin2, hin3, hin4, hin5, if_true, Bool.false_eq_true, if_false]; rw [hpu]
              rw [ha]; exact ⟨rfl, _, _, _, _, _, _, _, _, HS.out⟩
            · clear HF; have HF := HF1; clear HF1
              have cc3 := of_decide_eq_false cc3
              refine wc_false HF rfl ?_
              refine wp_region_lit ?_
              refine wl_y rfl HF rfl rfl (yl_move rfl (HF.ev rfl)) ?_; clear HF; clear a; intro a HF
              refine wl_y rfl HF rfl rfl (yl_nilCheck rfl (HF.ev rfl)) ?_; clear HF; clear a; intro a HF
              refine wl_y rfl HF rfl rfl (yl_fieldAddr (j := 2) rfl (HF.ev rfl) (by kernel_rfl)) ?_; clear HF; clear a; intro a HF
              replace HS : Bx (St w0 (boxA b 6 48 (.agg #[.int .i64 c.fRoom, .int .i64 c.fGoal, .slice a2 c.fOnce.length c2, .slice a3 c.fOften.length c3, .slice a4 c.fPast.length c4, .slice a5 c.fFormer.length c5]) :: rowA encI 1 3 (.slice a2 c.fOnce.length c2) c.fOnce :: rowA encI 1 3 (.slice a3 c.fOften.length c3) c.fOften :: rowA encI 1 3 (.slice a4 c.fPast.length c4) c.fPast :: rowA encI 1 3 (.slice a5 c.fFormer.length c5) c.fFormer :: F) _) := ⟨((HS.out).pick 1 rfl).pick 1 rfl⟩
              refine wl_call rfl HF rfl (enter_of Try.func113 (by kernel_rfl) rfl) (args := #[.pointer (some ⟨b, 0 + 2, none⟩)]) rfl (last_any w0 _ b (0 + 2) _ _ _ c.fOnce _ rfl (by omega) HS.out (by omega)) rfl rfl ?_
              rintro _ w16 ⟨rfl, hs1⟩
              refine ⟨_, rfl, ?_⟩; replace HS := Bx.mk hs1; clear hs1 HF; clear a; intro a HF
              replace HS : Bx (St w0 (boxA b 6 48 (.agg #[.int .i64 c.fRoom, .int .i64 c.fGoal, .slice a2 c.fOnce.dropLast.length c2, .slice a3 c.fOften.length c3, .slice a4 c.fPast.length c4, .slice a5 c.fFormer.length c5]) :: rowA encI 1 3 (.slice a2 c.fOnce.dropLast.length c2) c.fOnce.dropLast :: rowA encI 1 3 (.slice a3 c.fOften.length c3) c.fOften :: rowA encI 1 3 (.slice a4 c.fPast.length c4) c.fPast :: rowA encI 1 3 (.slice a5 c.fFormer.length c5) c.fFormer :: F) _) := ⟨HS.out⟩
              replace HS : Bx (St w0 (boxA b 6 48 (.agg #[.int .i64 c.fRoom, .int .i64 c.fGoal, .slice a2 c.fOnce.dropLast.length c2, .slice a3 c.fOften.length c3, .slice a4 c.fPast.length c4, .slice a5 c.fFormer.length c5]) :: rowA encI 1 3 (.slice a2 c.fOnce.dropLast.length c2) c.fOnce.dropLast :: rowA encI 1 3 (.slice a3 c.fOften.length c3) c.fOften :: rowA encI 1 3 (.slice a4 c.fPast.length c4) c.fPast :: rowA encI 1 3 (.slice a5 c.fFormer.length c5) c.fFormer :: F) _) := ⟨(((((HS.out).pick 4 rfl).pick 4 rfl).pick 4 rfl).pick 4 rfl).pick 4 rfl⟩
              refine wpList_nil ?_
              refine ex_block ?_
              refine ex_then ?_
              refine wp_seq ?_
              refine wp_region_lit ?_
              refine wl_y rfl HF rfl rfl (yl_move rfl (HF.ev rfl)) ?_; clear HF; clear a; intro a HF
              refine wl_y rfl HF rfl rfl (yl_nilCheck rfl (HF.ev rfl)) ?_; clear HF; clear a; intro a HF
              refine wl_y rfl HF rfl rfl (yl_fieldAddr (j := 2) rfl (HF.ev rfl) (by kernel_rfl)) ?_; clear HF; clear a; intro a HF
              refine wl_y rfl HF rfl rfl (yl_move rfl (HF.ev rfl)) ?_; clear HF; clear a; intro a HF
              replace HS : Bx (St w0 (boxA b 6 48 (.agg #[.int .i64 c.fRoom, .int .i64 c.fGoal, .slice a2 c.fOnce.dropLast.length c2, .slice a3 c.fOften.length c3, .slice a4 c.fPast.length c4, .slice a5 c.fFormer.length c5]) :: rowA encI 1 3 (.slice a2 c.fOnce.dropLast.length c2) c.fOnce.dropLast :: rowA encI 1 3 (.slice a3 c.fOften.length c3) c.fOften :: rowA encI 1 3 (.slice a4 c.fPast.length c4) c.fPast :: rowA encI 1 3 (.slice a5 c.fFormer.length c5) c.fFormer :: F) _) := ⟨((HS.out).pick 1 rfl).pick 1 rfl⟩
              refine wl_call rfl HF rfl (enter_of Try.func111 (by kernel_rfl) rfl) (args := #[.pointer (some ⟨b, 0 + 2, none⟩), .int .i64 r]) rfl (front_any w0 _ b (0 + 2) _ _ _ c.fOnce.dropLast r _ rfl (by first | omega | (simp; omega)) HS.out) rfl rfl ?_
              rintro _ w17 ⟨rfl, ao7, cp8, hs1⟩
              refine ⟨_, rfl, ?_⟩; replace HS := Bx.mk hs1; clear hs1 HF; clear a; intro a HF
              replace HS : Bx (St w0 (boxA b 6 48 (.agg #[.int .i64 c.fRoom, .int .i64 c.fGoal, .slice ao7 (c.fOnce.dropLast.length + 1) cp8, .slice a3 c.fOften.length c3, .slice a4 c.fPast.length c4, .slice a5 c.fFormer.length c5]) :: rowA encI 1 3 (.slice ao7 (c.fOnce.dropLast.length + 1) cp8) (r :: c.fOnce.dropLast) :: rowA encI 1 3 (.slice a3 c.fOften.length c3) c.fOften :: rowA encI 1 3 (.slice a4 c.fPast.length c4) c.fPast :: rowA encI 1 3 (.slice a5 c.fFormer.length c5) c.fFormer :: F) _) := ⟨HS.out⟩
              replace HS : Bx (St w0 (boxA b 6 48 (.agg #[.int .i64 c.fRoom, .int .i64 c.fGoal, .slice ao7 (c.fOnce.dropLast.length + 1) cp8, .slice a3 c.fOften.length c3, .slice a4 c.fPast.length c4, .slice a5 c.fFormer.length c5]) :: rowA encI 1 3 (.slice ao7 (c.fOnce.dropLast.length + 1) cp8) (r :: c.fOnce.dropLast) :: rowA encI 1 3 (.slice a3 c.fOften.length c3) c.fOften :: rowA encI 1 3 (.slice a4 c.fPast.length c4) c.fPast :: rowA encI 1 3 (.slice a5 c.fFormer.length c5) c.fFormer :: F) _) := ⟨(((((HS.out).pick 4 rfl).pick 4 rfl).pick 4 rfl).pick 4 rfl).pick 4 rfl⟩
              refine wpList_nil ?_
              refine ex_then ?_
              refine wp_seq ?_
              refine wp_region_lit ?_
              refine wl_y rfl HF rfl rfl (yl_assign rfl (HF.ev rfl)) ?_; clear HF; clear a; intro a HF
              refine wpList_nil ?_
              refine ex_then ?_
              refine wp_ret ?_
              refine bp_ret1 HF Try.results64 (HF.res rfl) ?_
              replace HS : Bx (St w0 (boxA b 6 48 (.agg #[.int .i64 c.fRoom, .int .i64 c.fGoal, .slice ao7 (c.fOnce.dropLast.length + 1) cp8, .slice a3 c.fOften.length c3, .slice a4 c.fPast.length c4, .slice a5 c.fFormer.length c5]) :: rowA encI 1 3 (.slice ao7 (c.fOnce.dropLast.length + 1) cp8) (r :: c.fOnce.dropLast) :: rowA encI 1 3 (.slice a3 c.fOften.length c3) c.fOften :: rowA encI 1 3 (.slice a4 c.fPast.length c4) c.fPast :: rowA encI 1 3 (.slice a5 c.fFormer.length c5) c.fFormer :: F) _) := ⟨(((((HS.out).pick 4 rfl).pick 4 rfl).pick 4 rfl).pick 4 rfl).pick 4 rfl⟩
              have hpu : c.push = { c with fOnce := c.fOnce.dropLast } := by unfold CacheD.push; rw [if_neg (by omega), if_neg (by omega)]
              have ha : c.askI r = ({ c with fOnce := r :: c.fOnce.dropLast }, false) := by simp only [CacheD.askI, hin2, hin3, hin4, hin5, if_true, Bool.false_eq_true, if_false]; rw [hpu]
              rw [ha]; exact ⟨rfl, _, _, _, _, _, _, _, _, HS.out⟩
        · skip
          refine ⟨_, rfl, ?_⟩; replace HS := Bx.mk hs1; clear hs1 HF; clear a; intro a HF
          replace HS : Bx (St w0 (boxA b 6 48 (.agg #[.int .i64 c.fRoom, .int .i64 c.fGoal, .slice a2 c.fOnce.length c2, .slice a3 c.fOften.length c3, .slice a4 c.fPast.length c4, .slice a5 ((c.fFormer.erase r).length) c5]) :: rowA encI 1 3 (.slice a5 ((c.fFormer.erase r).length) c5) (c.fFormer.erase r) :: rowA encI 1 3 (.slice a2 c.fOnce.length c2) c.fOnce :: rowA encI 1 3 (.slice a3 c.fOften.length c3) c.fOften :: rowA encI 1 3 (.slice a4 c.fPast.length c4) c.fPast :: F) _) := ⟨HS.out⟩
          replace HS : Bx (St w0 (boxA b 6 48 (.agg #[.int .i64 c.fRoom, .int .i64 c.fGoal, .slice a2 c.fOnce.length c2, .slice a3 c.fOften.length c3, .slice a4 c.fPast.length c4, .slice a5 ((c.fFormer.erase r).length) c5]) :: rowA encI 1 3 (.slice a2 c.fOnce.length c2) c.fOnce :: rowA encI 1 3 (.slice a3 c.fOften.length c3) c.fOften :: rowA encI 1 3 (.slice a4 c.fPast.length c4) c.fPast :: rowA encI 1 3 (.slice a5 ((c.fFormer.erase r).length) c5) (c.fFormer.erase r) :: F) _) := ⟨(((((HS.out).pick 1 rfl).pick 4 rfl).pick 4 rfl).pick 4 rfl).pick 4 rfl⟩
          have hps := inI_pos hin5; have hel : (c.fFormer.erase r).length ≤ c.fFormer.length := List.length_erase_le
          refine wl_y rfl HF rfl rfl (yl_assign rfl (HF.ev rfl)) ?_; clear HF; clear a; intro a HF
          refine wpList_nil ?_
          refine ex_then ?_
          refine wc_true HF rfl ?_
          refine wp_seq ?_
          have hdv := div_le c.fPast.length c.fFormer.length
          refine wr_tail 13 (by kernel_rfl) (by kernel_rfl) HS.out ?_
          simp only [List.take_succ_cons, List.take_zero, List.drop_succ_cons, List.drop_zero]
          intro w18 HS
          replace HS := Bx.mk HS
          refine ws_y rfl HF rfl rfl (yl_move rfl (HF.ev rfl)) ?_; clear HF; clear a; intro a HF
          refine ws_y rfl HF rfl rfl (yl_move rfl (HF.ev rfl)) ?_; clear HF; clear a; intro a HF
          refine ws_y rfl HF rfl rfl (yl_nilCheck rfl (HF.ev rfl)) ?_; clear HF; clear a; intro a HF
          refine ws_y rfl HF rfl rfl (yl_fieldAddr (j := 1) rfl (HF.ev rfl) (by kernel_rfl)) ?_; clear HF; clear a; intro a HF
          refine ws_y rfl HF rfl rfl (yl_load (v := .int .i64 c.fGoal) rfl (HF.ev rfl) (((HS.out.box 0 rfl).cell 1).trans rfl) (by kernel_rfl)) ?_; clear HF; clear a; intro a HF
          refine ws_y rfl HF rfl rfl (yl_move rfl (HF.ev rfl)) ?_; clear HF; clear a; intro a HF
          refine ws_y rfl HF rfl rfl (yl_move rfl (HF.ev rfl)) ?_; clear HF; clear a; intro a HF
          refine ws_y rfl HF rfl rfl (yl_quoI rfl (HF.ev rfl) (HF.ev rfl) (by omega) (quo_pos (by omega) (by omega) (by omega))) ?_; clear HF; clear a; intro a HF
          refine ws_y rfl HF rfl rfl (yl_maxI rfl (HF.ev rfl) (HF.ev rfl)) ?_; clear HF; clear a; intro a HF
          refine ws_y rfl HF rfl rfl (yl_subI rfl (HF.ev rfl) (HF.ev rfl) (i64w (by omega))) ?_; clear HF; clear a; intro a HF
          refine ws_y rfl HF rfl rfl (yl_maxI rfl (HF.ev rfl) (HF.ev rfl)) ?_; clear HF; clear a; intro a HF
          refine ws_y rfl HF rfl rfl (yl_nilCheck rfl (HF.ev rfl)) ?_; clear HF; clear a; intro a HF
          refine ws_y rfl HF rfl rfl (yl_fieldAddr (j := 1) rfl (HF.ev rfl) (by kernel_rfl)) ?_; clear HF; clear a; intro a HF
          refine wpStill_nil ?_
          refine wl_storeF rfl rfl rfl (HF.ev rfl) (HF.ev rfl) (by kernel_rfl) HS.out 0 rfl rfl rfl ?_; clear HS; intro w19 HS; replace HS := Bx.mk HS
          have HS : Bx (St w0 (boxA b 6 48 (.agg #[.int .i64 c.fRoom, .int .i64 (max (0 : Int) (c.fGoal - (max (1 : Int) ((c.fPast.length : Int) / (c.fFormer.length : Int))))), .slice a2 c.fOnce.length c2, .slice a3 c.fOften.length c3, .slice a4 c.fPast.length c4, .slice a5 ((c.fFormer.erase r).length) c5]) :: rowA encI 1 3 (.slice a2 c.fOnce.length c2) c.fOnce :: rowA encI 1 3 (.slice a3 c.fOften.length c3) c.fOften :: rowA encI 1 3 (.slice a4 c.fPast.length c4) c.fPast :: rowA encI 1 3 (.slice a5 ((c.fFormer.erase r).length) c5) (c.fFormer.erase r) :: F) _) := HS
          refine wpList_nil ?_
          refine ex_then ?_
          refine wp_seq ?_
          refine wp_region_lit ?_
          refine wl_y rfl HF rfl rfl (yl_move rfl (HF.ev rfl)) ?_; clear HF; clear a; intro a HF
          replace HS : Bx (St w0 (boxA b 6 48 (.agg #[.int .i64 c.fRoom, .int .i64 (max (0 : Int) (c.fGoal - (max (1 : Int) ((c.fPast.length : Int) / (c.fFormer.length : Int))))), .slice a2 c.fOnce.length c2, .slice a3 c.fOften.length c3, .slice a4 c.fPast.length c4, .slice a5 ((c.fFormer.erase r).length) c5]) :: rowA encI 1 3 (.slice a2 c.fOnce.length c2) c.fOnce :: rowA encI 1 3 (.slice a3 c.fOften.length c3) c.fOften :: rowA encI 1 3 (.slice a4 c.fPast.length c4) c.fPast :: rowA encI 1 3 (.slice a5 ((c.fFormer.erase r).length) c5) (c.fFormer.erase r) :: F) _) := ⟨(((((HS.out).pick 4 rfl).pick 4 rfl).pick 4 rfl).pick 4 rfl).pick 4 rfl⟩
          obtain ⟨x, hx⟩ : ∃ x : CacheD, x = { c with fFormer := c.fFormer.erase r, fGoal := c.down } := ⟨_, rfl⟩
          have hcs : CacheS w0 b ({ c with fFormer := c.fFormer.erase r, fGoal := c.down }) F _ := ⟨_, _, _, _, _, _, _, _, HS.out⟩; rw [← hx] at hcs
          refine wl_call rfl HF rfl (enter_of Try.func112 (by kernel_rfl) rfl) (args := #[.pointer (some ⟨b, 0, none⟩), .bool true]) rfl (way_any w0 _ b x true F (by rw [hx]; first | omega | (simp; omega)) (by rw [hx]; first | omega | (simp; omega)) (by rw [hx]; first | omega | (simp; omega)) (by rw [hx]; first | omega | (simp; omega)) (by rw [hx]; first | omega | (simp; omega)) hcs) rfl rfl ?_
          rintro _ w20 ⟨rfl, hs1⟩
          have hdl := way_le x true
          obtain ⟨d, hd⟩ : ∃ d, d = x.wayC true := ⟨_, rfl⟩; rw [← hd] at hs1 hdl; obtain ⟨d2, f2, d3, f3, d4, f4, d5, f5, hs1⟩ := hs1
          have hd2 : d.fOnce.length ≤ 100 := Nat.le_trans hdl.1 (by rw [hx]; first | omega | (simp; omega)); have hd3 : d.fOften.length ≤ 100 := Nat.le_trans hdl.2 (by rw [hx]; first | omega | (simp; omega)); rw [hx] at hd; clear hdl hcs hx
          refine ⟨_, rfl, ?_⟩; replace HS := Bx.mk hs1; clear hs1 HF; clear a; intro a HF
          refine wpList_nil ?_
          refine ex_then ?_
          refine wp_seq ?_
          refine wp_region_lit ?_
          refine wl_y rfl HF rfl rfl (yl_move rfl (HF.ev rfl)) ?_; clear HF; clear a; intro a HF
          refine wl_y rfl HF rfl rfl (yl_nilCheck rfl (HF.ev rfl)) ?_; clear HF; clear a; intro a HF
          refine wl_y rfl HF rfl rfl (yl_fieldAddr (j := 3) rfl (HF.ev rfl) (by kernel_rfl)) ?_; clear HF; clear a; intro a HF
          refine wl_y rfl HF rfl rfl (yl_move rfl (HF.ev rfl)) ?_; clear HF; clear a; intro a HF
          replace HS : Bx (St w0 (boxA b 6 48 (.agg #[.int .i64 d.fRoom, .int .i64 d.fGoal, .slice d2 d.fOnce.length f2, .slice d3 d.fOften.length f3, .slice d4 d.fPast.length f4, .slice d5 d.fFormer.length f5]) :: rowA encI 1 3 (.slice d3 d.fOften.length f3) d.fOften :: rowA encI 1 3 (.slice d2 d.fOnce.length f2) d.fOnce :: rowA encI 1 3 (.slice d4 d.fPast.length f4) d.fPast :: rowA encI 1 3 (.slice d5 d.fFormer.length f5) d.fFormer :: F) _) := ⟨((HS.out).pick 2 rfl).pick 1 rfl⟩
          refine wl_call rfl HF rfl (enter_of Try.func111 (by kernel_rfl) rfl) (args := #[.pointer (some ⟨b, 0 + 3, none⟩), .int .i64 r]) rfl (front_any w0 _ b (0 + 3) _ _ _ d.fOften r _ rfl (by first | omega | (simp; omega)) HS.out) rfl rfl ?_
          rintro _ w21 ⟨rfl, ao9, cp10, hs1⟩
          refine ⟨_, rfl, ?_⟩; replace HS := Bx.mk hs1; clear hs1 HF; clear a; intro a HF
          replace HS : Bx (St w0 (boxA b 6 48 (.agg #[.int .i64 d.fRoom, .int .i64 d.fGoal, .slice d2 d.fOnce.length f2, .slice ao9 (d.fOften.length + 1) cp10, .slice d4 d.fPast.length f4, .slice d5 d.fFormer.length f5]) :: rowA encI 1 3 (.slice ao9 (d.fOften.length + 1) cp10) (r :: d.fOften) :: rowA encI 1 3 (.slice d2 d.fOnce.length f2) d.fOnce :: rowA encI 1 3 (.slice d4 d.fPast.length f4) d.fPast :: rowA encI 1 3 (.slice d5 d.fFormer.length f5) d.fFormer :: F) _) := ⟨HS.out⟩
          replace HS : Bx (St w0 (boxA b 6 48 (.agg #[.int .i64 d.fRoom, .int .i64 d.fGoal, .slice d2 d.fOnce.length f2, .slice ao9 (d.fOften.length + 1) cp10, .slice d4 d.fPast.length f4, .slice d5 d.fFormer.length f5]) :: rowA encI 1 3 (.slice d2 d.fOnce.length f2) d.fOnce :: rowA encI 1 3 (.slice ao9 (d.fOften.length + 1) cp10) (r :: d.fOften) :: rowA encI 1 3 (.slice d4 d.fPast.length f4) d.fPast :: rowA encI 1 3 (.slice d5 d.fFormer.length f5) d.fFormer :: F) _) := ⟨(((((HS.out).pick 4 rfl).pick 4 rfl).pick 3 rfl).pick 4 rfl).pick 4 rfl⟩
          refine wpList_nil ?_
          refine ex_then ?_
          refine wp_seq ?_
          refine wp_region_lit ?_
          refine wl_y rfl HF rfl rfl (yl_assign rfl (HF.ev rfl)) ?_; clear HF; clear a; intro a HF
          refine wpList_nil ?_
          refine ex_then ?_
          refine wp_ret ?_
          refine ex_block_ret ?_
          refine ex_then_ret ?_
          refine bp_ret1 HF Try.results64 (HF.res rfl) ?_
          replace HS : Bx (St w0 (boxA b 6 48 (.agg #[.int .i64 d.fRoom, .int .i64 d.fGoal, .slice d2 d.fOnce.length f2, .slice ao9 (d.fOften.length + 1) cp10, .slice d4 d.fPast.length f4, .slice d5 d.fFormer.length f5]) :: rowA encI 1 3 (.slice d2 d.fOnce.length f2) d.fOnce :: rowA encI 1 3 (.slice ao9 (d.fOften.length + 1) cp10) (r :: d.fOften) :: rowA encI 1 3 (.slice d4 d.fPast.length f4) d.fPast :: rowA encI 1 3 (.slice d5 d.fFormer.length f5) d.fFormer :: F) _) := ⟨(((((HS.out).pick 4 rfl).pick 4 rfl).pick 4 rfl).pick 4 rfl).pick 4 rfl⟩
          have ha : c.askI r = ({ d with fOften := r :: d.fOften }, false) := by simp only [CacheD.askI, hin2, hin3, hin4, hin5, if_true, Bool.false_eq_true, if_false]; rw [← hd]
          rw [ha]; exact ⟨rfl, _, _, _, _, _, _, _, _, HS.out⟩
      · skip
        refine ⟨_, rfl, ?_⟩; replace HS := Bx.mk hs1; clear hs1 HF; clear a; intro a HF
        replace HS : Bx (St w0 (boxA b 6 48 (.agg #[.int .i64 c.fRoom, .int .i64 c.fGoal, .slice a2 c.fOnce.length c2, .slice a3 c.fOften.length c3, .slice a4 ((c.fPast.erase r).length) c4, .slice a5 c.fFormer.length c5]) :: rowA encI 1 3 (.slice a4 ((c.fPast.erase r).length) c4) (c.fPast.erase r) :: rowA encI 1 3 (.slice a2 c.fOnce.length c2) c.fOnce :: rowA encI 1 3 (.slice a3 c.fOften.length c3) c.fOften :: rowA encI 1 3 (.slice a5 c.fFormer.length c5) c.fFormer :: F) _) := ⟨HS.out⟩
        replace HS : Bx (St w0 (boxA b 6 48 (.agg #[.int .i64 c.fRoom, .int .i64 c.fGoal, .slice a2 c.fOnce.length c2, .slice a3 c.fOften.length c3, .slice a4 ((c.fPast.erase r).length) c4, .slice a5 c.fFormer.length c5]) :: rowA encI 1 3 (.slice a2 c.fOnce.length c2) c.fOnce :: rowA encI 1 3 (.slice a3 c.fOften.length c3) c.fOften :: rowA encI 1 3 (.slice a4 ((c.fPast.erase r).length) c4) (c.fPast.erase r) :: rowA encI 1 3 (.slice a5 c.fFormer.length c5) c.fFormer :: F) _) := ⟨(((((HS.out).pick 4 rfl).pick 2 rfl).pick 4 rfl).pick 4 rfl).pick 4 rfl⟩
        have hps := inI_pos hin4; have hel : (c.fPast.erase r).length ≤ c.fPast.length := List.length_erase_le
        refine wl_y rfl HF rfl rfl (yl_assign rfl (HF.ev rfl)) ?_; clear HF; clear a; intro a HF
        refine wpList_nil ?_
        refine ex_then ?_
        refine wc_true HF rfl ?_
        refine wp_seq ?_
        have hdv := div_le c.fFormer.length c.fPast.length
        refine wr_tail 17 (by kernel_rfl) (by kernel_rfl) HS.out ?_
        simp only [List.take_succ_cons, List.take_zero, List.drop_succ_cons, List.drop_zero]
        intro w22 HS
        replace HS := Bx.mk HS
        refine ws_y rfl HF rfl rfl (yl_move rfl (HF.ev rfl)) ?_; clear HF; clear a; intro a HF
        refine ws_y rfl HF rfl rfl (yl_move rfl (HF.ev rfl)) ?_; clear HF; clear a; intro a HF
        refine ws_y rfl HF rfl rfl (yl_nilCheck rfl (HF.ev rfl)) ?_; clear HF; clear a; intro a HF
        refine ws_y rfl HF rfl rfl (yl_fieldAddr (j := 0) rfl (HF.ev rfl) (by kernel_rfl)) ?_; clear HF; clear a; intro a HF
        refine ws_y rfl HF rfl rfl (yl_load (v := .int .i64 c.fRoom) rfl (HF.ev rfl) (((HS.out.box 0 rfl).cell 0).trans rfl) (by kernel_rfl)) ?_; clear HF; clear a; intro a HF
        refine ws_y rfl HF rfl rfl (yl_move rfl (HF.ev rfl)) ?_; clear HF; clear a; intro a HF
        refine ws_y rfl HF rfl rfl (yl_nilCheck rfl (HF.ev rfl)) ?_; clear HF; clear a; intro a HF
        refine ws_y rfl HF rfl rfl (yl_fieldAddr (j := 1) rfl (HF.ev rfl) (by kernel_rfl)) ?_; clear HF; clear a; intro a HF
        refine ws_y rfl HF rfl rfl (yl_load (v := .int .i64 c.fGoal) rfl (HF.ev rfl) (((HS.out.box 0 rfl).cell 1).trans rfl) (by kernel_rfl)) ?_; clear HF; clear a; intro a HF
        refine ws_y rfl HF rfl rfl (yl_move rfl (HF.ev rfl)) ?_; clear HF; clear a; intro a HF
        refine ws_y rfl HF rfl rfl (yl_move rfl (HF.ev rfl)) ?_; clear HF; clear a; intro a HF
        refine ws_y rfl HF rfl rfl (yl_quoI rfl (HF.ev rfl) (HF.ev rfl) (by omega) (quo_pos (by omega) (by omega) (by omega))) ?_; clear HF; clear a; intro a HF
        refine ws_y rfl HF rfl rfl (yl_maxI rfl (HF.ev rfl) (HF.ev rfl)) ?_; clear HF; clear a; intro a HF
        refine ws_y rfl HF rfl rfl (yl_addI rfl (HF.ev rfl) (HF.ev rfl) (i64w (by omega))) ?_; clear HF; clear a; intro a HF
        refine ws_y rfl HF rfl rfl (yl_minI rfl (HF.ev rfl) (HF.ev rfl)) ?_; clear HF; clear a; intro a HF
        refine ws_y rfl HF rfl rfl (yl_nilCheck rfl (HF.ev rfl)) ?_; clear HF; clear a; intro a HF
        refine ws_y rfl HF rfl rfl (yl_fieldAddr (j := 1) rfl (HF.ev rfl) (by kernel_rfl)) ?_; clear HF; clear a; intro a HF
        refine wpStill_nil ?_
        refine wl_storeF rfl rfl rfl (HF.ev rfl) (HF.ev rfl) (by kernel_rfl) HS.out 0 rfl rfl rfl ?_; clear HS; intro w23 HS; replace HS := Bx.mk HS
        have HS : Bx (St w0 (boxA b 6 48 (.agg #[.int .i64 c.fRoom, .int .i64 (min c.fRoom (c.fGoal + (max (1 : Int) ((c.fFormer.length : Int) / (c.fPast.length : Int))))), .slice a2 c.fOnce.length c2, .slice a3 c.fOften.length c3, .slice a4 ((c.fPast.erase r).length) c4, .slice a5 c.fFormer.length c5]) :: rowA encI 1 3 (.slice a2 c.fOnce.length c2) c.fOnce :: rowA encI 1 3 (.slice a3 c.fOften.length c3) c.fOften :: rowA encI 1 3 (.slice a4 ((c.fPast.erase r).length) c4) (c.fPast.erase r) :: rowA encI 1 3 (.slice a5 c.fFormer.length c5) c.fFormer :: F) _) := HS
        refine wpList_nil ?_
        refine ex_then ?_
        refine wp_seq ?_
        refine wp_region_lit ?_
        refine wl_y rfl HF rfl rfl (yl_move rfl (HF.ev rfl)) ?_; clear HF; clear a; intro a HF
        replace HS : Bx (St w0 (boxA b 6 48 (.agg #[.int .i64 c.fRoom, .int .i64 (min c.fRoom (c.fGoal + (max (1 : Int) ((c.fFormer.length : Int) / (c.fPast.length : Int))))), .slice a2 c.fOnce.length c2, .slice a3 c.fOften.length c3, .slice a4 ((c.fPast.erase r).length) c4, .slice a5 c.fFormer.length c5]) :: rowA encI 1 3 (.slice a2 c.fOnce.length c2) c.fOnce :: rowA encI 1 3 (.slice a3 c.fOften.length c3) c.fOften :: rowA encI 1 3 (.slice a4 ((c.fPast.erase r).length) c4) (c.fPast.erase r) :: rowA encI 1 3 (.slice a5 c.fFormer.length c5) c.fFormer :: F) _) := ⟨(((((HS.out).pick 4 rfl).pick 4 rfl).pick 4 rfl).pick 4 rfl).pick 4 rfl⟩
        obtain ⟨x, hx⟩ : ∃ x : CacheD, x = { c with fPast := c.fPast.erase r, fGoal := c.up } := ⟨_, rfl⟩
        have hcs : CacheS w0 b ({ c with fPast := c.fPast.erase r, fGoal := c.up }) F _ := ⟨_, _, _, _, _, _, _, _, HS.out⟩; rw [← hx] at hcs
        refine wl_call rfl HF rfl (enter_of Try.func112 (by kernel_rfl) rfl) (args := #[.pointer (some ⟨b, 0, none⟩), .bool false]) rfl (way_any w0 _ b x false F (by rw [hx]; first | omega | (simp; omega)) (by rw [hx]; first | omega | (simp; omega)) (by rw [hx]; first | omega | (simp; omega)) (by rw [hx]; first | omega | (simp; omega)) (by rw [hx]; first | omega | (simp; omega)) hcs) rfl rfl ?_
        rintro _ w24 ⟨rfl, hs1⟩
        have hdl := way_le x false
        obtain ⟨d, hd⟩ : ∃ d, d = x.wayC false := ⟨_, rfl⟩; rw [← hd] at hs1 hdl; obtain ⟨d2, f2, d3, f3, d4, f4, d5, f5, hs1⟩ := hs1
        have hd2 : d.fOnce.length ≤ 100 := Nat.le_trans hdl.1 (by rw [hx]; first | omega | (simp; omega)); have hd3 : d.fOften.length ≤ 100 := Nat.le_trans hdl.2 (by rw [hx]; first | omega | (simp; omega)); rw [hx] at hd; clear hdl hcs hx
        refine ⟨_, rfl, ?_⟩; replace HS := Bx.mk hs1; clear hs1 HF; clear a; intro a HF
        refine wpList_nil ?_
        refine ex_then ?_
        refine wp_seq ?_
        refine wp_region_lit ?_
        refine wl_y rfl HF rfl rfl (yl_move rfl (HF.ev rfl)) ?_; clear HF; clear a; intro a HF
        refine wl_y rfl HF rfl rfl (yl_nilCheck rfl (HF.ev rfl)) ?_; clear HF; clear a; intro a HF
        refine wl_y rfl HF rfl rfl (yl_fieldAddr (j := 3) rfl (HF.ev rfl) (by kernel_rfl)) ?_; clear HF; clear a; intro a HF
        refine wl_y rfl HF rfl rfl (yl_move rfl (HF.ev rfl)) ?_; clear HF; clear a; intro a HF
        replace HS : Bx (St w0 (boxA b 6 48 (.agg #[.int .i64 d.fRoom, .int .i64 d.fGoal, .slice d2 d.fOnce.length f2, .slice d3 d.fOften.length f3, .slice d4 d.fPast.length f4, .slice d5 d.fFormer.length f5]) :: rowA encI 1 3 (.slice d3 d.fOften.length f3) d.fOften :: rowA encI 1 3 (.slice d2 d.fOnce.length f2) d.fOnce :: rowA encI 1 3 (.slice d4 d.fPast.length f4) d.fPast :: rowA encI 1 3 (.slice d5 d.fFormer.length f5) d.fFormer :: F) _) := ⟨((HS.out).pick 2 rfl).pick 1 rfl⟩
        refine wl_call rfl HF rfl (enter_of Try.func111 (by kernel_rfl) rfl) (args := #[.pointer (some ⟨b, 0 + 3, none⟩), .int .i64 r]) rfl (front_any w0 _ b (0 + 3) _ _ _ d.fOften r _ rfl (by first | omega | (simp; omega)) HS.out) rfl rfl ?_
        rintro _ w25 ⟨rfl, ao11, cp12, hs1⟩
        refine ⟨_, rfl, ?_⟩; replace HS := Bx.mk hs1; clear hs1 HF; clear a; intro a HF
        replace HS : Bx (St w0 (boxA b 6 48 (.agg #[.int .i64 d.fRoom, .int .i64 d.fGoal, .slice d2 d.fOnce.length f2, .slice ao11 (d.fOften.length + 1) cp12, .slice d4 d.fPast.length f4, .slice d5 d.fFormer.length f5]) :: rowA encI 1 3 (.slice ao11 (d.fOften.length + 1) cp12) (r :: d.fOften) :: rowA encI 1 3 (.slice d2 d.fOnce.length f2) d.fOnce :: rowA encI 1 3 (.slice d4 d.fPast.length f4) d.fPast :: rowA encI 1 3 (.slice d5 d.fFormer.length f5) d.fFormer :: F) _) := ⟨HS.out⟩
        replace HS : Bx (St w0 (boxA b 6 48 (.agg #[.int .i64 d.fRoom, .int .i64 d.fGoal, .slice d2 d.fOnce.length f2, .slice ao11 (d.fOften.length + 1) cp12, .slice d4 d.fPast.length f4, .slice d5 d.fFormer.length f5]) :: rowA encI 1 3 (.slice d2 d.fOnce.length f2) d.fOnce :: rowA encI 1 3 (.slice ao11 (d.fOften.length + 1) cp12) (r :: d.fOften) :: rowA encI 1 3 (.slice d4 d.fPast.length f4) d.fPast :: rowA encI 1 3 (.slice d5 d.fFormer.length f5) d.fFormer :: F) _) := ⟨(((((HS.out).pick 4 rfl).pick 4 rfl).pick 3 rfl).pick 4 rfl).pick 4 rfl⟩
        refine wpList_nil ?_
        refine ex_then ?_
        refine wp_seq ?_
        refine wp_region_lit ?_
        refine wl_y rfl HF rfl rfl (yl_assign rfl (HF.ev rfl)) ?_; clear HF; clear a; intro a HF
        refine wpList_nil ?_
        refine ex_then ?_
        refine wp_ret ?_
        refine ex_block_ret ?_
        refine ex_then_ret ?_
        refine bp_ret1 HF Try.results64 (HF.res rfl) ?_
        replace HS : Bx (St w0 (boxA b 6 48 (.agg #[.int .i64 d.fRoom, .int .i64 d.fGoal, .slice d2 d.fOnce.length f2, .slice ao11 (d.fOften.length + 1) cp12, .slice d4 d.fPast.length f4, .slice d5 d.fFormer.length f5]) :: rowA encI 1 3 (.slice d2 d.fOnce.length f2) d.fOnce :: rowA encI 1 3 (.slice ao11 (d.fOften.length + 1) cp12) (r :: d.fOften) :: rowA encI 1 3 (.slice d4 d.fPast.length f4) d.fPast :: rowA encI 1 3 (.slice d5 d.fFormer.length f5) d.fFormer :: F) _) := ⟨(((((HS.out).pick 4 rfl).pick 4 rfl).pick 4 rfl).pick 4 rfl).pick 4 rfl⟩
        have ha : c.askI r = ({ d with fOften := r :: d.fOften }, false) := by simp only [CacheD.askI, hin2, hin3, hin4, if_true, Bool.false_eq_true, if_false]; rw [← hd]
        rw [ha]; exact ⟨rfl, _, _, _, _, _, _, _, _, HS.out⟩
    · skip
      refine ⟨_, rfl, ?_⟩; replace HS := Bx.mk hs1; clear hs1 HF; clear a; intro a HF
      replace HS : Bx (St w0 (boxA b 6 48 (.agg #[.int .i64 c.fRoom, .int .i64 c.fGoal, .slice a2 c.fOnce.length c2, .slice a3 ((c.fOften.erase r).length) c3, .slice a4 c.fPast.length c4, .slice a5 c.fFormer.length c5]) :: rowA encI 1 3 (.slice a3 ((c.fOften.erase r).length) c3) (c.fOften.erase r) :: rowA encI 1 3 (.slice a2 c.fOnce.length c2) c.fOnce :: rowA encI 1 3 (.slice a4 c.fPast.length c4) c.fPast :: rowA encI 1 3 (.slice a5 c.fFormer.length c5) c.fFormer :: F) _) := ⟨HS.out⟩
      replace HS : Bx (St w0 (boxA b 6 48 (.agg #[.int .i64 c.fRoom, .int .i64 c.fGoal, .slice a2 c.fOnce.length c2, .slice a3 ((c.fOften.erase r).length) c3, .slice a4 c.fPast.length c4, .slice a5 c.fFormer.length c5]) :: rowA encI 1 3 (.slice a2 c.fOnce.length c2) c.fOnce :: rowA encI 1 3 (.slice a3 ((c.fOften.erase r).length) c3) (c.fOften.erase r) :: rowA encI 1 3 (.slice a4 c.fPast.length c4) c.fPast :: rowA encI 1 3 (.slice a5 c.fFormer.length c5) c.fFormer :: F) _) := ⟨(((((HS.out).pick 4 rfl).pick 4 rfl).pick 3 rfl).pick 4 rfl).pick 4 rfl⟩
      have hps := inI_pos hin3; have hel : (c.fOften.erase r).length ≤ c.fOften.length := List.length_erase_le
      refine wl_y rfl HF rfl rfl (yl_pick_f rfl (HF.ev rfl) (HF.ev rfl)) ?_; clear HF; clear a; intro a HF
      refine wl_y rfl HF rfl rfl (yl_assign rfl (HF.ev rfl)) ?_; clear HF; clear a; intro a HF
      refine wpList_nil ?_
      refine ex_then ?_
      refine wc_true HF rfl ?_
      refine wp_seq ?_
      refine wp_region_lit ?_
      refine wl_y rfl HF rfl rfl (yl_move rfl (HF.ev rfl)) ?_; clear HF; clear a; intro a HF
      refine wl_y rfl HF rfl rfl (yl_nilCheck rfl (HF.ev rfl)) ?_; clear HF; clear a; intro a HF
      refine wl_y rfl HF rfl rfl (yl_fieldAddr (j := 3) rfl (HF.ev rfl) (by kernel_rfl)) ?_; clear HF; clear a; intro a HF
      refine wl_y rfl HF rfl rfl (yl_move rfl (HF.ev rfl)) ?_; clear HF; clear a; intro a HF
      replace HS : Bx (St w0 (boxA b 6 48 (.agg #[.int .i64 c.fRoom, .int .i64 c.fGoal, .slice a2 c.fOnce.length c2, .slice a3 ((c.fOften.erase r).length) c3, .slice a4 c.fPast.length c4, .slice a5 c.fFormer.length c5]) :: rowA encI 1 3 (.slice a3 ((c.fOften.erase r).length) c3) (c.fOften.erase r) :: rowA encI 1 3 (.slice a2 c.fOnce.length c2) c.fOnce :: rowA encI 1 3 (.slice a4 c.fPast.length c4) c.fPast :: rowA encI 1 3 (.slice a5 c.fFormer.length c5) c.fFormer :: F) _) := ⟨((HS.out).pick 2 rfl).pick 1 rfl⟩
      refine wl_call rfl HF rfl (enter_of Try.func111 (by kernel_rfl) rfl) (args := #[.pointer (some ⟨b, 0 + 3, none⟩), .int .i64 r]) rfl (front_any w0 _ b (0 + 3) _ _ _ (c.fOften.erase r) r _ rfl (by first | omega | (simp; omega)) HS.out) rfl rfl ?_
      rintro _ w26 ⟨rfl, ao13, cp14, hs1⟩
      refine ⟨_, rfl, ?_⟩; replace HS := Bx.mk hs1; clear hs1 HF; clear a; intro a HF
      replace HS : Bx (St w0 (boxA b 6 48 (.agg #[.int .i64 c.fRoom, .int .i64 c.fGoal, .slice a2 c.fOnce.length c2, .slice ao13 ((c.fOften.erase r).length + 1) cp14, .slice a4 c.fPast.length c4, .slice a5 c.fFormer.length c5]) :: rowA encI 1 3 (.slice ao13 ((c.fOften.erase r).length + 1) cp14) (r :: (c.fOften.erase r)) :: rowA encI 1 3 (.slice a2 c.fOnce.length c2) c.fOnce :: rowA encI 1 3 (.slice a4 c.fPast.length c4) c.fPast :: rowA encI 1 3 (.slice a5 c.fFormer.length c5) c.fFormer :: F) _) := ⟨HS.out⟩
      replace HS : Bx (St w0 (boxA b 6 48 (.agg #[.int .i64 c.fRoom, .int .i64 c.fGoal, .slice a2 c.fOnce.length c2, .slice ao13 ((c.fOften.erase r).length + 1) cp14, .slice a4 c.fPast.length c4, .slice a5 c.fFormer.length c5]) :: rowA encI 1 3 (.slice a2 c.fOnce.length c2) c.fOnce :: rowA encI 1 3 (.slice ao13 ((c.fOften.erase r).length + 1) cp14) (r :: (c.fOften.erase r)) :: rowA encI 1 3 (.slice a4 c.fPast.length c4) c.fPast :: rowA encI 1 3 (.slice a5 c.fFormer.length c5) c.fFormer :: F) _) := ⟨(((((HS.out).pick 4 rfl).pick 4 rfl).pick 3 rfl).pick 4 rfl).pick 4 rfl⟩
      refine wpList_nil ?_
      refine ex_then ?_
      refine wp_seq ?_
      refine wp_region_lit ?_
      refine wl_y rfl HF rfl rfl (yl_assign rfl (HF.ev rfl)) ?_; clear HF; clear a; intro a HF
      refine wpList_nil ?_
      refine ex_then ?_
      refine wp_ret ?_
      refine ex_block_ret ?_
      refine ex_then_ret ?_
      refine bp_ret1 HF Try.results64 (HF.res rfl) ?_
      replace HS : Bx (St w0 (boxA b 6 48 (.agg #[.int .i64 c.fRoom, .int .i64 c.fGoal, .slice a2 c.fOnce.length c2, .slice ao13 ((c.fOften.erase r).length + 1) cp14, .slice a4 c.fPast.length c4, .slice a5 c.fFormer.length c5]) :: rowA encI 1 3 (.slice a2 c.fOnce.length c2) c.fOnce :: rowA encI 1 3 (.slice ao13 ((c.fOften.erase r).length + 1) cp14) (r :: (c.fOften.erase r)) :: rowA encI 1 3 (.slice a4 c.fPast.length c4) c.fPast :: rowA encI 1 3 (.slice a5 c.fFormer.length c5) c.fFormer :: F) _) := ⟨(((((HS.out).pick 4 rfl).pick 4 rfl).pick 4 rfl).pick 4 rfl).pick 4 rfl⟩
      have ha : c.askI r = ({ c with fOften := r :: c.fOften.erase r }, true) := by simp only [CacheD.askI, hin2, hin3, if_true, Bool.false_eq_true, if_false]
      rw [ha]; exact ⟨rfl, _, _, _, _, _, _, _, _, HS.out⟩
  · skip
    refine ⟨_, rfl, ?_⟩; replace HS := Bx.mk hs1; clear hs1 HF; clear a; intro a HF
    replace HS : Bx (St w0 (boxA b 6 48 (.agg #[.int .i64 c.fRoom, .int .i64 c.fGoal, .slice a2 ((c.fOnce.erase r).length) c2, .slice a3 c.fOften.length c3, .slice a4 c.fPast.length c4, .slice a5 c.fFormer.length c5]) :: rowA encI 1 3 (.slice a2 ((c.fOnce.erase r).length) c2) (c.fOnce.erase r) :: rowA encI 1 3 (.slice a3 c.fOften.length c3) c.fOften :: rowA encI 1 3 (.slice a4 c.fPast.length c4) c.fPast :: rowA encI 1 3 (.slice a5 c.fFormer.length c5) c.fFormer :: F) _) := ⟨HS.out⟩
    replace HS : Bx (St w0 (boxA b 6 48 (.agg #[.int .i64 c.fRoom, .int .i64 c.fGoal, .slice a2 ((c.fOnce.erase r).length) c2, .slice a3 c.fOften.length c3, .slice a4 c.fPast.length c4, .slice a5 c.fFormer.length c5]) :: rowA encI 1 3 (.slice a2 ((c.fOnce.erase r).length) c2) (c.fOnce.erase r) :: rowA encI 1 3 (.slice a3 c.fOften.length c3) c.fOften :: rowA encI 1 3 (.slice a4 c.fPast.length c4) c.fPast :: rowA encI 1 3 (.slice a5 c.fFormer.length c5) c.fFormer :: F) _) := ⟨(((((HS.out).pick 4 rfl).pick 4 rfl).pick 4 rfl).pick 4 rfl).pick 4 rfl⟩
    have hps := inI_pos hin2; have hel : (c.fOnce.erase r).length ≤ c.fOnce.length := List.length_erase_le
    refine wl_y rfl HF rfl rfl (yl_move rfl (HF.ev rfl)) ?_; clear HF; clear a; intro a HF
    refine wl_skip HF rfl rfl rfl rfl rfl rfl ?_; clear HF; clear a; intro a HF
    refine wl_skip HF rfl rfl rfl rfl rfl rfl ?_; clear HF; clear a; intro a HF
    refine wl_skip HF rfl rfl rfl rfl rfl rfl ?_; clear HF; clear a; intro a HF
    refine wl_skip HF rfl rfl rfl rfl rfl rfl ?_; clear HF; clear a; intro a HF
    refine wl_skip HF rfl rfl rfl rfl rfl rfl ?_; clear HF; clear a; intro a HF
    refine wl_y rfl HF rfl rfl (yl_pick_t rfl (HF.ev rfl) (HF.ev rfl)) ?_; clear HF; clear a; intro a HF
    refine wl_y rfl HF rfl rfl (yl_assign rfl (HF.ev rfl)) ?_; clear HF; clear a; intro a HF
    refine wpList_nil ?_
    refine ex_then ?_
    refine wc_true HF rfl ?_
    refine wp_seq ?_
    refine wp_region_lit ?_
    refine wl_y rfl HF rfl rfl (yl_move rfl (HF.ev rfl)) ?_; clear HF; clear a; intro a HF
    refine wl_y rfl HF rfl rfl (yl_nilCheck rfl (HF.ev rfl)) ?_; clear HF; clear a; intro a HF
    refine wl_y rfl HF rfl rfl (yl_fieldAddr (j := 3) rfl (HF.ev rfl) (by kernel_rfl)) ?_; clear HF; clear a; intro a HF
    refine wl_y rfl HF rfl rfl (yl_move rfl (HF.ev rfl)) ?_; clear HF; clear a; intro a HF
    replace HS : Bx (St w0 (boxA b 6 48 (.agg #[.int .i64 c.fRoom, .int .i64 c.fGoal, .slice a2 ((c.fOnce.erase r).length) c2, .slice a3 c.fOften.length c3, .slice a4 c.fPast.length c4, .slice a5 c.fFormer.length c5]) :: rowA encI 1 3 (.slice a3 c.fOften.length c3) c.fOften :: rowA encI 1 3 (.slice a2 ((c.fOnce.erase r).length) c2) (c.fOnce.erase r) :: rowA encI 1 3 (.slice a4 c.fPast.length c4) c.fPast :: rowA encI 1 3 (.slice a5 c.fFormer.length c5) c.fFormer :: F) _) := ⟨((HS.out).pick 2 rfl).pick 1 rfl⟩
    refine wl_call rfl HF rfl (enter_of Try.func111 (by kernel_rfl) rfl) (args := #[.pointer (some ⟨b, 0 + 3, none⟩), .int .i64 r]) rfl (front_any w0 _ b (0 + 3) _ _ _ c.fOften r _ rfl (by first | omega | (simp; omega)) HS.out) rfl rfl ?_
    rintro _ w27 ⟨rfl, ao15, cp16, hs1⟩
    refine ⟨_, rfl, ?_⟩; replace HS := Bx.mk hs1; clear hs1 HF; clear a; intro a HF
    replace HS : Bx (St w0 (boxA b 6 48 (.agg #[.int .i64 c.fRoom, .int .i64 c.fGoal, .slice a2 ((c.fOnce.erase r).length) c2, .slice ao15 (c.fOften.length + 1) cp16, .slice a4 c.fPast.length c4, .slice a5 c.fFormer.length c5]) :: rowA encI 1 3 (.slice ao15 (c.fOften.length + 1) cp16) (r :: c.fOften) :: rowA encI 1 3 (.slice a2 ((c.fOnce.erase r).length) c2) (c.fOnce.erase r) :: rowA encI 1 3 (.slice a4 c.fPast.length c4) c.fPast :: rowA encI 1 3 (.slice a5 c.fFormer.length c5) c.fFormer :: F) _) := ⟨HS.out⟩
    replace HS : Bx (St w0 (boxA b 6 48 (.agg #[.int .i64 c.fRoom, .int .i64 c.fGoal, .slice a2 ((c.fOnce.erase r).length) c2, .slice ao15 (c.fOften.length + 1) cp16, .slice a4 c.fPast.length c4, .slice a5 c.fFormer.length c5]) :: rowA encI 1 3 (.slice a2 ((c.fOnce.erase r).length) c2) (c.fOnce.erase r) :: rowA encI 1 3 (.slice ao15 (c.fOften.length + 1) cp16) (r :: c.fOften) :: rowA encI 1 3 (.slice a4 c.fPast.length c4) c.fPast :: rowA encI 1 3 (.slice a5 c.fFormer.length c5) c.fFormer :: F) _) := ⟨(((((HS.out).pick 4 rfl).pick 4 rfl).pick 3 rfl).pick 4 rfl).pick 4 rfl⟩
    refine wpList_nil ?_
    refine ex_then ?_
    refine wp_seq ?_
    refine wp_region_lit ?_
    refine wl_y rfl HF rfl rfl (yl_assign rfl (HF.ev rfl)) ?_; clear HF; clear a; intro a HF
    refine wpList_nil ?_
    refine ex_then ?_
    refine wp_ret ?_
    refine ex_block_ret ?_
    refine ex_then_ret ?_
    refine bp_ret1 HF Try.results64 (HF.res rfl) ?_
    replace HS : Bx (St w0 (boxA b 6 48 (.agg #[.int .i64 c.fRoom, .int .i64 c.fGoal, .slice a2 ((c.fOnce.erase r).length) c2, .slice ao15 (c.fOften.length + 1) cp16, .slice a4 c.fPast.length c4, .slice a5 c.fFormer.length c5]) :: rowA encI 1 3 (.slice a2 ((c.fOnce.erase r).length) c2) (c.fOnce.erase r) :: rowA encI 1 3 (.slice ao15 (c.fOften.length + 1) cp16) (r :: c.fOften) :: rowA encI 1 3 (.slice a4 c.fPast.length c4) c.fPast :: rowA encI 1 3 (.slice a5 c.fFormer.length c5) c.fFormer :: F) _) := ⟨(((((HS.out).pick 4 rfl).pick 4 rfl).pick 4 rfl).pick 4 rfl).pick 4 rfl⟩
    have ha : c.askI r = ({ c with fOnce := c.fOnce.erase r, fOften := r :: c.fOften }, true) := by simp only [CacheD.askI, hin2, if_true, Bool.false_eq_true, if_false]
    rw [ha]; exact ⟨rfl, _, _, _, _, _, _, _, _, HS.out⟩

end Go.Proofs.Ytkgmilobmbeplaa
