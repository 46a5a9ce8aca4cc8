/- The cache, walked: CachePlay of the reference. -/
import Derived.Test.YtkgmilobmbeplaaCaH
namespace Go.Proofs.Ytkgmilobmbeplaa
open Go.RowKit

set_option maxHeartbeats 1000000 in
set_option maxRecDepth 100000 in
theorem specCachePlay_any (v : Value) (c : CacheD) (ao : Option Addr) (cap : Nat) (rs : List Int) (w0 : World) (hr : CacheD.Reads w0 v c) (hf : c.Fit) (hl : rs.length ≤ 1048576) (hR : Rd encI 1 w0 ao rs.length rs) : Calls Try.prog 22 #[v, .slice ao rs.length cap] w0 fun e w' => ∃ v', e = .returned (.tuple #[v', .int .i64 (c.play rs).2]) ∧ CacheD.Own w' w0.heap.size w'.heap.size v' (c.play rs).1 ∧ Below w0.heap.size w0 w' := by
  have HR := Bx.mk hr
  obtain ⟨a2, c2, a3, c3, a4, c4, a5, c5, rfl, _⟩ := hr
  obtain ⟨g0, o0, r0⟩ := hR.opn
  have RR := Bx.mk r0
  clear r0 hR
  have HS := Bx.mk (St.start w0)
  refine wc_enter Try.func22 rfl Try.ntmps22 [(0, .agg #[.int .i64 c.fRoom, .int .i64 c.fGoal, .slice a2 c.fOnce.length c2, .slice a3 c.fOften.length c3, .slice a4 c.fPast.length c4, .slice a5 c.fFormer.length c5]), (1, .slice ao rs.length cap)] ⟨rfl, rfl, trivial⟩ rfl ?_; intro a HF
  refine wp_seq ?_
  refine wp_region_lit ?_
  refine wl_box rfl HF rfl (HF.ev rfl) (Z := [.int .i64 c.fRoom, .int .i64 c.fGoal, .slice a2 c.fOnce.length c2, .slice a3 c.fOften.length c3, .slice a4 c.fPast.length c4, .slice a5 c.fFormer.length c5]) rfl rfl rfl rfl HS.out ?_; clear HF HS; clear a; intro a w1 b1 HF HS; replace HS := Bx.mk HS
  refine wl_alloc rfl HF rfl rfl rfl (Z := [.int .i64 0, .int .i64 0, .slice none 0 0, .slice none 0 0, .slice none 0 0, .slice none 0 0]) (by kernel_rfl) rfl HS.out ?_; clear HF HS; clear a; intro a w2 b2 HF HS; replace HS := Bx.mk HS
  refine wl_y rfl HF rfl rfl (yl_assign rfl (HF.ev rfl)) ?_; clear HF; clear a; intro a HF
  refine wpList_nil ?_
  refine ex_then ?_
  refine wp_seq ?_
  refine wp_seq ?_
  refine wp_region_lit ?_
  refine wl_y rfl HF rfl rfl (yl_loadR (cs := [.int .i64 c.fRoom, .int .i64 c.fGoal, .slice a2 c.fOnce.length c2, .slice a3 c.fOften.length c3, .slice a4 c.fPast.length c4, .slice a5 c.fFormer.length c5]) rfl (HF.ev rfl) ((HS.out.box 1 rfl).sub 0 6) (by kernel_rfl)) ?_; clear HF; clear a; intro a HF
  refine wl_callB rfl HF rfl (enter_of Try.func57 (by kernel_rfl) rfl) (args := #[.agg #[.int .i64 c.fRoom, .int .i64 c.fGoal, .slice a2 c.fOnce.length c2, .slice a3 c.fOften.length c3, .slice a4 c.fPast.length c4, .slice a5 c.fFormer.length c5]]) rfl (v := .bool c.ok) (specCacheOk_any _ c _ (HR.out.below HS.out.bel) hf) rfl rfl HS.out ?_; clear HF HS; clear a; intro w3 a HS HF; replace HS := Bx.mk HS
  refine wl_y rfl HF rfl rfl (yl_not rfl (HF.ev rfl)) ?_; clear HF; clear a; intro a HF
  refine wpList_nil ?_
  refine ex_then ?_
  refine HF.cases 13 rfl (fun cc1 HF1 => ?_) (fun cc1 HF1 => ?_)
  · clear HF; have HF := HF1; clear HF1
    have hok : c.ok = false := by simpa using cc1
    refine wc_true HF rfl ?_
    refine wp_seq ?_
    refine wp_region_lit ?_
    refine wl_y rfl HF rfl rfl (yl_build HF rfl (ps := []) rfl (cs := #[.int .i64 0, .int .i64 0, .slice none 0 0, .slice none 0 0, .slice none 0 0, .slice none 0 0]) (by kernel_rfl)) ?_; clear HF; clear a; intro a HF
    refine wl_storeBox rfl HF rfl rfl (HF.ev rfl) (HF.ev rfl) HS.out 0 rfl (cells_lit [.int .i64 0, .int .i64 0, .slice none 0 0, .slice none 0 0, .slice none 0 0, .slice none 0 0] rfl rfl) (by kernel_rfl) ?_; clear HS; intro w4 HS; replace HS := Bx.mk HS
    have HS : Bx (St w0 ([boxA b2 6 48 (.agg #[.int .i64 0, .int .i64 0, .slice none 0 0, .slice none 0 0, .slice none 0 0, .slice none 0 0]), boxA b1 6 48 (.agg #[.int .i64 c.fRoom, .int .i64 c.fGoal, .slice a2 c.fOnce.length c2, .slice a3 c.fOften.length c3, .slice a4 c.fPast.length c4, .slice a5 c.fFormer.length c5])]) _) := HS
    refine wl_y rfl HF rfl rfl (yl_assign rfl (HF.ev rfl)) ?_; clear HF; clear a; intro a HF
    refine wpList_nil ?_
    refine ex_then ?_
    refine wp_ret ?_
    refine ex_then_ret ?_
    refine bp_ret2 HF Try.results22 (HF.resBox rfl (HS.out.box 0 rfl) (by kernel_rfl)) (HF.res rfl) ?_
    have hpl : c.play rs = ({ fRoom := 0, fGoal := 0, fOnce := [], fOften := [], fPast := [], fFormer := [] }, -1) := by unfold CacheD.play; rw [hok]; rfl
    rw [hpl]; exact ⟨_, rfl, CacheD.own_zero HS.out, HS.out.bel⟩
  · clear HF; have HF := HF1; clear HF1
    have hok : c.ok = true := by simpa using cc1
    have hI := CacheD.ok_inv hok
    refine wc_false HF rfl ?_
    refine wp_skip ?_
    refine ex_then ?_
    refine wp_seq ?_
    refine wp_region_lit ?_
    refine wl_y rfl HF rfl rfl (yl_loadR (cs := [.int .i64 c.fRoom, .int .i64 c.fGoal, .slice a2 c.fOnce.length c2, .slice a3 c.fOften.length c3, .slice a4 c.fPast.length c4, .slice a5 c.fFormer.length c5]) rfl (HF.ev rfl) ((HS.out.box 1 rfl).sub 0 6) (by kernel_rfl)) ?_; clear HF; clear a; intro a HF
    refine wl_call rfl HF rfl (enter_of Try.func58 (by kernel_rfl) rfl) (args := #[.agg #[.int .i64 c.fRoom, .int .i64 c.fGoal, .slice a2 c.fOnce.length c2, .slice a3 c.fOften.length c3, .slice a4 c.fPast.length c4, .slice a5 c.fFormer.length c5]]) rfl (l27Copy_any _ c _ (HR.out.below HS.out.bel) hf) rfl rfl ?_
    rintro _ w5 ⟨_, rfl, ho, hb⟩
    obtain ⟨d2, f2, d3, f3, d4, f4, d5, f5, rfl, hn⟩ := CacheD.own_st ho hb
    refine ⟨_, rfl, ?_⟩; replace HS := Bx.mk (HS.out.add hn); clear ho hb hn HF; clear a; intro a HF
    replace HS : Bx (St w0 ([rowA encI 1 3 (.slice d2 c.fOnce.length f2) c.fOnce, rowA encI 1 3 (.slice d3 c.fOften.length f3) c.fOften, rowA encI 1 3 (.slice d4 c.fPast.length f4) c.fPast, rowA encI 1 3 (.slice d5 c.fFormer.length f5) c.fFormer, boxA b2 6 48 (.agg #[.int .i64 0, .int .i64 0, .slice none 0 0, .slice none 0 0, .slice none 0 0, .slice none 0 0]), boxA b1 6 48 (.agg #[.int .i64 c.fRoom, .int .i64 c.fGoal, .slice a2 c.fOnce.length c2, .slice a3 c.fOften.length c3, .slice a4 c.fPast.length c4, .slice a5 c.fFormer.length c5])]) _) := ⟨HS.out⟩
    refine wl_alloc rfl HF rfl rfl rfl (Z := [.int .i64 0, .int .i64 0, .slice none 0 0, .slice none 0 0, .slice none 0 0, .slice none 0 0]) (by kernel_rfl) rfl HS.out ?_; clear HF HS; clear a; intro a w6 b3 HF HS; replace HS := Bx.mk HS
    refine wl_storeBox rfl HF rfl rfl (HF.ev rfl) (HF.ev rfl) HS.out 0 rfl (cells_lit [.int .i64 c.fRoom, .int .i64 c.fGoal, .slice d2 c.fOnce.length f2, .slice d3 c.fOften.length f3, .slice d4 c.fPast.length f4, .slice d5 c.fFormer.length f5] rfl rfl) (by kernel_rfl) ?_; clear HS; intro w7 HS; replace HS := Bx.mk HS
    have HS : Bx (St w0 ([boxA b3 6 48 (.agg #[.int .i64 c.fRoom, .int .i64 c.fGoal, .slice d2 c.fOnce.length f2, .slice d3 c.fOften.length f3, .slice d4 c.fPast.length f4, .slice d5 c.fFormer.length f5]), rowA encI 1 3 (.slice d2 c.fOnce.length f2) c.fOnce, rowA encI 1 3 (.slice d3 c.fOften.length f3) c.fOften, rowA encI 1 3 (.slice d4 c.fPast.length f4) c.fPast, rowA encI 1 3 (.slice d5 c.fFormer.length f5) c.fFormer, boxA b2 6 48 (.agg #[.int .i64 0, .int .i64 0, .slice none 0 0, .slice none 0 0, .slice none 0 0, .slice none 0 0]), boxA b1 6 48 (.agg #[.int .i64 c.fRoom, .int .i64 c.fGoal, .slice a2 c.fOnce.length c2, .slice a3 c.fOften.length c3, .slice a4 c.fPast.length c4, .slice a5 c.fFormer.length c5])]) _) := HS
    refine wpList_nil ?_
    refine ex_then ?_
    refine wp_seq ?_
    refine wp_region_lit ?_
    refine wl_y rfl HF rfl rfl (yl_assign rfl (HF.ev rfl)) ?_; clear HF; clear a; intro a HF
    refine wpList_nil ?_
    refine ex_then ?_
    refine wp_seq ?_
    refine wp_seq ?_
    refine wp_region_lit ?_
    refine wl_y rfl HF rfl rfl (yl_assign rfl (HF.ev rfl)) ?_; clear HF; clear a; intro a HF
    refine wpList_nil ?_
    refine ex_then ?_
    refine wp_block ?_
    replace HS : Bx (St w0 ([boxA b3 6 48 (.agg #[.int .i64 c.fRoom, .int .i64 c.fGoal, .slice d2 c.fOnce.length f2, .slice d3 c.fOften.length f3, .slice d4 c.fPast.length f4, .slice d5 c.fFormer.length f5]), rowA encI 1 3 (.slice d2 c.fOnce.length f2) c.fOnce, rowA encI 1 3 (.slice d3 c.fOften.length f3) c.fOften, rowA encI 1 3 (.slice d4 c.fPast.length f4) c.fPast, rowA encI 1 3 (.slice d5 c.fFormer.length f5) c.fFormer, boxA b2 6 48 (.agg #[.int .i64 0, .int .i64 0, .slice none 0 0, .slice none 0 0, .slice none 0 0, .slice none 0 0]), boxA b1 6 48 (.agg #[.int .i64 c.fRoom, .int .i64 c.fGoal, .slice a2 c.fOnce.length c2, .slice a3 c.fOften.length c3, .slice a4 c.fPast.length c4, .slice a5 c.fFormer.length c5])]) _) := ⟨(((((HS.out).pick 4 rfl).pick 4 rfl).pick 4 rfl).pick 4 rfl).pick 4 rfl⟩
    refine wc_loop (ι := Nat) (fun k a w => ∃ (d2 : Option Addr) (f2 : Nat) (d3 : Option Addr) (f3 : Nat) (d4 : Option Addr) (f4 : Nat) (d5 : Option Addr) (f5 : Nat), (k ≤ rs.length) ∧ Fr 44 a [(1, .slice ao rs.length cap), (2, .pointer (some ⟨b1, 0, none⟩)), (4, .pointer (some ⟨b2, 0, none⟩)), (6, .pointer (some ⟨b3, 0, none⟩)), (8, .int .i64 (k : Int)), (7, .int .i64 ((c.playP (rs.take k)).2))] ∧ St w0 ([boxA b3 6 48 (.agg #[.int .i64 ((c.playP (rs.take k)).1.fRoom), .int .i64 ((c.playP (rs.take k)).1.fGoal), .slice d2 ((c.playP (rs.take k)).1.fOnce.length) f2, .slice d3 ((c.playP (rs.take k)).1.fOften.length) f3, .slice d4 ((c.playP (rs.take k)).1.fPast.length) f4, .slice d5 ((c.playP (rs.take k)).1.fFormer.length) f5]), rowA encI 1 3 (.slice d2 ((c.playP (rs.take k)).1.fOnce.length) f2) ((c.playP (rs.take k)).1.fOnce), rowA encI 1 3 (.slice d3 ((c.playP (rs.take k)).1.fOften.length) f3) ((c.playP (rs.take k)).1.fOften), rowA encI 1 3 (.slice d4 ((c.playP (rs.take k)).1.fPast.length) f4) ((c.playP (rs.take k)).1.fPast), rowA encI 1 3 (.slice d5 ((c.playP (rs.take k)).1.fFormer.length) f5) ((c.playP (rs.take k)).1.fFormer), boxA b2 6 48 (.agg #[.int .i64 0, .int .i64 0, .slice none 0 0, .slice none 0 0, .slice none 0 0, .slice none 0 0]), boxA b1 6 48 (.agg #[.int .i64 c.fRoom, .int .i64 c.fGoal, .slice a2 c.fOnce.length c2, .slice a3 c.fOften.length c3, .slice a4 c.fPast.length c4, .slice a5 c.fFormer.length c5])]) w) (fun k => rs.length - k) 0 ⟨_, _, _, _, _, _, _, _, Nat.zero_le _, HF.less _ ⟨rfl, rfl, rfl, rfl, rfl, rfl, trivial⟩, HS.out⟩ ?_
    clear HF HS; clear a
    rintro k a w8 ⟨d2, f2, d3, f3, d4, f4, d5, f5, hk, HF, HS⟩
    have hpi := play_inv hI rs k hk
    obtain ⟨p, hp⟩ : ∃ p, p = c.playP (rs.take k) := ⟨_, rfl⟩; rw [← hp] at HF HS hpi; replace HS := Bx.mk HS
    refine wp_seq ?_
    refine wp_seq ?_
    refine wp_region_lit ?_
    refine wl_y rfl HF rfl rfl (yl_move rfl (HF.ev rfl)) ?_; clear HF; clear a; intro a HF
    refine wl_y rfl HF rfl rfl (yl_move rfl (HF.ev rfl)) ?_; clear HF; clear a; intro a HF
    refine wl_y rfl HF rfl rfl (yl_lenL (e := 3) (size := 1) rfl (HF.ev rfl) (by kernel_rfl)) ?_; clear HF; clear a; intro a HF
    refine wl_y rfl HF rfl rfl (yl_lssI rfl (HF.ev rfl) (HF.ev rfl)) ?_; clear HF; clear a; intro a HF
    refine wpList_nil ?_
    refine ex_then ?_
    refine HF.cases 20 rfl (fun cc2 HF1 => ?_) (fun cc2 HF1 => ?_)
    · clear HF; have HF := HF1; clear HF1
      have cc2 := of_decide_eq_true cc2
      refine wc_true HF rfl ?_
      refine wp_skip ?_
      refine ex_then ?_
      refine wp_seq ?_
      refine wp_block ?_
      refine wp_seq ?_
      refine wp_region_lit ?_
      refine wl_y rfl HF rfl rfl (yl_move rfl (HF.ev rfl)) ?_; clear HF; clear a; intro a HF
      refine wl_y rfl HF rfl rfl (yl_move rfl (HF.ev rfl)) ?_; clear HF; clear a; intro a HF
      refine wl_y rfl HF rfl rfl (yl_indexAddrR (e := 3) (i := k) (size := 1) rfl (HF.ev rfl) (HF.ev rfl) (by kernel_rfl) rfl (by omega) (RR.out.ao k (by omega))) ?_; clear HF; clear a; intro a HF
      refine wl_y rfl HF rfl rfl (yl_load (v := .int .i64 (rs.getD k 0)) rfl (HF.ev rfl) (RR.out.elem1 HS.out (get_getD (xs := rs) (j := k) (d := 0) (by omega)) rfl) (by kernel_rfl)) ?_; clear HF; clear a; intro a HF
      refine wl_callB rfl HF rfl (enter_of Try.func59 (by kernel_rfl) rfl) (args := #[.int .i64 (rs.getD k 0)]) rfl (v := .bool (inB (rs.getD k 0) 8 63)) (((l2Row_any (rs.getD k 0) _).mono fun _ _ h => ⟨h.1, h.2 ▸ Below.refl _ _⟩)) rfl rfl HS.out ?_; clear HF HS; clear a; intro w9 a HS HF; replace HS := Bx.mk HS
      refine wpList_nil ?_
      refine ex_then ?_
      refine HF.cases 27 rfl (fun cc3 HF1 => ?_) (fun cc3 HF1 => ?_)
      · clear HF; have HF := HF1; clear HF1
        have hin := cc3
        refine wc_true HF rfl ?_
        refine wp_seq ?_
        refine wr_heldS (s := [boxA b3 6 48 (.agg #[.int .i64 p.1.fRoom, .int .i64 p.1.fGoal, .slice d2 p.1.fOnce.length f2, .slice d3 p.1.fOften.length f3, .slice d4 p.1.fPast.length f4, .slice d5 p.1.fFormer.length f5]), boxA b2 6 48 (.agg #[.int .i64 0, .int .i64 0, .slice none 0 0, .slice none 0 0, .slice none 0 0, .slice none 0 0]), boxA b1 6 48 (.agg #[.int .i64 c.fRoom, .int .i64 c.fGoal, .slice a2 c.fOnce.length c2, .slice a3 c.fOften.length c3, .slice a4 c.fPast.length c4, .slice a5 c.fFormer.length c5])]) (by kernel_rfl) (St.drew (((((HS.out.erase 4).erase 3).erase 2).erase 1))) ?_
        have HS2 := Bx.mk HS.out.drew; replace HS := Bx.mk (show St w0 ([boxA b3 6 48 (.agg #[.int .i64 p.1.fRoom, .int .i64 p.1.fGoal, .slice d2 p.1.fOnce.length f2, .slice d3 p.1.fOften.length f3, .slice d4 p.1.fPast.length f4, .slice d5 p.1.fFormer.length f5]), boxA b2 6 48 (.agg #[.int .i64 0, .int .i64 0, .slice none 0 0, .slice none 0 0, .slice none 0 0, .slice none 0 0]), boxA b1 6 48 (.agg #[.int .i64 c.fRoom, .int .i64 c.fGoal, .slice a2 c.fOnce.length c2, .slice a3 c.fOften.length c3, .slice a4 c.fPast.length c4, .slice a5 c.fFormer.length c5])]) _ from ((((HS.out.drew.erase 4).erase 3).erase 2).erase 1))
        generalize World.drew _ = w10 at HS HS2 ⊢
        refine wh_y 0 rfl (by kernel_rfl) (by kernel_rfl) (by kernel_rfl) (fun _ _ _ h => h) rfl HF rfl rfl (fun _ HS => (yl_loadR (cs := [.int .i64 p.1.fRoom, .int .i64 p.1.fGoal, .slice d2 p.1.fOnce.length f2, .slice d3 p.1.fOften.length f3, .slice d4 p.1.fPast.length f4, .slice d5 p.1.fFormer.length f5]) rfl (HF.ev rfl) ((HS.box 0 rfl).sub 0 6) (by kernel_rfl))) HS.out ?_; clear HF; clear a; intro a HF
        refine wh_y 1 rfl (by kernel_rfl) (by kernel_rfl) (by kernel_rfl) (fun _ _ _ h => h) rfl HF rfl rfl (fun _ HS => (yl_move rfl (HF.ev rfl))) HS.out ?_; clear HF; clear a; intro a HF
        refine wh_y 2 rfl (by kernel_rfl) (by kernel_rfl) (by kernel_rfl) (fun _ _ _ h => h) rfl HF rfl rfl (fun _ HS => (yl_move rfl (HF.ev rfl))) HS.out ?_; clear HF; clear a; intro a HF
        refine wh_y 3 rfl (by kernel_rfl) (by kernel_rfl) (by kernel_rfl) (fun _ _ _ h => h) rfl HF rfl rfl (fun _ HS => (yl_indexAddrR (e := 3) (i := k) (size := 1) rfl (HF.ev rfl) (HF.ev rfl) (by kernel_rfl) rfl (by omega) (RR.out.ao k (by omega)))) HS.out ?_; clear HF; clear a; intro a HF
        refine wh_y 4 rfl (by kernel_rfl) (by kernel_rfl) (by kernel_rfl) (fun _ _ _ h => h) rfl HF rfl rfl (fun _ HS => (yl_load (v := .int .i64 (rs.getD k 0)) rfl (HF.ev rfl) (RR.out.elem1 HS (get_getD (xs := rs) (j := k) (d := 0) (by omega)) rfl) (by kernel_rfl))) HS.out ?_; clear HF; clear a; intro a HF
        refine wh_two 5 9 (by kernel_rfl) ?_ ?_
        · skip
          replace HS2 : Bx (St w0 ([rowA encI 1 3 (.slice d2 p.1.fOnce.length f2) p.1.fOnce, rowA encI 1 3 (.slice d3 p.1.fOften.length f3) p.1.fOften, rowA encI 1 3 (.slice d4 p.1.fPast.length f4) p.1.fPast, rowA encI 1 3 (.slice d5 p.1.fFormer.length f5) p.1.fFormer, boxA b3 6 48 (.agg #[.int .i64 p.1.fRoom, .int .i64 p.1.fGoal, .slice d2 p.1.fOnce.length f2, .slice d3 p.1.fOften.length f3, .slice d4 p.1.fPast.length f4, .slice d5 p.1.fFormer.length f5]), boxA b2 6 48 (.agg #[.int .i64 0, .int .i64 0, .slice none 0 0, .slice none 0 0, .slice none 0 0, .slice none 0 0]), boxA b1 6 48 (.agg #[.int .i64 c.fRoom, .int .i64 c.fGoal, .slice a2 c.fOnce.length c2, .slice a3 c.fOften.length c3, .slice a4 c.fPast.length c4, .slice a5 c.fFormer.length c5])]) _) := ⟨((((HS2.out).pick 4 rfl).pick 4 rfl).pick 4 rfl).pick 4 rfl⟩
          refine wo_call rfl rfl HF rfl (enter_of Try.func60 (by kernel_rfl) rfl) (args := #[.agg #[.int .i64 p.1.fRoom, .int .i64 p.1.fGoal, .slice d2 p.1.fOnce.length f2, .slice d3 p.1.fOften.length f3, .slice d4 p.1.fPast.length f4, .slice d5 p.1.fFormer.length f5], .int .i64 (rs.getD k 0)]) rfl (l27Ask_any w0 _ _ _ _ _ _ _ _ _ p.1 (rs.getD k 0) _ hpi.1 HS2.out) rfl rfl ?_
          rintro _ w12 ⟨_, rfl, hv⟩
          obtain ⟨q, hq⟩ : ∃ q, q = p.1.ask (rs.getD k 0) := ⟨_, rfl⟩; rw [← hq] at hv ⊢; obtain ⟨g2, h2, g3, h3, g4, h4, g5, h5, rfl, hs1⟩ := hv
          refine ⟨_, rfl, ?_⟩; replace HS2 := Bx.mk hs1; clear hs1 HF; clear a; intro a HF
          replace HS2 : Bx (St w0 ([rowA encI 1 3 (.slice g2 q.1.fOnce.length h2) q.1.fOnce, rowA encI 1 3 (.slice g3 q.1.fOften.length h3) q.1.fOften, rowA encI 1 3 (.slice g4 q.1.fPast.length h4) q.1.fPast, rowA encI 1 3 (.slice g5 q.1.fFormer.length h5) q.1.fFormer, boxA b3 6 48 (.agg #[.int .i64 p.1.fRoom, .int .i64 p.1.fGoal, .slice d2 p.1.fOnce.length f2, .slice d3 p.1.fOften.length f3, .slice d4 p.1.fPast.length f4, .slice d5 p.1.fFormer.length f5]), boxA b2 6 48 (.agg #[.int .i64 0, .int .i64 0, .slice none 0 0, .slice none 0 0, .slice none 0 0, .slice none 0 0]), boxA b1 6 48 (.agg #[.int .i64 c.fRoom, .int .i64 c.fGoal, .slice a2 c.fOnce.length c2, .slice a3 c.fOften.length c3, .slice a4 c.fPast.length c4, .slice a5 c.fFormer.length c5])]) _) := ⟨HS2.out⟩
          clear HS; have HS : Bx (St w0 ([boxA b3 6 48 (.agg #[.int .i64 p.1.fRoom, .int .i64 p.1.fGoal, .slice d2 p.1.fOnce.length f2, .slice d3 p.1.fOften.length f3, .slice d4 p.1.fPast.length f4, .slice d5 p.1.fFormer.length f5]), boxA b2 6 48 (.agg #[.int .i64 0, .int .i64 0, .slice none 0 0, .slice none 0 0, .slice none 0 0, .slice none 0 0]), boxA b1 6 48 (.agg #[.int .i64 c.fRoom, .int .i64 c.fGoal, .slice a2 c.fOnce.length c2, .slice a3 c.fOften.length c3, .slice a4 c.fPast.length c4, .slice a5 c.fFormer.length c5])]) _) := ⟨((((HS2.out.erase 3).erase 2).erase 1).erase 0)⟩; refine ⟨HS.out, ?_⟩
          refine wh_y 6 rfl (by kernel_rfl) (by kernel_rfl) (by kernel_rfl) (fun _ _ _ h => h) rfl HF rfl rfl (fun _ HS => (yl_move rfl (HF.ev rfl))) HS.out ?_; clear HF; clear a; intro a HF
          refine wh_y 7 rfl (by kernel_rfl) (by kernel_rfl) (by kernel_rfl) (fun _ _ _ h => h) rfl HF rfl rfl (fun _ HS => (yl_extract rfl (HF.ev rfl) rfl)) HS.out ?_; clear HF; clear a; intro a HF
          refine wh_y 8 rfl (by kernel_rfl) (by kernel_rfl) (by kernel_rfl) (fun _ _ _ h => h) rfl HF rfl rfl (fun _ HS => (yl_extract rfl (HF.ev rfl) rfl)) HS.out ?_; clear HF; clear a; intro a HF
          refine wh_one 9 (by kernel_rfl) ?_
          refine wo_alloc rfl rfl HF rfl rfl rfl (Z := [.int .i64 0, .int .i64 0, .slice none 0 0, .slice none 0 0, .slice none 0 0, .slice none 0 0]) (by kernel_rfl) rfl HS2.out HS.out ?_; clear HF HS HS2; clear a; intro a w13 b4 HF HS2 HS; replace HS := Bx.mk HS; replace HS2 := Bx.mk HS2; refine ⟨HS.out, ?_⟩
          refine wh_one 10 (by kernel_rfl) ?_
          refine wo_storeBox rfl rfl rfl rfl (HF.ev rfl) (HF.ev rfl) HS2.out 0 rfl (cells_lit [.int .i64 q.1.fRoom, .int .i64 q.1.fGoal, .slice g2 q.1.fOnce.length h2, .slice g3 q.1.fOften.length h3, .slice g4 q.1.fPast.length h4, .slice g5 q.1.fFormer.length h5] rfl rfl) (by kernel_rfl) ?_
          clear HS HS2; intro w14 HS2; replace HS2 : Bx (St w0 ([boxA b4 6 48 (.agg #[.int .i64 q.1.fRoom, .int .i64 q.1.fGoal, .slice g2 q.1.fOnce.length h2, .slice g3 q.1.fOften.length h3, .slice g4 q.1.fPast.length h4, .slice g5 q.1.fFormer.length h5]), rowA encI 1 3 (.slice g2 q.1.fOnce.length h2) q.1.fOnce, rowA encI 1 3 (.slice g3 q.1.fOften.length h3) q.1.fOften, rowA encI 1 3 (.slice g4 q.1.fPast.length h4) q.1.fPast, rowA encI 1 3 (.slice g5 q.1.fFormer.length h5) q.1.fFormer, boxA b3 6 48 (.agg #[.int .i64 p.1.fRoom, .int .i64 p.1.fGoal, .slice d2 p.1.fOnce.length f2, .slice d3 p.1.fOften.length f3, .slice d4 p.1.fPast.length f4, .slice d5 p.1.fFormer.length f5]), boxA b2 6 48 (.agg #[.int .i64 0, .int .i64 0, .slice none 0 0, .slice none 0 0, .slice none 0 0, .slice none 0 0]), boxA b1 6 48 (.agg #[.int .i64 c.fRoom, .int .i64 c.fGoal, .slice a2 c.fOnce.length c2, .slice a3 c.fOften.length c3, .slice a4 c.fPast.length c4, .slice a5 c.fFormer.length c5])]) _) := ⟨HS2⟩
          have HS : Bx (St w0 ([boxA b3 6 48 (.agg #[.int .i64 p.1.fRoom, .int .i64 p.1.fGoal, .slice d2 p.1.fOnce.length f2, .slice d3 p.1.fOften.length f3, .slice d4 p.1.fPast.length f4, .slice d5 p.1.fFormer.length f5]), boxA b2 6 48 (.agg #[.int .i64 0, .int .i64 0, .slice none 0 0, .slice none 0 0, .slice none 0 0, .slice none 0 0]), boxA b1 6 48 (.agg #[.int .i64 c.fRoom, .int .i64 c.fGoal, .slice a2 c.fOnce.length c2, .slice a3 c.fOften.length c3, .slice a4 c.fPast.length c4, .slice a5 c.fFormer.length c5])]) _) := ⟨(((((HS2.out.erase 4).erase 3).erase 2).erase 1).erase 0)⟩; refine ⟨HS.out, ?_⟩
          refine wh_y 11 rfl (by kernel_rfl) (by kernel_rfl) (by kernel_rfl) (fun _ _ _ h => h) rfl HF rfl rfl (fun _ HS => (yl_assign rfl (HF.ev rfl))) HS.out ?_; clear HF; clear a; intro a HF
          refine wh_done (by kernel_rfl) ?_
          replace HS := HS2; clear HS2
          refine ex_then ?_
          refine wp_seq ?_
          refine wp_region_lit ?_
          refine wl_y rfl HF rfl rfl (yl_loadR (cs := [.int .i64 q.1.fRoom, .int .i64 q.1.fGoal, .slice g2 q.1.fOnce.length h2, .slice g3 q.1.fOften.length h3, .slice g4 q.1.fPast.length h4, .slice g5 q.1.fFormer.length h5]) rfl (HF.ev rfl) ((HS.out.box 0 rfl).sub 0 6) (by kernel_rfl)) ?_; clear HF; clear a; intro a HF
          refine wl_storeBox rfl HF rfl rfl (HF.ev rfl) (HF.ev rfl) HS.out 5 rfl (cells_lit [.int .i64 q.1.fRoom, .int .i64 q.1.fGoal, .slice g2 q.1.fOnce.length h2, .slice g3 q.1.fOften.length h3, .slice g4 q.1.fPast.length h4, .slice g5 q.1.fFormer.length h5] rfl rfl) (by kernel_rfl) ?_; clear HS; intro w15 HS; replace HS := Bx.mk HS
          have HS : Bx (St w0 ([boxA b4 6 48 (.agg #[.int .i64 q.1.fRoom, .int .i64 q.1.fGoal, .slice g2 q.1.fOnce.length h2, .slice g3 q.1.fOften.length h3, .slice g4 q.1.fPast.length h4, .slice g5 q.1.fFormer.length h5]), rowA encI 1 3 (.slice g2 q.1.fOnce.length h2) q.1.fOnce, rowA encI 1 3 (.slice g3 q.1.fOften.length h3) q.1.fOften, rowA encI 1 3 (.slice g4 q.1.fPast.length h4) q.1.fPast, rowA encI 1 3 (.slice g5 q.1.fFormer.length h5) q.1.fFormer, boxA b3 6 48 (.agg #[.int .i64 q.1.fRoom, .int .i64 q.1.fGoal, .slice g2 q.1.fOnce.length h2, .slice g3 q.1.fOften.length h3, .slice g4 q.1.fPast.length h4, .slice g5 q.1.fFormer.length h5]), boxA b2 6 48 (.agg #[.int .i64 0, .int .i64 0, .slice none 0 0, .slice none 0 0, .slice none 0 0, .slice none 0 0]), boxA b1 6 48 (.agg #[.int .i64 c.fRoom, .int .i64 c.fGoal, .slice a2 c.fOnce.length c2, .slice a3 c.fOften.length c3, .slice a4 c.fPast.length c4, .slice a5 c.fFormer.length c5])]) _) := HS
          refine wpList_nil ?_
          refine ex_then ?_
          refine wp_seq ?_
          refine wp_region_lit ?_
          refine wl_y rfl HF rfl rfl (yl_move rfl (HF.ev rfl)) ?_; clear HF; clear a; intro a HF
          refine wpList_nil ?_
          refine ex_then ?_
          refine HF.cases 38 rfl (fun cc4 HF1 => ?_) (fun cc4 HF1 => ?_)
          · clear HF; have HF := HF1; clear HF1
            have hit := cc4
            refine wc_true HF rfl ?_
            refine wp_region_lit ?_
            refine wl_y rfl HF rfl rfl (yl_move rfl (HF.ev rfl)) ?_; clear HF; clear a; intro a HF
            refine wl_y rfl HF rfl rfl (yl_addI rfl (HF.ev rfl) (HF.ev rfl) (i64w (by omega))) ?_; clear HF; clear a; intro a HF
            refine wl_y rfl HF rfl rfl (yl_assign rfl (HF.ev rfl)) ?_; clear HF; clear a; intro a HF
            refine wpList_nil ?_
            refine ex_block ?_
            refine ex_then ?_
            refine wp_region_lit ?_
            refine wl_y rfl HF rfl rfl (yl_move rfl (HF.ev rfl)) ?_; clear HF; clear a; intro a HF
            refine wl_y rfl HF rfl rfl (yl_addI rfl (HF.ev rfl) (HF.ev rfl) (i64w (by omega))) ?_; clear HF; clear a; intro a HF
            refine wl_y rfl HF rfl rfl (yl_assign rfl (HF.ev rfl)) ?_; clear HF; clear a; intro a HF
            refine wpList_nil ?_
            refine ex_then ?_
            replace HS : Bx (St w0 ([boxA b3 6 48 (.agg #[.int .i64 q.1.fRoom, .int .i64 q.1.fGoal, .slice g2 q.1.fOnce.length h2, .slice g3 q.1.fOften.length h3, .slice g4 q.1.fPast.length h4, .slice g5 q.1.fFormer.length h5]), rowA encI 1 3 (.slice g2 q.1.fOnce.length h2) q.1.fOnce, rowA encI 1 3 (.slice g3 q.1.fOften.length h3) q.1.fOften, rowA encI 1 3 (.slice g4 q.1.fPast.length h4) q.1.fPast, rowA encI 1 3 (.slice g5 q.1.fFormer.length h5) q.1.fFormer, boxA b2 6 48 (.agg #[.int .i64 0, .int .i64 0, .slice none 0 0, .slice none 0 0, .slice none 0 0, .slice none 0 0]), boxA b1 6 48 (.agg #[.int .i64 c.fRoom, .int .i64 c.fGoal, .slice a2 c.fOnce.length c2, .slice a3 c.fOften.length c3, .slice a4 c.fPast.length c4, .slice a5 c.fFormer.length c5]), boxA b4 6 48 (.agg #[.int .i64 q.1.fRoom, .int .i64 q.1.fGoal, .slice g2 q.1.fOnce.length h2, .slice g3 q.1.fOften.length h3, .slice g4 q.1.fPast.length h4, .slice g5 q.1.fFormer.length h5])]) _) := ⟨(((((((HS.out).pick 7 rfl).pick 7 rfl).pick 6 rfl).pick 6 rfl).pick 6 rfl).pick 6 rfl).pick 7 rfl⟩
            have hst : c.playP (rs.take (k + 1)) = (q.1, p.2 + 1) := by rw [play_succ c rs k (by omega), ← hp]; unfold CacheD.stepP; rw [if_pos hin, ← hq, if_pos hit]
            exact ⟨k + 1, ⟨g2, h2, g3, h3, g4, h4, g5, h5, by omega, by rw [hst]; exact HF.less _ ⟨rfl, rfl, rfl, rfl, rfl, rfl, trivial⟩, by rw [hst]; exact (HS.out.erase 7)⟩, by omega⟩
          · clear HF; have HF := HF1; clear HF1
            have hit := cc4
            refine wc_false HF rfl ?_
            refine wp_skip ?_
            refine ex_block ?_
            refine ex_then ?_
            refine wp_region_lit ?_
            refine wl_y rfl HF rfl rfl (yl_move rfl (HF.ev rfl)) ?_; clear HF; clear a; intro a HF
            refine wl_y rfl HF rfl rfl (yl_addI rfl (HF.ev rfl) (HF.ev rfl) (i64w (by omega))) ?_; clear HF; clear a; intro a HF
            refine wl_y rfl HF rfl rfl (yl_assign rfl (HF.ev rfl)) ?_; clear HF; clear a; intro a HF
            refine wpList_nil ?_
            refine ex_then ?_
            replace HS : Bx (St w0 ([boxA b3 6 48 (.agg #[.int .i64 q.1.fRoom, .int .i64 q.1.fGoal, .slice g2 q.1.fOnce.length h2, .slice g3 q.1.fOften.length h3, .slice g4 q.1.fPast.length h4, .slice g5 q.1.fFormer.length h5]), rowA encI 1 3 (.slice g2 q.1.fOnce.length h2) q.1.fOnce, rowA encI 1 3 (.slice g3 q.1.fOften.length h3) q.1.fOften, rowA encI 1 3 (.slice g4 q.1.fPast.length h4) q.1.fPast, rowA encI 1 3 (.slice g5 q.1.fFormer.length h5) q.1.fFormer, boxA b2 6 48 (.agg #[.int .i64 0, .int .i64 0, .slice none 0 0, .slice none 0 0, .slice none 0 0, .slice none 0 0]), boxA b1 6 48 (.agg #[.int .i64 c.fRoom, .int .i64 c.fGoal, .slice a2 c.fOnce.length c2, .slice a3 c.fOften.length c3, .slice a4 c.fPast.length c4, .slice a5 c.fFormer.length c5]), boxA b4 6 48 (.agg #[.int .i64 q.1.fRoom, .int .i64 q.1.fGoal, .slice g2 q.1.fOnce.length h2, .slice g3 q.1.fOften.length h3, .slice g4 q.1.fPast.length h4, .slice g5 q.1.fFormer.length h5])]) _) := ⟨(((((((HS.out).pick 7 rfl).pick 7 rfl).pick 6 rfl).pick 6 rfl).pick 6 rfl).pick 6 rfl).pick 7 rfl⟩
            have hst : c.playP (rs.take (k + 1)) = (q.1, p.2) := by rw [play_succ c rs k (by omega), ← hp]; unfold CacheD.stepP; rw [if_pos hin, ← hq, if_neg (by rw [hit]; simp)]
            exact ⟨k + 1, ⟨g2, h2, g3, h3, g4, h4, g5, h5, by omega, by rw [hst]; exact HF.less _ ⟨rfl, rfl, rfl, rfl, rfl, rfl, trivial⟩, by rw [hst]; exact (HS.out.erase 7)⟩, by omega⟩
        · skip
          refine wo_alloc rfl rfl HF rfl rfl rfl (Z := [.int .i64 0, .int .i64 0, .slice none 0 0, .slice none 0 0, .slice none 0 0, .slice none 0 0]) (by kernel_rfl) rfl HS2.out HS.out ?_; clear HF HS HS2; clear a; intro a w16 b5 HF HS2 HS; replace HS := Bx.mk HS; replace HS2 := Bx.mk HS2; refine ⟨HS.out, ?_⟩
          refine wh_one 5 (by kernel_rfl) ?_
          replace HS2 : Bx (St w0 ([rowA encI 1 3 (.slice d2 p.1.fOnce.length f2) p.1.fOnce, rowA encI 1 3 (.slice d3 p.1.fOften.length f3) p.1.fOften, rowA encI 1 3 (.slice d4 p.1.fPast.length f4) p.1.fPast, rowA encI 1 3 (.slice d5 p.1.fFormer.length f5) p.1.fFormer, boxA b5 6 48 (.agg #[.int .i64 0, .int .i64 0, .slice none 0 0, .slice none 0 0, .slice none 0 0, .slice none 0 0]), boxA b3 6 48 (.agg #[.int .i64 p.1.fRoom, .int .i64 p.1.fGoal, .slice d2 p.1.fOnce.length f2, .slice d3 p.1.fOften.length f3, .slice d4 p.1.fPast.length f4, .slice d5 p.1.fFormer.length f5]), boxA b2 6 48 (.agg #[.int .i64 0, .int .i64 0, .slice none 0 0, .slice none 0 0, .slice none 0 0, .slice none 0 0]), boxA b1 6 48 (.agg #[.int .i64 c.fRoom, .int .i64 c.fGoal, .slice a2 c.fOnce.length c2, .slice a3 c.fOften.length c3, .slice a4 c.fPast.length c4, .slice a5 c.fFormer.length c5])]) _) := ⟨((((HS2.out).pick 5 rfl).pick 5 rfl).pick 5 rfl).pick 5 rfl⟩
          refine wo_call rfl rfl HF rfl (enter_of Try.func60 (by kernel_rfl) rfl) (args := #[.agg #[.int .i64 p.1.fRoom, .int .i64 p.1.fGoal, .slice d2 p.1.fOnce.length f2, .slice d3 p.1.fOften.length f3, .slice d4 p.1.fPast.length f4, .slice d5 p.1.fFormer.length f5], .int .i64 (rs.getD k 0)]) rfl (l27Ask_any w0 _ _ _ _ _ _ _ _ _ p.1 (rs.getD k 0) _ hpi.1 HS2.out) rfl rfl ?_
          rintro _ w18 ⟨_, rfl, hv⟩
          obtain ⟨q, hq⟩ : ∃ q, q = p.1.ask (rs.getD k 0) := ⟨_, rfl⟩; rw [← hq] at hv ⊢; obtain ⟨g2, h2, g3, h3, g4, h4, g5, h5, rfl, hs1⟩ := hv
          refine ⟨_, rfl, ?_⟩; replace HS2 := Bx.mk hs1; clear hs1 HF; clear a; intro a HF
          replace HS2 : Bx (St w0 ([rowA encI 1 3 (.slice g2 q.1.fOnce.length h2) q.1.fOnce, rowA encI 1 3 (.slice g3 q.1.fOften.length h3) q.1.fOften, rowA encI 1 3 (.slice g4 q.1.fPast.length h4) q.1.fPast, rowA encI 1 3 (.slice g5 q.1.fFormer.length h5) q.1.fFormer, boxA b5 6 48 (.agg #[.int .i64 0, .int .i64 0, .slice none 0 0, .slice none 0 0, .slice none 0 0, .slice none 0 0]), boxA b3 6 48 (.agg #[.int .i64 p.1.fRoom, .int .i64 p.1.fGoal, .slice d2 p.1.fOnce.length f2, .slice d3 p.1.fOften.length f3, .slice d4 p.1.fPast.length f4, .slice d5 p.1.fFormer.length f5]), boxA b2 6 48 (.agg #[.int .i64 0, .int .i64 0, .slice none 0 0, .slice none 0 0, .slice none 0 0, .slice none 0 0]), boxA b1 6 48 (.agg #[.int .i64 c.fRoom, .int .i64 c.fGoal, .slice a2 c.fOnce.length c2, .slice a3 c.fOften.length c3, .slice a4 c.fPast.length c4, .slice a5 c.fFormer.length c5])]) _) := ⟨HS2.out⟩
          clear HS; have HS : Bx (St w0 ([boxA b3 6 48 (.agg #[.int .i64 p.1.fRoom, .int .i64 p.1.fGoal, .slice d2 p.1.fOnce.length f2, .slice d3 p.1.fOften.length f3, .slice d4 p.1.fPast.length f4, .slice d5 p.1.fFormer.length f5]), boxA b2 6 48 (.agg #[.int .i64 0, .int .i64 0, .slice none 0 0, .slice none 0 0, .slice none 0 0, .slice none 0 0]), boxA b1 6 48 (.agg #[.int .i64 c.fRoom, .int .i64 c.fGoal, .slice a2 c.fOnce.length c2, .slice a3 c.fOften.length c3, .slice a4 c.fPast.length c4, .slice a5 c.fFormer.length c5])]) _) := ⟨(((((HS2.out.erase 4).erase 3).erase 2).erase 1).erase 0)⟩; refine ⟨HS.out, ?_⟩
          refine wh_y 6 rfl (by kernel_rfl) (by kernel_rfl) (by kernel_rfl) (fun _ _ _ h => h) rfl HF rfl rfl (fun _ HS => (yl_move rfl (HF.ev rfl))) HS.out ?_; clear HF; clear a; intro a HF
          refine wh_y 7 rfl (by kernel_rfl) (by kernel_rfl) (by kernel_rfl) (fun _ _ _ h => h) rfl HF rfl rfl (fun _ HS => (yl_extract rfl (HF.ev rfl) rfl)) HS.out ?_; clear HF; clear a; intro a HF
          refine wh_y 8 rfl (by kernel_rfl) (by kernel_rfl) (by kernel_rfl) (fun _ _ _ h => h) rfl HF rfl rfl (fun _ HS => (yl_extract rfl (HF.ev rfl) rfl)) HS.out ?_; clear HF; clear a; intro a HF
          refine wh_one 10 (by kernel_rfl) ?_
          refine wo_storeBox rfl rfl rfl rfl (HF.ev rfl) (HF.ev rfl) HS2.out 4 rfl (cells_lit [.int .i64 q.1.fRoom, .int .i64 q.1.fGoal, .slice g2 q.1.fOnce.length h2, .slice g3 q.1.fOften.length h3, .slice g4 q.1.fPast.length h4, .slice g5 q.1.fFormer.length h5] rfl rfl) (by kernel_rfl) ?_
          clear HS HS2; intro w19 HS2; replace HS2 : Bx (St w0 ([rowA encI 1 3 (.slice g2 q.1.fOnce.length h2) q.1.fOnce, rowA encI 1 3 (.slice g3 q.1.fOften.length h3) q.1.fOften, rowA encI 1 3 (.slice g4 q.1.fPast.length h4) q.1.fPast, rowA encI 1 3 (.slice g5 q.1.fFormer.length h5) q.1.fFormer, boxA b5 6 48 (.agg #[.int .i64 q.1.fRoom, .int .i64 q.1.fGoal, .slice g2 q.1.fOnce.length h2, .slice g3 q.1.fOften.length h3, .slice g4 q.1.fPast.length h4, .slice g5 q.1.fFormer.length h5]), boxA b3 6 48 (.agg #[.int .i64 p.1.fRoom, .int .i64 p.1.fGoal, .slice d2 p.1.fOnce.length f2, .slice d3 p.1.fOften.length f3, .slice d4 p.1.fPast.length f4, .slice d5 p.1.fFormer.length f5]), boxA b2 6 48 (.agg #[.int .i64 0, .int .i64 0, .slice none 0 0, .slice none 0 0, .slice none 0 0, .slice none 0 0]), boxA b1 6 48 (.agg #[.int .i64 c.fRoom, .int .i64 c.fGoal, .slice a2 c.fOnce.length c2, .slice a3 c.fOften.length c3, .slice a4 c.fPast.length c4, .slice a5 c.fFormer.length c5])]) _) := ⟨HS2⟩
          have HS : Bx (St w0 ([boxA b3 6 48 (.agg #[.int .i64 p.1.fRoom, .int .i64 p.1.fGoal, .slice d2 p.1.fOnce.length f2, .slice d3 p.1.fOften.length f3, .slice d4 p.1.fPast.length f4, .slice d5 p.1.fFormer.length f5]), boxA b2 6 48 (.agg #[.int .i64 0, .int .i64 0, .slice none 0 0, .slice none 0 0, .slice none 0 0, .slice none 0 0]), boxA b1 6 48 (.agg #[.int .i64 c.fRoom, .int .i64 c.fGoal, .slice a2 c.fOnce.length c2, .slice a3 c.fOften.length c3, .slice a4 c.fPast.length c4, .slice a5 c.fFormer.length c5])]) _) := ⟨(((((HS2.out.erase 4).erase 3).erase 2).erase 1).erase 0)⟩; refine ⟨HS.out, ?_⟩
          refine wh_y 11 rfl (by kernel_rfl) (by kernel_rfl) (by kernel_rfl) (fun _ _ _ h => h) rfl HF rfl rfl (fun _ HS => (yl_assign rfl (HF.ev rfl))) HS.out ?_; clear HF; clear a; intro a HF
          refine wh_done (by kernel_rfl) ?_
          replace HS := HS2; clear HS2
          refine ex_then ?_
          refine wp_seq ?_
          refine wp_region_lit ?_
          refine wl_y rfl HF rfl rfl (yl_loadR (cs := [.int .i64 q.1.fRoom, .int .i64 q.1.fGoal, .slice g2 q.1.fOnce.length h2, .slice g3 q.1.fOften.length h3, .slice g4 q.1.fPast.length h4, .slice g5 q.1.fFormer.length h5]) rfl (HF.ev rfl) ((HS.out.box 4 rfl).sub 0 6) (by kernel_rfl)) ?_; clear HF; clear a; intro a HF
          refine wl_storeBox rfl HF rfl rfl (HF.ev rfl) (HF.ev rfl) HS.out 5 rfl (cells_lit [.int .i64 q.1.fRoom, .int .i64 q.1.fGoal, .slice g2 q.1.fOnce.length h2, .slice g3 q.1.fOften.length h3, .slice g4 q.1.fPast.length h4, .slice g5 q.1.fFormer.length h5] rfl rfl) (by kernel_rfl) ?_; clear HS; intro w20 HS; replace HS := Bx.mk HS
          have HS : Bx (St w0 ([rowA encI 1 3 (.slice g2 q.1.fOnce.length h2) q.1.fOnce, rowA encI 1 3 (.slice g3 q.1.fOften.length h3) q.1.fOften, rowA encI 1 3 (.slice g4 q.1.fPast.length h4) q.1.fPast, rowA encI 1 3 (.slice g5 q.1.fFormer.length h5) q.1.fFormer, boxA b5 6 48 (.agg #[.int .i64 q.1.fRoom, .int .i64 q.1.fGoal, .slice g2 q.1.fOnce.length h2, .slice g3 q.1.fOften.length h3, .slice g4 q.1.fPast.length h4, .slice g5 q.1.fFormer.length h5]), boxA b3 6 48 (.agg #[.int .i64 q.1.fRoom, .int .i64 q.1.fGoal, .slice g2 q.1.fOnce.length h2, .slice g3 q.1.fOften.length h3, .slice g4 q.1.fPast.length h4, .slice g5 q.1.fFormer.length h5]), boxA b2 6 48 (.agg #[.int .i64 0, .int .i64 0, .slice none 0 0, .slice none 0 0, .slice none 0 0, .slice none 0 0]), boxA b1 6 48 (.agg #[.int .i64 c.fRoom, .int .i64 c.fGoal, .slice a2 c.fOnce.length c2, .slice a3 c.fOften.length c3, .slice a4 c.fPast.length c4, .slice a5 c.fFormer.length c5])]) _) := HS
          refine wpList_nil ?_
          refine ex_then ?_
          refine wp_seq ?_
          refine wp_region_lit ?_
          refine wl_y rfl HF rfl rfl (yl_move rfl (HF.ev rfl)) ?_; clear HF; clear a; intro a HF
          refine wpList_nil ?_
          refine ex_then ?_
          refine HF.cases 38 rfl (fun cc5 HF1 => ?_) (fun cc5 HF1 => ?_)
          · clear HF; have HF := HF1; clear HF1
            have hit := cc5
            refine wc_true HF rfl ?_
            refine wp_region_lit ?_
            refine wl_y rfl HF rfl rfl (yl_move rfl (HF.ev rfl)) ?_; clear HF; clear a; intro a HF
            refine wl_y rfl HF rfl rfl (yl_addI rfl (HF.ev rfl) (HF.ev rfl) (i64w (by omega))) ?_; clear HF; clear a; intro a HF
            refine wl_y rfl HF rfl rfl (yl_assign rfl (HF.ev rfl)) ?_; clear HF; clear a; intro a HF
            refine wpList_nil ?_
            refine ex_block ?_
            refine ex_then ?_
            refine wp_region_lit ?_
            refine wl_y rfl HF rfl rfl (yl_move rfl (HF.ev rfl)) ?_; clear HF; clear a; intro a HF
            refine wl_y rfl HF rfl rfl (yl_addI rfl (HF.ev rfl) (HF.ev rfl) (i64w (by omega))) ?_; clear HF; clear a; intro a HF
            refine wl_y rfl HF rfl rfl (yl_assign rfl (HF.ev rfl)) ?_; clear HF; clear a; intro a HF
            refine wpList_nil ?_
            refine ex_then ?_
            replace HS : Bx (St w0 ([boxA b3 6 48 (.agg #[.int .i64 q.1.fRoom, .int .i64 q.1.fGoal, .slice g2 q.1.fOnce.length h2, .slice g3 q.1.fOften.length h3, .slice g4 q.1.fPast.length h4, .slice g5 q.1.fFormer.length h5]), rowA encI 1 3 (.slice g2 q.1.fOnce.length h2) q.1.fOnce, rowA encI 1 3 (.slice g3 q.1.fOften.length h3) q.1.fOften, rowA encI 1 3 (.slice g4 q.1.fPast.length h4) q.1.fPast, rowA encI 1 3 (.slice g5 q.1.fFormer.length h5) q.1.fFormer, boxA b2 6 48 (.agg #[.int .i64 0, .int .i64 0, .slice none 0 0, .slice none 0 0, .slice none 0 0, .slice none 0 0]), boxA b1 6 48 (.agg #[.int .i64 c.fRoom, .int .i64 c.fGoal, .slice a2 c.fOnce.length c2, .slice a3 c.fOften.length c3, .slice a4 c.fPast.length c4, .slice a5 c.fFormer.length c5]), boxA b5 6 48 (.agg #[.int .i64 q.1.fRoom, .int .i64 q.1.fGoal, .slice g2 q.1.fOnce.length h2, .slice g3 q.1.fOften.length h3, .slice g4 q.1.fPast.length h4, .slice g5 q.1.fFormer.length h5])]) _) := ⟨(((((((HS.out).pick 7 rfl).pick 7 rfl).pick 5 rfl).pick 5 rfl).pick 5 rfl).pick 5 rfl).pick 7 rfl⟩
            have hst : c.playP (rs.take (k + 1)) = (q.1, p.2 + 1) := by rw [play_succ c rs k (by omega), ← hp]; unfold CacheD.stepP; rw [if_pos hin, ← hq, if_pos hit]
            exact ⟨k + 1, ⟨g2, h2, g3, h3, g4, h4, g5, h5, by omega, by rw [hst]; exact HF.less _ ⟨rfl, rfl, rfl, rfl, rfl, rfl, trivial⟩, by rw [hst]; exact (HS.out.erase 7)⟩, by omega⟩
          · clear HF; have HF := HF1; clear HF1
            have hit := cc5
            refine wc_false HF rfl ?_
            refine wp_skip ?_
            refine ex_block ?_
            refine ex_then ?_
            refine wp_region_lit ?_
            refine wl_y rfl HF rfl rfl (yl_move rfl (HF.ev rfl)) ?_; clear HF; clear a; intro a HF
            refine wl_y rfl HF rfl rfl (yl_addI rfl (HF.ev rfl) (HF.ev rfl) (i64w (by omega))) ?_; clear HF; clear a; intro a HF
            refine wl_y rfl HF rfl rfl (yl_assign rfl (HF.ev rfl)) ?_; clear HF; clear a; intro a HF
            refine wpList_nil ?_
            refine ex_then ?_
            replace HS : Bx (St w0 ([boxA b3 6 48 (.agg #[.int .i64 q.1.fRoom, .int .i64 q.1.fGoal, .slice g2 q.1.fOnce.length h2, .slice g3 q.1.fOften.length h3, .slice g4 q.1.fPast.length h4, .slice g5 q.1.fFormer.length h5]), rowA encI 1 3 (.slice g2 q.1.fOnce.length h2) q.1.fOnce, rowA encI 1 3 (.slice g3 q.1.fOften.length h3) q.1.fOften, rowA encI 1 3 (.slice g4 q.1.fPast.length h4) q.1.fPast, rowA encI 1 3 (.slice g5 q.1.fFormer.length h5) q.1.fFormer, boxA b2 6 48 (.agg #[.int .i64 0, .int .i64 0, .slice none 0 0, .slice none 0 0, .slice none 0 0, .slice none 0 0]), boxA b1 6 48 (.agg #[.int .i64 c.fRoom, .int .i64 c.fGoal, .slice a2 c.fOnce.length c2, .slice a3 c.fOften.length c3, .slice a4 c.fPast.length c4, .slice a5 c.fFormer.length c5]), boxA b5 6 48 (.agg #[.int .i64 q.1.fRoom, .int .i64 q.1.fGoal, .slice g2 q.1.fOnce.length h2, .slice g3 q.1.fOften.length h3, .slice g4 q.1.fPast.length h4, .slice g5 q.1.fFormer.length h5])]) _) := ⟨(((((((HS.out).pick 7 rfl).pick 7 rfl).pick 5 rfl).pick 5 rfl).pick 5 rfl).pick 5 rfl).pick 7 rfl⟩
            have hst : c.playP (rs.take (k + 1)) = (q.1, p.2) := by rw [play_succ c rs k (by omega), ← hp]; unfold CacheD.stepP; rw [if_pos hin, ← hq, if_neg (by rw [hit]; simp)]
            exact ⟨k + 1, ⟨g2, h2, g3, h3, g4, h4, g5, h5, by omega, by rw [hst]; exact HF.less _ ⟨rfl, rfl, rfl, rfl, rfl, rfl, trivial⟩, by rw [hst]; exact (HS.out.erase 7)⟩, by omega⟩
      · clear HF; have HF := HF1; clear HF1
        have hin := cc3
        refine wc_false HF rfl ?_
        refine wp_skip ?_
        refine ex_block ?_
        refine ex_then ?_
        refine wp_region_lit ?_
        refine wl_y rfl HF rfl rfl (yl_move rfl (HF.ev rfl)) ?_; clear HF; clear a; intro a HF
        refine wl_y rfl HF rfl rfl (yl_addI rfl (HF.ev rfl) (HF.ev rfl) (i64w (by omega))) ?_; clear HF; clear a; intro a HF
        refine wl_y rfl HF rfl rfl (yl_assign rfl (HF.ev rfl)) ?_; clear HF; clear a; intro a HF
        refine wpList_nil ?_
        refine ex_then ?_
        replace HS : Bx (St w0 ([boxA b3 6 48 (.agg #[.int .i64 p.1.fRoom, .int .i64 p.1.fGoal, .slice d2 p.1.fOnce.length f2, .slice d3 p.1.fOften.length f3, .slice d4 p.1.fPast.length f4, .slice d5 p.1.fFormer.length f5]), rowA encI 1 3 (.slice d2 p.1.fOnce.length f2) p.1.fOnce, rowA encI 1 3 (.slice d3 p.1.fOften.length f3) p.1.fOften, rowA encI 1 3 (.slice d4 p.1.fPast.length f4) p.1.fPast, rowA encI 1 3 (.slice d5 p.1.fFormer.length f5) p.1.fFormer, boxA b2 6 48 (.agg #[.int .i64 0, .int .i64 0, .slice none 0 0, .slice none 0 0, .slice none 0 0, .slice none 0 0]), boxA b1 6 48 (.agg #[.int .i64 c.fRoom, .int .i64 c.fGoal, .slice a2 c.fOnce.length c2, .slice a3 c.fOften.length c3, .slice a4 c.fPast.length c4, .slice a5 c.fFormer.length c5])]) _) := ⟨(((((((HS.out).pick 6 rfl).pick 6 rfl).pick 6 rfl).pick 6 rfl).pick 6 rfl).pick 6 rfl).pick 6 rfl⟩
        have hst : c.playP (rs.take (k + 1)) = p := by rw [play_succ c rs k (by omega), ← hp]; unfold CacheD.stepP; rw [if_neg (by rw [hin]; simp)]
        exact ⟨k + 1, ⟨d2, f2, d3, f3, d4, f4, d5, f5, by omega, by rw [hst]; exact HF.less _ ⟨rfl, rfl, rfl, rfl, rfl, rfl, trivial⟩, by rw [hst]; exact HS.out⟩, by omega⟩
    · clear HF; have HF := HF1; clear HF1
      have cc2 := of_decide_eq_false cc2
      refine wc_false HF rfl ?_
      refine wp_exit ?_
      refine ex_then_exit ?_
      refine ex_then_exit ?_
      refine ex_block_hit ?_
      refine ex_then ?_
      refine wp_seq ?_
      refine wp_region_lit ?_
      refine wl_y rfl HF rfl rfl (yl_loadR (cs := [.int .i64 p.1.fRoom, .int .i64 p.1.fGoal, .slice d2 p.1.fOnce.length f2, .slice d3 p.1.fOften.length f3, .slice d4 p.1.fPast.length f4, .slice d5 p.1.fFormer.length f5]) rfl (HF.ev rfl) ((HS.out.box 0 rfl).sub 0 6) (by kernel_rfl)) ?_; clear HF; clear a; intro a HF
      refine wl_call rfl HF rfl (enter_of Try.func58 (by kernel_rfl) rfl) (args := #[.agg #[.int .i64 p.1.fRoom, .int .i64 p.1.fGoal, .slice d2 p.1.fOnce.length f2, .slice d3 p.1.fOften.length f3, .slice d4 p.1.fPast.length f4, .slice d5 p.1.fFormer.length f5]]) rfl (l27Copy_any _ p.1 _ (CacheD.reads_of HS.out p.1 _ _ _ _ _ _ _ _ 1 2 3 4 rfl rfl rfl rfl) hpi.1.fit) rfl rfl ?_
      rintro _ w21 ⟨_, rfl, ho, hb⟩
      obtain ⟨x2, y2, x3, y3, x4, y4, x5, y5, rfl, hn⟩ := CacheD.own_st ho hb
      refine ⟨_, rfl, ?_⟩; replace HS := Bx.mk (HS.out.add hn); clear ho hb hn HF; clear a; intro a HF
      replace HS : Bx (St w0 ([rowA encI 1 3 (.slice x2 p.1.fOnce.length y2) p.1.fOnce, rowA encI 1 3 (.slice x3 p.1.fOften.length y3) p.1.fOften, rowA encI 1 3 (.slice x4 p.1.fPast.length y4) p.1.fPast, rowA encI 1 3 (.slice x5 p.1.fFormer.length y5) p.1.fFormer, boxA b3 6 48 (.agg #[.int .i64 p.1.fRoom, .int .i64 p.1.fGoal, .slice d2 p.1.fOnce.length f2, .slice d3 p.1.fOften.length f3, .slice d4 p.1.fPast.length f4, .slice d5 p.1.fFormer.length f5]), rowA encI 1 3 (.slice d2 p.1.fOnce.length f2) p.1.fOnce, rowA encI 1 3 (.slice d3 p.1.fOften.length f3) p.1.fOften, rowA encI 1 3 (.slice d4 p.1.fPast.length f4) p.1.fPast, rowA encI 1 3 (.slice d5 p.1.fFormer.length f5) p.1.fFormer, boxA b2 6 48 (.agg #[.int .i64 0, .int .i64 0, .slice none 0 0, .slice none 0 0, .slice none 0 0, .slice none 0 0]), boxA b1 6 48 (.agg #[.int .i64 c.fRoom, .int .i64 c.fGoal, .slice a2 c.fOnce.length c2, .slice a3 c.fOften.length c3, .slice a4 c.fPast.length c4, .slice a5 c.fFormer.length c5])]) _) := ⟨HS.out⟩
      refine wl_y rfl HF rfl rfl (yl_move rfl (HF.ev rfl)) ?_; clear HF; clear a; intro a HF
      refine wl_storeBox rfl HF rfl rfl (HF.ev rfl) (HF.ev rfl) HS.out 9 rfl (cells_lit [.int .i64 p.1.fRoom, .int .i64 p.1.fGoal, .slice x2 p.1.fOnce.length y2, .slice x3 p.1.fOften.length y3, .slice x4 p.1.fPast.length y4, .slice x5 p.1.fFormer.length y5] rfl rfl) (by kernel_rfl) ?_; clear HS; intro w22 HS; replace HS := Bx.mk HS
      have HS : Bx (St w0 ([rowA encI 1 3 (.slice x2 p.1.fOnce.length y2) p.1.fOnce, rowA encI 1 3 (.slice x3 p.1.fOften.length y3) p.1.fOften, rowA encI 1 3 (.slice x4 p.1.fPast.length y4) p.1.fPast, rowA encI 1 3 (.slice x5 p.1.fFormer.length y5) p.1.fFormer, boxA b3 6 48 (.agg #[.int .i64 p.1.fRoom, .int .i64 p.1.fGoal, .slice d2 p.1.fOnce.length f2, .slice d3 p.1.fOften.length f3, .slice d4 p.1.fPast.length f4, .slice d5 p.1.fFormer.length f5]), rowA encI 1 3 (.slice d2 p.1.fOnce.length f2) p.1.fOnce, rowA encI 1 3 (.slice d3 p.1.fOften.length f3) p.1.fOften, rowA encI 1 3 (.slice d4 p.1.fPast.length f4) p.1.fPast, rowA encI 1 3 (.slice d5 p.1.fFormer.length f5) p.1.fFormer, boxA b2 6 48 (.agg #[.int .i64 p.1.fRoom, .int .i64 p.1.fGoal, .slice x2 p.1.fOnce.length y2, .slice x3 p.1.fOften.length y3, .slice x4 p.1.fPast.length y4, .slice x5 p.1.fFormer.length y5]), boxA b1 6 48 (.agg #[.int .i64 c.fRoom, .int .i64 c.fGoal, .slice a2 c.fOnce.length c2, .slice a3 c.fOften.length c3, .slice a4 c.fPast.length c4, .slice a5 c.fFormer.length c5])]) _) := HS
      refine wl_y rfl HF rfl rfl (yl_assign rfl (HF.ev rfl)) ?_; clear HF; clear a; intro a HF
      refine wpList_nil ?_
      refine ex_then ?_
      refine wp_ret ?_
      refine bp_ret2 HF Try.results22 (HF.resBox rfl (HS.out.box 9 rfl) (by kernel_rfl)) (HF.res rfl) ?_
      replace HS : Bx (St w0 ([rowA encI 1 3 (.slice x2 p.1.fOnce.length y2) p.1.fOnce, rowA encI 1 3 (.slice x3 p.1.fOften.length y3) p.1.fOften, rowA encI 1 3 (.slice x4 p.1.fPast.length y4) p.1.fPast, rowA encI 1 3 (.slice x5 p.1.fFormer.length y5) p.1.fFormer, boxA b3 6 48 (.agg #[.int .i64 p.1.fRoom, .int .i64 p.1.fGoal, .slice d2 p.1.fOnce.length f2, .slice d3 p.1.fOften.length f3, .slice d4 p.1.fPast.length f4, .slice d5 p.1.fFormer.length f5]), rowA encI 1 3 (.slice d2 p.1.fOnce.length f2) p.1.fOnce, rowA encI 1 3 (.slice d3 p.1.fOften.length f3) p.1.fOften, rowA encI 1 3 (.slice d4 p.1.fPast.length f4) p.1.fPast, rowA encI 1 3 (.slice d5 p.1.fFormer.length f5) p.1.fFormer, boxA b2 6 48 (.agg #[.int .i64 p.1.fRoom, .int .i64 p.1.fGoal, .slice x2 p.1.fOnce.length y2, .slice x3 p.1.fOften.length y3, .slice x4 p.1.fPast.length y4, .slice x5 p.1.fFormer.length y5]), boxA b1 6 48 (.agg #[.int .i64 c.fRoom, .int .i64 c.fGoal, .slice a2 c.fOnce.length c2, .slice a3 c.fOften.length c3, .slice a4 c.fPast.length c4, .slice a5 c.fFormer.length c5])]) _) := ⟨((((HS.out).pick 3 rfl).pick 3 rfl).pick 3 rfl).pick 3 rfl⟩
      have hkl : k = rs.length := by omega
      rw [hkl, List.take_length] at hp
      have hpl : c.play rs = p := by unfold CacheD.play; rw [if_pos hok, hp]
      rw [hpl]; exact ⟨_, rfl, CacheD.st_own HS.out, HS.out.bel⟩

end Go.Proofs.Ytkgmilobmbeplaa
