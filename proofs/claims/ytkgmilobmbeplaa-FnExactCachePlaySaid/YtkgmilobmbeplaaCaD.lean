/- The cache, walked: Concat, CacheOk of both. -/
import Derived.Test.YtkgmilobmbeplaaCaC
namespace Go.Proofs.Ytkgmilobmbeplaa
open Go.RowKit

set_option maxHeartbeats 1000000 in
set_option maxRecDepth 100000 in
theorem concat_any (w0 w : World) (b : Nat) (L : List PackD) (F : List Asr) (hl : L.length ≤ 1000) (ht : (catL L).length ≤ 4194304) (hR : ∀ p ∈ L, Rd encI 1 w0 p.1 p.2.2.length p.2.2) (hS : St w0 (rowA encP 1 44 (.slice (some ⟨b, 0, none⟩) L.length L.length) L :: F) w) : Calls Try.prog 107 #[.slice (some ⟨b, 0, none⟩) L.length L.length] w fun e w' => ∃ ao cp, e = .returned (.slice ao (catL L).length cp) ∧ St w0 (rowA encI 1 3 (.slice ao (catL L).length cp) (catL L) :: F) w' := by
  have HS := Bx.mk hS
  clear hS
  refine wc_enter Try.func107 rfl Try.ntmps107 [(0, .slice (some ⟨b, 0, none⟩) L.length L.length)] ⟨rfl, trivial⟩ rfl ?_; intro a HF
  refine wp_seq ?_
  refine wp_region_lit ?_
  refine wl_y rfl HF rfl rfl (yl_assign rfl (HF.ev rfl)) ?_; clear HF; clear a; intro a HF
  refine wpList_nil ?_
  refine ex_then ?_
  refine wp_seq ?_
  refine wp_region_lit ?_
  refine wl_y rfl HF rfl rfl (yl_assign rfl (HF.ev rfl)) ?_; clear HF; clear a; intro a HF
  refine wpList_nil ?_
  refine ex_then ?_
  refine wp_seq ?_
  refine wp_seq ?_
  refine wp_region_lit ?_
  refine wl_y rfl HF rfl rfl (yl_move rfl (HF.ev rfl)) ?_; clear HF; clear a; intro a HF
  refine wl_y rfl HF rfl rfl (yl_lenL (e := 44) (size := 1) rfl (HF.ev rfl) (by kernel_rfl)) ?_; clear HF; clear a; intro a HF
  refine wl_y rfl HF rfl rfl (yl_move rfl (HF.ev rfl)) ?_; clear HF; clear a; intro a HF
  refine wpList_nil ?_
  refine ex_then ?_
  refine wp_block ?_
  refine wc_loop (ι := Nat) (fun k a w => (k ≤ L.length) ∧ Fr 36 a [(0, .slice (some ⟨b, 0, none⟩) L.length L.length), (9, .slice (some ⟨b, 0, none⟩) L.length L.length), (10, .int .i64 (L.length : Int)), (11, .int .i64 (k : Int)), (3, .int .i64 ((catL (L.take k)).length : Int))] ∧ St w0 (rowA encP 1 44 (.slice (some ⟨b, 0, none⟩) L.length L.length) L :: F) w) (fun k => L.length - k) 0 ⟨by omega, HF.less _ ⟨rfl, rfl, rfl, rfl, rfl, trivial⟩, HS.out⟩ ?_
  clear HF HS; clear a
  rintro k a w1 ⟨hk, HF, HS⟩
  replace HS := Bx.mk HS
  refine wp_seq ?_
  refine wp_region_lit ?_
  refine wl_y rfl HF rfl rfl (yl_lssI rfl (HF.ev rfl) (HF.ev rfl)) ?_; clear HF; clear a; intro a HF
  refine wpList_nil ?_
  refine ex_then ?_
  refine wp_seq ?_
  refine HF.cases 12 rfl (fun cc1 HF1 => ?_) (fun cc1 HF1 => ?_)
  · clear HF; have HF := HF1; clear HF1
    have cc1 := of_decide_eq_true cc1
    refine wc_true HF rfl ?_
    refine wp_skip ?_
    refine ex_then ?_
    refine wp_seq ?_
    refine wp_block ?_
    refine wp_seq ?_
    refine wp_region_lit ?_
    refine wl_y rfl HF rfl rfl (yl_indexAddr (e := 44) (i := k) (size := 1) rfl (HF.ev rfl) (HF.ev rfl) (by kernel_rfl) rfl (by omega)) ?_; clear HF; clear a; intro a HF
    refine wl_y rfl HF rfl rfl (yl_load (v := .slice ((L.getD k pz).1) ((L.getD k pz).2.2.length) ((L.getD k pz).2.1)) rfl (HF.ev rfl) (HS.out.elem1 encP_len 0 rfl (get_getD (xs := L) (j := k) (d := pz) (by omega)) rfl) (by kernel_rfl)) ?_; clear HF; clear a; intro a HF
    refine wl_y rfl HF rfl rfl (yl_assign rfl (HF.ev rfl)) ?_; clear HF; clear a; intro a HF
    refine wpList_nil ?_
    refine ex_then ?_
    refine wp_seq ?_
    have hcs : (catL (L.take (k + 1))).length = (catL (L.take k)).length + (L.getD k pz).2.2.length := by rw [catL_succ L k (by omega), List.length_append]
    have hcl := catL_le L (k + 1)
    refine wp_region_lit ?_
    refine wl_y rfl HF rfl rfl (yl_move rfl (HF.ev rfl)) ?_; clear HF; clear a; intro a HF
    refine wl_y rfl HF rfl rfl (yl_move rfl (HF.ev rfl)) ?_; clear HF; clear a; intro a HF
    refine wl_y rfl HF rfl rfl (yl_lenL (e := 3) (size := 1) rfl (HF.ev rfl) (by kernel_rfl)) ?_; clear HF; clear a; intro a HF
    refine wl_y rfl HF rfl rfl (yl_addI (r := ((catL (L.take (k + 1))).length : Int)) rfl (HF.ev rfl) (HF.ev rfl) ((i64w (by omega)).trans (by omega))) ?_; clear HF; clear a; intro a HF
    refine wl_y rfl HF rfl rfl (yl_assign rfl (HF.ev rfl)) ?_; clear HF; clear a; intro a HF
    refine wpList_nil ?_
    refine ex_then ?_
    refine wp_seq ?_
    refine wp_region_lit ?_
    refine wl_y rfl HF rfl rfl (yl_move rfl (HF.ev rfl)) ?_; clear HF; clear a; intro a HF
    refine wl_y rfl HF rfl rfl (yl_lssI rfl (HF.ev rfl) (HF.ev rfl)) ?_; clear HF; clear a; intro a HF
    refine wpList_nil ?_
    refine ex_then ?_
    refine HF.cases 20 rfl (fun cc2 HF1 => ?_) (fun cc2 HF1 => ?_)
    · clear HF; have HF := HF1; clear HF1
      exact absurd (of_decide_eq_true cc2) (by omega)
    · clear HF; have HF := HF1; clear HF1
      refine wc_false HF rfl ?_
      refine wp_skip ?_
      refine ex_block ?_
      refine ex_then ?_
      refine wp_region_lit ?_
      refine wl_y rfl HF rfl rfl (yl_addI rfl (HF.ev rfl) (HF.ev rfl) (i64w (by omega))) ?_; clear HF; clear a; intro a HF
      refine wl_y rfl HF rfl rfl (yl_move rfl (HF.ev rfl)) ?_; clear HF; clear a; intro a HF
      refine wpList_nil ?_
      refine ex_then ?_
      exact ⟨k + 1, ⟨by omega, HF.less _ ⟨rfl, rfl, rfl, rfl, rfl, trivial⟩, HS.out⟩, by omega⟩
  · clear HF; have HF := HF1; clear HF1
    have cc1 := of_decide_eq_false cc1
    refine wc_false HF rfl ?_
    refine wp_exit ?_
    refine ex_then_exit ?_
    refine ex_then_exit ?_
    refine ex_block_hit ?_
    refine ex_then ?_
    refine wp_seq ?_
    refine wp_region_lit ?_
    refine wl_y rfl HF rfl rfl (yl_move rfl (HF.ev rfl)) ?_; clear HF; clear a; intro a HF
    refine wl_call rfl HF rfl (enter_of Try.func130 (by kernel_rfl) rfl) (args := #[.slice none 0 0, .int .i64 ((catL (L.take k)).length : Int)]) rfl (growI_any w0 _ _ (catL (L.take k)).length (Nat.le_trans (catL_le L _) (by omega)) HS.out) rfl rfl ?_
    rintro _ w2 ⟨ao, cp, rfl, hs1⟩
    refine ⟨_, rfl, ?_⟩; replace HS := Bx.mk hs1; clear hs1 HF; clear a; intro a HF
    refine wl_y rfl HF rfl rfl (yl_assign rfl (HF.ev rfl)) ?_; clear HF; clear a; intro a HF
    refine wpList_nil ?_
    refine ex_then ?_
    refine wp_seq ?_
    refine wp_seq ?_
    refine wp_region_lit ?_
    refine wl_y rfl HF rfl rfl (yl_move rfl (HF.ev rfl)) ?_; clear HF; clear a; intro a HF
    refine wl_y rfl HF rfl rfl (yl_lenL (e := 44) (size := 1) rfl (HF.ev rfl) (by kernel_rfl)) ?_; clear HF; clear a; intro a HF
    refine wl_y rfl HF rfl rfl (yl_move rfl (HF.ev rfl)) ?_; clear HF; clear a; intro a HF
    refine wpList_nil ?_
    refine ex_then ?_
    refine wp_block ?_
    replace HS : Bx (St w0 (rowA encI 1 3 (.slice ao 0 cp) ([]) :: rowA encP 1 44 (.slice (some ⟨b, 0, none⟩) L.length L.length) L :: F) _) := ⟨((HS.out).pick 1 rfl).pick 1 rfl⟩
    refine wc_loop (ι := Nat) (fun k a w => ∃ (ao : Option Addr) (cp : Nat), (k ≤ L.length) ∧ Fr 36 a [(25, .slice (some ⟨b, 0, none⟩) L.length L.length), (26, .int .i64 (L.length : Int)), (27, .int .i64 (k : Int)), (6, .slice ao ((catL (L.take k)).length) cp)] ∧ St w0 (rowA encI 1 3 (.slice ao ((catL (L.take k)).length) cp) (catL (L.take k)) :: rowA encP 1 44 (.slice (some ⟨b, 0, none⟩) L.length L.length) L :: F) w) (fun k => L.length - k) 0 ⟨_, _, by omega, HF.less _ ⟨rfl, rfl, rfl, rfl, trivial⟩, HS.out⟩ ?_
    clear HF HS; clear a
    rintro k a w3 ⟨ao, cp, hk, HF, HS⟩
    replace HS := Bx.mk HS
    refine wp_seq ?_
    refine wp_region_lit ?_
    refine wl_y rfl HF rfl rfl (yl_lssI rfl (HF.ev rfl) (HF.ev rfl)) ?_; clear HF; clear a; intro a HF
    refine wpList_nil ?_
    refine ex_then ?_
    refine wp_seq ?_
    refine HF.cases 28 rfl (fun cc3 HF1 => ?_) (fun cc3 HF1 => ?_)
    · clear HF; have HF := HF1; clear HF1
      have cc3 := of_decide_eq_true cc3
      refine wc_true HF rfl ?_
      refine wp_skip ?_
      refine ex_then ?_
      refine wp_seq ?_
      refine wp_block ?_
      refine wp_seq ?_
      refine wp_region_lit ?_
      refine wl_y rfl HF rfl rfl (yl_indexAddr (e := 44) (i := k) (size := 1) rfl (HF.ev rfl) (HF.ev rfl) (by kernel_rfl) rfl (by omega)) ?_; clear HF; clear a; intro a HF
      refine wl_y rfl HF rfl rfl (yl_load (v := .slice ((L.getD k pz).1) ((L.getD k pz).2.2.length) ((L.getD k pz).2.1)) rfl (HF.ev rfl) (HS.out.elem1 encP_len 1 rfl (get_getD (xs := L) (j := k) (d := pz) (by omega)) rfl) (by kernel_rfl)) ?_; clear HF; clear a; intro a HF
      refine wl_y rfl HF rfl rfl (yl_assign rfl (HF.ev rfl)) ?_; clear HF; clear a; intro a HF
      refine wpList_nil ?_
      refine ex_then ?_
      have hcs := catL_succ L k (by omega)
      have hcl := catL_le L (k + 1)
      rw [hcs, List.length_append] at hcl
      have hrd := (hR _ (getD_mem (show k < L.length by omega))).below HS.out.bel
      refine wp_region_lit ?_
      refine wl_y rfl HF rfl rfl (yl_move rfl (HF.ev rfl)) ?_; clear HF; clear a; intro a HF
      refine wl_y rfl HF rfl rfl (yl_move rfl (HF.ev rfl)) ?_; clear HF; clear a; intro a HF
      refine wl_appL rfl HF rfl rfl rfl (HF.ev rfl) (HF.ev rfl) elemI encI_len HS.out 0 (xs := catL (L.take k)) rfl (ys := (L.getD k pz).2.2) hrd (cells_one_I _) (by unfold maxLen; omega) (by omega) ?_; clear HF HS; clear a; intro ao1 cp2 w4 a HF HS; replace HS := Bx.mk HS
      have HS : Bx (St w0 (rowA encI 1 3 (.slice ao1 ((catL (L.take k)).length + ((L.getD k pz).2.2).length) cp2) ((catL (L.take k)) ++ ((L.getD k pz).2.2)) :: rowA encP 1 44 (.slice (some ⟨b, 0, none⟩) L.length L.length) L :: F) _) := HS
      refine wl_y rfl HF rfl rfl (yl_assign rfl (HF.ev rfl)) ?_; clear HF; clear a; intro a HF
      refine wpList_nil ?_
      refine ex_block ?_
      refine ex_then ?_
      refine wp_region_lit ?_
      refine wl_y rfl HF rfl rfl (yl_addI rfl (HF.ev rfl) (HF.ev rfl) (i64w (by omega))) ?_; clear HF; clear a; intro a HF
      refine wl_y rfl HF rfl rfl (yl_move rfl (HF.ev rfl)) ?_; clear HF; clear a; intro a HF
      refine wpList_nil ?_
      refine ex_then ?_
      replace HS : Bx (St w0 (rowA encI 1 3 (.slice ao1 ((catL (L.take k)).length + ((L.getD k pz).2.2).length) cp2) ((catL (L.take k)) ++ ((L.getD k pz).2.2)) :: rowA encP 1 44 (.slice (some ⟨b, 0, none⟩) L.length L.length) L :: F) _) := ⟨((HS.out).pick 1 rfl).pick 1 rfl⟩
      exact ⟨k + 1, ⟨_, _, by omega, by rw [hcs, List.length_append]; exact HF.less _ ⟨rfl, rfl, rfl, rfl, trivial⟩, by rw [hcs, List.length_append]; exact HS.out⟩, by omega⟩
    · clear HF; have HF := HF1; clear HF1
      have cc3 := of_decide_eq_false cc3
      refine wc_false HF rfl ?_
      refine wp_exit ?_
      refine ex_then_exit ?_
      refine ex_then_exit ?_
      refine ex_block_hit ?_
      refine ex_then ?_
      refine wp_seq ?_
      refine wp_region_lit ?_
      refine wl_y rfl HF rfl rfl (yl_move rfl (HF.ev rfl)) ?_; clear HF; clear a; intro a HF
      refine wl_y rfl HF rfl rfl (yl_assign rfl (HF.ev rfl)) ?_; clear HF; clear a; intro a HF
      refine wpList_nil ?_
      refine ex_then ?_
      refine wp_ret ?_
      refine bp_ret1 HF Try.results107 (HF.res rfl) ?_
      replace HS : Bx (St w0 (rowA encI 1 3 (.slice ao ((catL (L.take k)).length) cp) (catL (L.take k)) :: rowA encP 1 44 (.slice (some ⟨b, 0, none⟩) L.length L.length) L :: F) _) := ⟨((HS.out).pick 1 rfl).pick 1 rfl⟩
      have hkl : k = L.length := by omega
      rw [hkl, List.take_length] at HS
      refine ⟨_, _, by rw [hkl, List.take_length], HS.out.erase 1⟩

end Go.Proofs.Ytkgmilobmbeplaa
