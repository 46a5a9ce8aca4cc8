/- The cache, walked: front, last, without of the program. -/
import Derived.Test.YtkgmilobmbeplaaRowI
namespace Go.Proofs.Ytkgmilobmbeplaa
open Go.RowKit

set_option maxHeartbeats 2000000 in
set_option maxRecDepth 100000 in
theorem front_any (w0 w : World) (b k : Nat) (A : Array Value) (ao : Option Addr) (cap : Nat) (xs : List Int) (r : Int) (F : List Asr) (hk : A[k]? = some (.slice ao xs.length cap)) (hl : xs.length ≤ 1000) (hS : St w0 (boxA b 6 48 (.agg A) :: rowA encI 1 3 (.slice ao xs.length cap) xs :: F) w) : Calls Try.prog 111 #[.pointer (some ⟨b, k, none⟩), .int .i64 r] w fun e w' => e = .returned (.tuple #[]) ∧ ∃ ao' cap', St w0 (boxA b 6 48 (.agg (A.setIfInBounds k (Value.slice ao' (xs.length + 1) cap'))) :: rowA encI 1 3 (Value.slice ao' (xs.length + 1) cap') (r :: xs) :: F) w' := by
  have HS := Bx.mk hS
  clear hS
  refine wc_enter Try.func111 rfl Try.ntmps111 [(0, .pointer (some ⟨b, k, none⟩)), (1, .int .i64 r)] ⟨rfl, rfl, trivial⟩ rfl ?_; intro a HF
  refine wp_region_lit ?_
  refine wl_y rfl HF rfl rfl (yl_move rfl (HF.ev rfl)) ?_; clear HF; clear a; intro a HF
  refine wl_y rfl HF rfl rfl (yl_move rfl (HF.ev rfl)) ?_; clear HF; clear a; intro a HF
  refine wl_y rfl HF rfl rfl (yl_nilCheck rfl (HF.ev rfl)) ?_; clear HF; clear a; intro a HF
  refine wl_y rfl HF rfl rfl (yl_load (v := .slice ao xs.length cap) rfl (HF.ev rfl) (((HS.out.box 0 rfl).cell k).trans hk) (by kernel_rfl)) ?_; clear HF; clear a; intro a HF
  refine wl_y rfl HF rfl rfl (yl_move rfl (HF.ev rfl)) ?_; clear HF; clear a; intro a HF
  refine wl_buildS (enc := encI) (e := 3) (size := 1) rfl HF rfl rfl rfl (ps := [(0, .int .i64 r)]) rfl (cells := [.int .i64 r]) (by kernel_rfl) [r] rfl rfl (by unfold maxLen; omega) rfl HS.out ?_; clear HF HS; clear a; intro b1 a w1 HF HS; replace HS := Bx.mk HS
  replace HS : Bx (St w0 (rowA encI 1 3 (.slice ao xs.length cap) xs :: rowA encI 1 3 (.slice (some ⟨b1, 0, none⟩) 1 1) ([r]) :: boxA b 6 48 (.agg A) :: F) _) := ⟨((HS.out).pick 0 rfl).pick 2 rfl⟩
  refine wl_call rfl HF rfl (enter_of Try.func133 (by kernel_rfl) rfl) (args := #[.slice ao xs.length cap, .int .i64 0, .slice (some ⟨b1, 0, none⟩) 1 1]) rfl (insert0_any w0 _ _ _ _ _ r _ (by omega) HS.out) rfl rfl ?_
  rintro _ w2 ⟨ao1, cap1, rfl, hs1⟩
  refine ⟨_, rfl, ?_⟩; replace HS := Bx.mk hs1; clear hs1 HF; clear a; intro a HF
  replace HS : Bx (St w0 (boxA b 6 48 (.agg A) :: rowA encI 1 3 (.slice ao1 (xs.length + 1) cap1) (r :: xs) :: F) _) := ⟨((HS.out).pick 0 rfl).pick 1 rfl⟩
  refine wl_y rfl HF rfl rfl (yl_nilCheck rfl (HF.ev rfl)) ?_; clear HF; clear a; intro a HF
  refine wl_storeF rfl rfl rfl (HF.ev rfl) (HF.ev rfl) (by kernel_rfl) HS.out 0 rfl (blt_of_get hk) rfl ?_; clear HS; intro w3 HS; replace HS := Bx.mk HS
  have HS : Bx (St w0 (boxA b 6 48 (.agg (A.setIfInBounds k (.slice ao1 (xs.length + 1) cap1))) :: rowA encI 1 3 (.slice ao1 (xs.length + 1) cap1) (r :: xs) :: F) _) := HS
  refine wpList_nil ?_
  refine bp_end0 HF Try.results111 ?_
  exact ⟨rfl, _, _, HS.out⟩

set_option maxHeartbeats 2000000 in
set_option maxRecDepth 100000 in
theorem last_any (w0 w : World) (b k : Nat) (A : Array Value) (ao : Option Addr) (cap : Nat) (xs : List Int) (F : List Asr) (hk : A[k]? = some (.slice ao xs.length cap)) (hl : xs.length ≤ 1000) (hS : St w0 (boxA b 6 48 (.agg A) :: rowA encI 1 3 (.slice ao xs.length cap) xs :: F) w) (hp : 0 < xs.length) : Calls Try.prog 113 #[.pointer (some ⟨b, k, none⟩)] w fun e w' => e = .returned (.int .i64 (lastI xs)) ∧ St w0 (boxA b 6 48 (.agg (A.setIfInBounds k (Value.slice ao xs.dropLast.length cap))) :: rowA encI 1 3 (Value.slice ao xs.dropLast.length cap) xs.dropLast :: F) w' := by
  obtain ⟨g, rfl, _, _, _, _⟩ := hS.rowOpen 1 rfl hp
  have HS := Bx.mk hS
  clear hS
  refine wc_enter Try.func113 rfl Try.ntmps113 [(0, .pointer (some ⟨b, k, none⟩))] ⟨rfl, trivial⟩ rfl ?_; intro a HF
  refine wp_seq ?_
  refine wp_region_lit ?_
  refine wl_y rfl HF rfl rfl (yl_assign rfl (HF.ev rfl)) ?_; clear HF; clear a; intro a HF
  refine wpList_nil ?_
  refine ex_then ?_
  refine wp_seq ?_
  refine wp_region_lit ?_
  refine wl_y rfl HF rfl rfl (yl_move rfl (HF.ev rfl)) ?_; clear HF; clear a; intro a HF
  refine wl_y rfl HF rfl rfl (yl_nilCheck rfl (HF.ev rfl)) ?_; clear HF; clear a; intro a HF
  refine wl_y rfl HF rfl rfl (yl_load (v := .slice (some ⟨g, 0, none⟩) xs.length cap) rfl (HF.ev rfl) (((HS.out.box 0 rfl).cell k).trans hk) (by kernel_rfl)) ?_; clear HF; clear a; intro a HF
  refine wl_y rfl HF rfl rfl (yl_lenL (e := 3) (size := 1) rfl (HF.ev rfl) (by kernel_rfl)) ?_; clear HF; clear a; intro a HF
  refine wl_y rfl HF rfl rfl (yl_subI (r := ((xs.length - 1 : Nat) : Int)) rfl (HF.ev rfl) (HF.ev rfl) ((i64w (by omega)).trans (by omega))) ?_; clear HF; clear a; intro a HF
  refine wl_y rfl HF rfl rfl (yl_assign rfl (HF.ev rfl)) ?_; clear HF; clear a; intro a HF
  refine wpList_nil ?_
  refine ex_then ?_
  refine wp_seq ?_
  refine wp_region_lit ?_
  refine wl_y rfl HF rfl rfl (yl_move rfl (HF.ev rfl)) ?_; clear HF; clear a; intro a HF
  refine wl_y rfl HF rfl rfl (yl_nilCheck rfl (HF.ev rfl)) ?_; clear HF; clear a; intro a HF
  refine wl_y rfl HF rfl rfl (yl_load (v := .slice (some ⟨g, 0, none⟩) xs.length cap) rfl (HF.ev rfl) (((HS.out.box 0 rfl).cell k).trans hk) (by kernel_rfl)) ?_; clear HF; clear a; intro a HF
  refine wl_y rfl HF rfl rfl (yl_move rfl (HF.ev rfl)) ?_; clear HF; clear a; intro a HF
  refine wl_y rfl HF rfl rfl (yl_indexAddr (e := 3) (i := xs.length - 1) (size := 1) rfl (HF.ev rfl) (HF.ev rfl) (by kernel_rfl) rfl (by omega)) ?_; clear HF; clear a; intro a HF
  refine wl_y rfl HF rfl rfl (yl_load (v := .int .i64 (xs.getD (xs.length - 1) 0)) rfl (HF.ev rfl) (HS.out.elem1 encI_len 1 rfl (get_getD (xs := xs) (j := xs.length - 1) (d := 0) (by omega)) rfl) (by kernel_rfl)) ?_; clear HF; clear a; intro a HF
  refine wl_y rfl HF rfl rfl (yl_assign rfl (HF.ev rfl)) ?_; clear HF; clear a; intro a HF
  refine wpList_nil ?_
  refine ex_then ?_
  refine wp_seq ?_
  refine wp_region_lit ?_
  refine wl_y rfl HF rfl rfl (yl_move rfl (HF.ev rfl)) ?_; clear HF; clear a; intro a HF
  refine wl_y rfl HF rfl rfl (yl_move rfl (HF.ev rfl)) ?_; clear HF; clear a; intro a HF
  refine wl_y rfl HF rfl rfl (yl_nilCheck rfl (HF.ev rfl)) ?_; clear HF; clear a; intro a HF
  refine wl_y rfl HF rfl rfl (yl_load (v := .slice (some ⟨g, 0, none⟩) xs.length cap) rfl (HF.ev rfl) (((HS.out.box 0 rfl).cell k).trans hk) (by kernel_rfl)) ?_; clear HF; clear a; intro a HF
  refine wl_y rfl HF rfl rfl (yl_move rfl (HF.ev rfl)) ?_; clear HF; clear a; intro a HF
  refine wl_y rfl HF rfl rfl (yl_sliceHi (e := 3) (size := 1) (k := xs.length - 1) rfl (HF.ev rfl) (HF.ev rfl) (by kernel_rfl) (by omega) (Nat.le_trans (by omega) (St.capLe HS.out 1 rfl))) ?_; clear HF; clear a; intro a HF
  replace HS := Bx.mk (HS.out.rowDrop encI_len 1 rfl)
  have HS : Bx (St w0 (boxA b 6 48 (.agg A) :: rowA encI 1 3 (.slice (some ⟨g, 0, none⟩) (xs.length - 1) cap) xs.dropLast :: F) _) := HS
  refine wl_y rfl HF rfl rfl (yl_nilCheck rfl (HF.ev rfl)) ?_; clear HF; clear a; intro a HF
  refine wl_storeF rfl rfl rfl (HF.ev rfl) (HF.ev rfl) (by kernel_rfl) HS.out 0 rfl (blt_of_get hk) rfl ?_; clear HS; intro w1 HS; replace HS := Bx.mk HS
  have HS : Bx (St w0 (boxA b 6 48 (.agg (A.setIfInBounds k (.slice (some ⟨g, 0, none⟩) (xs.length - 1) cap))) :: rowA encI 1 3 (.slice (some ⟨g, 0, none⟩) (xs.length - 1) cap) xs.dropLast :: F) _) := HS
  refine wpList_nil ?_
  refine ex_then ?_
  refine wp_seq ?_
  refine wp_region_lit ?_
  refine wl_y rfl HF rfl rfl (yl_move rfl (HF.ev rfl)) ?_; clear HF; clear a; intro a HF
  refine wl_y rfl HF rfl rfl (yl_assign rfl (HF.ev rfl)) ?_; clear HF; clear a; intro a HF
  refine wpList_nil ?_
  refine ex_then ?_
  refine wp_ret ?_
  refine bp_ret1 HF Try.results113 (HF.res rfl) ?_
  exact ⟨rfl, by rw [List.length_dropLast]; exact HS.out⟩

set_option maxHeartbeats 2000000 in
set_option maxRecDepth 100000 in
theorem without_any (w0 w : World) (b k : Nat) (A : Array Value) (ao : Option Addr) (cap : Nat) (xs : List Int) (r : Int) (F : List Asr) (hk : A[k]? = some (.slice ao xs.length cap)) (hl : xs.length ≤ 1000) (hS : St w0 (boxA b 6 48 (.agg A) :: rowA encI 1 3 (.slice ao xs.length cap) xs :: F) w) : Calls Try.prog 110 #[.pointer (some ⟨b, k, none⟩), .int .i64 r] w fun e w' => (inI xs r = false ∧ e = .returned (.bool false) ∧ St w0 (boxA b 6 48 (.agg A) :: rowA encI 1 3 (.slice ao xs.length cap) xs :: F) w') ∨ (inI xs r = true ∧ e = .returned (.bool true) ∧ St w0 (boxA b 6 48 (.agg (A.setIfInBounds k (Value.slice ao (xs.erase r).length cap))) :: rowA encI 1 3 (Value.slice ao (xs.erase r).length cap) (xs.erase r) :: F) w') := by
  have HS := Bx.mk hS
  clear hS
  refine wc_enter Try.func110 rfl Try.ntmps110 [(0, .pointer (some ⟨b, k, none⟩)), (1, .int .i64 r)] ⟨rfl, rfl, trivial⟩ rfl ?_; intro a HF
  refine wp_seq ?_
  refine wp_region_lit ?_
  refine wl_y rfl HF rfl rfl (yl_assign rfl (HF.ev rfl)) ?_; clear HF; clear a; intro a HF
  refine wpList_nil ?_
  refine ex_then ?_
  refine wp_seq ?_
  refine wp_region_lit ?_
  refine wl_y rfl HF rfl rfl (yl_move rfl (HF.ev rfl)) ?_; clear HF; clear a; intro a HF
  refine wl_y rfl HF rfl rfl (yl_nilCheck rfl (HF.ev rfl)) ?_; clear HF; clear a; intro a HF
  refine wl_y rfl HF rfl rfl (yl_load (v := .slice ao xs.length cap) rfl (HF.ev rfl) (((HS.out.box 0 rfl).cell k).trans hk) (by kernel_rfl)) ?_; clear HF; clear a; intro a HF
  refine wl_y rfl HF rfl rfl (yl_move rfl (HF.ev rfl)) ?_; clear HF; clear a; intro a HF
  refine wl_call rfl HF rfl (enter_of Try.func131 (by kernel_rfl) rfl) (args := #[.slice ao xs.length cap, .int .i64 r]) rfl (indexI_any w0 _ _ 1 _ _ xs r (by omega) HS.out rfl) rfl rfl ?_
  rintro _ w1 ⟨rfl, hb⟩
  rcases idx_spec xs r with ⟨hin, hix⟩ | ⟨hin, i, hi, hix, her⟩
  · skip
    refine ⟨.int .i64 (-1), by rw [hix], ?_⟩; replace HS := Bx.mk (HS.out.later hb); clear hb HF; clear a; intro a HF
    refine wl_y rfl HF rfl rfl (yl_assign rfl (HF.ev rfl)) ?_; clear HF; clear a; intro a HF
    refine wpList_nil ?_
    refine ex_then ?_
    refine wp_seq ?_
    refine wp_seq ?_
    refine wp_region_lit ?_
    refine wl_y rfl HF rfl rfl (yl_move rfl (HF.ev rfl)) ?_; clear HF; clear a; intro a HF
    refine wl_y rfl HF rfl rfl (yl_geqI rfl (HF.ev rfl) (HF.ev rfl)) ?_; clear HF; clear a; intro a HF
    refine wpList_nil ?_
    refine ex_then ?_
    replace HF := HF.know (k := 12) (c := false) rfl (by decide)
    refine wc_false HF rfl ?_
    refine wp_skip ?_
    refine ex_then ?_
    refine wp_seq ?_
    refine wp_region_lit ?_
    refine wl_y rfl HF rfl rfl (yl_move rfl (HF.ev rfl)) ?_; clear HF; clear a; intro a HF
    refine wl_y rfl HF rfl rfl (yl_geqI rfl (HF.ev rfl) (HF.ev rfl)) ?_; clear HF; clear a; intro a HF
    refine wl_y rfl HF rfl rfl (yl_assign rfl (HF.ev rfl)) ?_; clear HF; clear a; intro a HF
    refine wpList_nil ?_
    refine ex_then ?_
    refine wp_ret ?_
    refine bp_ret1 HF Try.results110 (HF.res rfl) ?_
    exact .inl ⟨hin, rfl, HS.out⟩
  · skip
    refine ⟨.int .i64 (i : Int), by rw [hix], ?_⟩; replace HS := Bx.mk (HS.out.later hb); clear hb HF; clear a; intro a HF
    refine wl_y rfl HF rfl rfl (yl_assign rfl (HF.ev rfl)) ?_; clear HF; clear a; intro a HF
    refine wpList_nil ?_
    refine ex_then ?_
    refine wp_seq ?_
    refine wp_seq ?_
    refine wp_region_lit ?_
    refine wl_y rfl HF rfl rfl (yl_move rfl (HF.ev rfl)) ?_; clear HF; clear a; intro a HF
    refine wl_y rfl HF rfl rfl (yl_geqI rfl (HF.ev rfl) (HF.ev rfl)) ?_; clear HF; clear a; intro a HF
    refine wpList_nil ?_
    refine ex_then ?_
    refine HF.cases 12 rfl (fun cc1 HF1 => ?_) (fun cc1 HF1 => ?_)
    · clear HF; have HF := HF1; clear HF1
      refine wc_true HF rfl ?_
      refine wp_region_lit ?_
      refine wl_y rfl HF rfl rfl (yl_move rfl (HF.ev rfl)) ?_; clear HF; clear a; intro a HF
      refine wl_y rfl HF rfl rfl (yl_move rfl (HF.ev rfl)) ?_; clear HF; clear a; intro a HF
      refine wl_y rfl HF rfl rfl (yl_nilCheck rfl (HF.ev rfl)) ?_; clear HF; clear a; intro a HF
      refine wl_y rfl HF rfl rfl (yl_load (v := .slice ao xs.length cap) rfl (HF.ev rfl) (((HS.out.box 0 rfl).cell k).trans hk) (by kernel_rfl)) ?_; clear HF; clear a; intro a HF
      refine wl_y rfl HF rfl rfl (yl_move rfl (HF.ev rfl)) ?_; clear HF; clear a; intro a HF
      refine wl_y rfl HF rfl rfl (yl_move rfl (HF.ev rfl)) ?_; clear HF; clear a; intro a HF
      refine wl_y rfl HF rfl rfl (yl_addI rfl (HF.ev rfl) (HF.ev rfl) (i64w (by omega))) ?_; clear HF; clear a; intro a HF
      replace HS : Bx (St w0 (rowA encI 1 3 (.slice ao xs.length cap) xs :: boxA b 6 48 (.agg A) :: F) _) := ⟨(HS.out).pick 1 rfl⟩
      refine wl_call rfl HF rfl (enter_of Try.func132 (by kernel_rfl) rfl) (args := #[.slice ao xs.length cap, .int .i64 (i : Int), .int .i64 ((i : Int) + 1)]) rfl (deleteI_any w0 _ _ _ _ i _ (by omega) hi HS.out) rfl rfl ?_
      rintro _ w2 ⟨rfl, hs1⟩
      refine ⟨_, rfl, ?_⟩; rw [← her] at hs1; replace HS := Bx.mk hs1; clear hs1 HF; clear a; intro a HF
      replace HS : Bx (St w0 (boxA b 6 48 (.agg A) :: rowA encI 1 3 (.slice ao (xs.length - 1) cap) (xs.erase r) :: F) _) := ⟨((HS.out).pick 0 rfl).pick 1 rfl⟩
      refine wl_y rfl HF rfl rfl (yl_nilCheck rfl (HF.ev rfl)) ?_; clear HF; clear a; intro a HF
      refine wl_storeF rfl rfl rfl (HF.ev rfl) (HF.ev rfl) (by kernel_rfl) HS.out 0 rfl (blt_of_get hk) rfl ?_; clear HS; intro w3 HS; replace HS := Bx.mk HS
      have HS : Bx (St w0 (boxA b 6 48 (.agg (A.setIfInBounds k (.slice ao (xs.length - 1) cap))) :: rowA encI 1 3 (.slice ao (xs.length - 1) cap) (xs.erase r) :: F) _) := HS
      refine wpList_nil ?_
      refine ex_then ?_
      refine wp_seq ?_
      refine wp_region_lit ?_
      refine wl_y rfl HF rfl rfl (yl_move rfl (HF.ev rfl)) ?_; clear HF; clear a; intro a HF
      refine wl_y rfl HF rfl rfl (yl_geqI rfl (HF.ev rfl) (HF.ev rfl)) ?_; clear HF; clear a; intro a HF
      refine wl_y rfl HF rfl rfl (yl_assign rfl (HF.ev rfl)) ?_; clear HF; clear a; intro a HF
      refine wpList_nil ?_
      refine ex_then ?_
      refine wp_ret ?_
      refine bp_ret1 HF Try.results110 (HF.res rfl) ?_
      exact .inr ⟨hin, by rw [show decide ((0 : Int) ≤ (i : Int)) = true from by simp], by rw [List.length_erase_of_mem (List.count_pos_iff.1 (inI_count.1 hin))]; exact HS.out⟩
    · clear HF; have HF := HF1; clear HF1
      exact absurd (of_decide_eq_false cc1) (by omega)

end Go.Proofs.Ytkgmilobmbeplaa
