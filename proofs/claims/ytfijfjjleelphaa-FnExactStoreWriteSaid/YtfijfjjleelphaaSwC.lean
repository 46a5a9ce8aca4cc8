/- A block written to a store by the reference: walked. -/
import Derived.Test.YtfijfjjleelphaaSwB
import Derived.Test.YtfijfjjleelphaaSwQ
namespace Go.Proofs.Ytfijfjjleelphaa
open Go.RowKit

theorem atOr_cases (k : Nat) : atOr k < 0 ∨ ∃ i : Nat, atOr k = i ∧ i < 64 := by
  unfold atOr
  split
  · exact .inr ⟨k, rfl, by assumption⟩
  · exact .inl (by omega)
def WriteS (w0 : World) (st : StoreD) (text : ByteArray) (level : Int) (a0 : Option Addr) (c0 : Nat) (a1 : Option Addr) (c1 : Nat) (a2 : Option Addr) (c2 : Nat) (a4 : Option Addr) (c4 : Nat) (a6 : Option Addr) (c6 : Nat) (F : List Asr) (e : Ending) (w' : World) : Prop :=
  (writeS st text level < 0 ∧ e = .returned (.tuple #[.agg #[.slice a0 st.fRows.length c0, .slice a1 st.fSpace.fRefs.length c1, .slice a2 st.fSpace.fLast.length c2, .int .i64 st.fTxg, .slice a4 st.fGone.length c4, .int .i64 st.fKeep, .slice a6 st.fDead.length c6, .bool st.fSame], .agg #[.int .i64 0, .int .i64 0, .int .i64 0, .int .i64 0, .int .i64 0], .bool false]) ∧ St w0 (rowA encS 1 9 (.slice a0 st.fRows.length c0) st.fRows :: rowA encI 1 3 (.slice a1 st.fSpace.fRefs.length c1) st.fSpace.fRefs :: rowA encI 1 3 (.slice a2 st.fSpace.fLast.length c2) st.fSpace.fLast :: rowA PtrD.cells 5 33 (.slice a4 st.fGone.length c4) st.fGone :: rowA PtrD.cells 5 33 (.slice a6 st.fDead.length c6) st.fDead :: F) w') ∨
  (∃ i : Nat, i < 64 ∧ writeS st text level = i ∧ ((ptrOk (i : Int) st.fTxg level text = false ∧ e = .returned (.tuple #[.agg #[.slice a0 st.fRows.length c0, .slice a1 st.fSpace.fRefs.length c1, .slice a2 st.fSpace.fLast.length c2, .int .i64 st.fTxg, .slice a4 st.fGone.length c4, .int .i64 st.fKeep, .slice a6 st.fDead.length c6, .bool st.fSame], .agg #[.int .i64 0, .int .i64 0, .int .i64 0, .int .i64 0, .int .i64 0], .bool false]) ∧ St w0 (rowA encS 1 9 (.slice a0 st.fRows.length c0) st.fRows :: rowA encI 1 3 (.slice a1 st.fSpace.fRefs.length c1) st.fSpace.fRefs :: rowA encI 1 3 (.slice a2 st.fSpace.fLast.length c2) st.fSpace.fLast :: rowA PtrD.cells 5 33 (.slice a4 st.fGone.length c4) st.fGone :: rowA PtrD.cells 5 33 (.slice a6 st.fDead.length c6) st.fDead :: F) w') ∨ (ptrOk (i : Int) st.fTxg level text = true ∧ e = .returned (.tuple #[.agg #[.slice a0 st.fRows.length c0, .slice a1 st.fSpace.fRefs.length c1, .slice a2 st.fSpace.fLast.length c2, .int .i64 st.fTxg, .slice a4 st.fGone.length c4, .int .i64 st.fKeep, .slice a6 st.fDead.length c6, .bool st.fSame], .agg #[.int .i64 (ptrOf (i : Int) st.fTxg level text).fAt, .int .i64 (ptrOf (i : Int) st.fTxg level text).fBirth, .int .i64 (ptrOf (i : Int) st.fTxg level text).fSize, .int .i64 (ptrOf (i : Int) st.fTxg level text).fSum, .int .i64 (ptrOf (i : Int) st.fTxg level text).fLevel], .bool true]) ∧ St w0 (rowA encS 1 9 (.slice a0 st.fRows.length c0) (st.fRows.set i text) :: rowA encI 1 3 (.slice a1 st.fSpace.fRefs.length c1) (st.fSpace.fRefs.set i (st.fSpace.fRefs.getD i 0 + 1)) :: rowA encI 1 3 (.slice a2 st.fSpace.fLast.length c2) (st.fSpace.fLast.set i st.fTxg) :: rowA PtrD.cells 5 33 (.slice a4 st.fGone.length c4) st.fGone :: rowA PtrD.cells 5 33 (.slice a6 st.fDead.length c6) st.fDead :: F) w')))

set_option maxHeartbeats 2000000 in
set_option maxRecDepth 100000 in
theorem l7Write_any (w0 w : World) (a0 : Option Addr) (c0 : Nat) (a1 : Option Addr) (c1 : Nat) (a2 : Option Addr) (c2 : Nat) (a4 : Option Addr) (c4 : Nat) (a6 : Option Addr) (c6 : Nat) (st : StoreD) (text : ByteArray) (level : Int) (F : List Asr) (hS : St w0 (rowA encS 1 9 (.slice a0 st.fRows.length c0) st.fRows :: rowA encI 1 3 (.slice a1 st.fSpace.fRefs.length c1) st.fSpace.fRefs :: rowA encI 1 3 (.slice a2 st.fSpace.fLast.length c2) st.fSpace.fLast :: rowA PtrD.cells 5 33 (.slice a4 st.fGone.length c4) st.fGone :: rowA PtrD.cells 5 33 (.slice a6 st.fDead.length c6) st.fDead :: F) w) (h0 : st.fRows.length = 64) (h1 : st.fSpace.fRefs.length = 64) (h2 : st.fSpace.fLast.length = 64) (hs : text.size ≤ 9223372036854775806) (hr : ∀ i, 0 ≤ st.fSpace.fRefs.getD i 0 ∧ st.fSpace.fRefs.getD i 0 ≤ 900) : Calls Try.prog 83 #[.agg #[.slice a0 st.fRows.length c0, .slice a1 st.fSpace.fRefs.length c1, .slice a2 st.fSpace.fLast.length c2, .int .i64 st.fTxg, .slice a4 st.fGone.length c4, .int .i64 st.fKeep, .slice a6 st.fDead.length c6, .bool st.fSame], .string text, .int .i64 level] w (WriteS w0 st text level a0 c0 a1 c1 a2 c2 a4 c4 a6 c6 F) := by
  obtain ⟨g0, rfl, _, _, _, _⟩ := hS.rowOpen 0 rfl (by omega)
  obtain ⟨g1, rfl, _, _, _, _⟩ := hS.rowOpen 1 rfl (by omega)
  obtain ⟨g2, rfl, _, _, _, _⟩ := hS.rowOpen 2 rfl (by omega)
  have HS := Bx.mk hS
  clear hS
  refine wc_enter Try.func83 rfl Try.ntmps83 [(0, .agg #[.slice (some ⟨g0, 0, none⟩) st.fRows.length c0, .slice (some ⟨g1, 0, none⟩) st.fSpace.fRefs.length c1, .slice (some ⟨g2, 0, none⟩) st.fSpace.fLast.length c2, .int .i64 st.fTxg, .slice a4 st.fGone.length c4, .int .i64 st.fKeep, .slice a6 st.fDead.length c6, .bool st.fSame]), (1, .string text), (2, .int .i64 level)] ⟨rfl, rfl, rfl, trivial⟩ rfl ?_; intro a HF
  refine wp_seq ?_
  refine wp_region_lit ?_
  refine wl_box rfl HF rfl (HF.ev rfl) (Z := [.slice (some ⟨g0, 0, none⟩) st.fRows.length c0, .slice (some ⟨g1, 0, none⟩) st.fSpace.fRefs.length c1, .slice (some ⟨g2, 0, none⟩) st.fSpace.fLast.length c2, .int .i64 st.fTxg, .slice a4 st.fGone.length c4, .int .i64 st.fKeep, .slice a6 st.fDead.length c6, .bool st.fSame]) rfl rfl rfl rfl HS.out ?_; clear HF HS; clear a; intro a w1 b1 HF HS; replace HS := Bx.mk HS
  refine wl_alloc rfl HF rfl rfl rfl (Z := [.slice none 0 0, .slice none 0 0, .slice none 0 0, .int .i64 0, .slice none 0 0, .int .i64 0, .slice none 0 0, .bool false]) (by kernel_rfl) rfl HS.out ?_; clear HF HS; clear a; intro a w2 b2 HF HS; replace HS := Bx.mk HS
  refine wl_alloc rfl HF rfl rfl rfl (Z := [.int .i64 0, .int .i64 0, .int .i64 0, .int .i64 0, .int .i64 0]) (by kernel_rfl) rfl HS.out ?_; clear HF HS; clear a; intro a w3 b3 HF HS; replace HS := Bx.mk HS
  refine wl_y rfl HF rfl rfl (yl_assign rfl (HF.ev rfl)) ?_; clear HF; clear a; intro a HF
  refine wpList_nil ?_
  refine ex_then ?_
  refine wp_seq ?_
  refine wp_region_lit ?_
  refine wl_y rfl HF rfl rfl (yl_assign rfl (HF.ev rfl)) ?_; clear HF; clear a; intro a HF
  refine wpList_nil ?_
  refine ex_then ?_
  refine wp_seq ?_
  refine wp_seq ?_
  refine wp_region_lit ?_
  refine wl_y rfl HF rfl rfl (yl_fieldAddr (j := 7) rfl (HF.ev rfl) (by kernel_rfl)) ?_; clear HF; clear a; intro a HF
  refine wl_y rfl HF rfl rfl (yl_load (v := .bool st.fSame) rfl (HF.ev rfl) (((HS.out.box 2 rfl).cell 7).trans rfl) (by kernel_rfl)) ?_; clear HF; clear a; intro a HF
  refine wl_y rfl HF rfl rfl (yl_move rfl (HF.ev rfl)) ?_; clear HF; clear a; intro a HF
  refine HF.cases 14 rfl (fun cc1 HF1 => ?_) (fun cc1 HF1 => ?_)
  · clear HF; have HF := HF1; clear HF1
    refine wl_yg HF rfl rfl rfl rfl rfl (yl_move rfl (HF.ev rfl)) ?_; clear HF; clear a; intro a HF
    refine wl_yg HF rfl rfl rfl rfl rfl (yl_eqlI rfl (HF.ev rfl) (HF.ev rfl)) ?_; clear HF; clear a; intro a HF
    refine wl_y rfl HF rfl rfl (yl_pick_t rfl (HF.ev rfl) (HF.ev rfl)) ?_; clear HF; clear a; intro a HF
    refine wpList_nil ?_
    refine ex_then ?_
    refine HF.cases 17 rfl (fun cc2 HF1 => ?_) (fun cc2 HF1 => ?_)
    · clear HF; have HF := HF1; clear HF1
      have hls : likeS st text level = likeR st text := by unfold likeS; rw [cc1, cc2]; rfl
      refine wc_true HF rfl ?_
      refine wp_region_lit ?_
      refine wl_y rfl HF rfl rfl (yl_loadR (cs := [.slice (some ⟨g0, 0, none⟩) st.fRows.length c0, .slice (some ⟨g1, 0, none⟩) st.fSpace.fRefs.length c1, .slice (some ⟨g2, 0, none⟩) st.fSpace.fLast.length c2, .int .i64 st.fTxg, .slice a4 st.fGone.length c4, .int .i64 st.fKeep, .slice a6 st.fDead.length c6, .bool st.fSame]) rfl (HF.ev rfl) ((HS.out.box 2 rfl).sub 0 8) (by kernel_rfl)) ?_; clear HF; clear a; intro a HF
      refine wl_y rfl HF rfl rfl (yl_move rfl (HF.ev rfl)) ?_; clear HF; clear a; intro a HF
      refine wl_callB rfl HF rfl (enter_of Try.func137 (by kernel_rfl) rfl) (args := #[.agg #[.slice (some ⟨g0, 0, none⟩) st.fRows.length c0, .slice (some ⟨g1, 0, none⟩) st.fSpace.fRefs.length c1, .slice (some ⟨g2, 0, none⟩) st.fSpace.fLast.length c2, .int .i64 st.fTxg, .slice a4 st.fGone.length c4, .int .i64 st.fKeep, .slice a6 st.fDead.length c6, .bool st.fSame], .string text]) rfl (v := .int .i64 (likeR st text)) (l7Like_any _ st text _ (StoreD.reads_of HS.out st _ _ _ _ _ _ _ _ _ _ 3 4 5 6 7 rfl rfl rfl rfl rfl) (by omega) (by omega) (by omega)) rfl rfl HS.out ?_; clear HF HS; clear a; intro w4 a HS HF; replace HS := Bx.mk HS
      refine wl_y rfl HF rfl rfl (yl_assign rfl (HF.ev rfl)) ?_; clear HF; clear a; intro a HF
      refine wpList_nil ?_
      refine ex_then ?_
      refine wp_seq ?_
      refine wp_seq ?_
      refine wp_region_lit ?_
      refine wl_y rfl HF rfl rfl (yl_move rfl (HF.ev rfl)) ?_; clear HF; clear a; intro a HF
      refine wl_y rfl HF rfl rfl (yl_lssI rfl (HF.ev rfl) (HF.ev rfl)) ?_; clear HF; clear a; intro a HF
      refine wpList_nil ?_
      refine ex_then ?_
      refine HF.cases 22 rfl (fun cc3 HF1 => ?_) (fun cc3 HF1 => ?_)
      · clear HF; have HF := HF1; clear HF1
        have hws : writeS st text level = freeR st.fSpace := by unfold writeS; rw [if_pos (by rw [hls]; exact of_decide_eq_true cc3)]
        refine wc_true HF rfl ?_
        have hws : writeS st text level = freeR st.fSpace := by unfold writeS; rw [if_pos (by rw [hls]; first | omega | (exact of_decide_eq_true (by assumption)))]
        refine wp_region_lit ?_
        refine wl_y rfl HF rfl rfl (yl_fieldAddr (j := 1) rfl (HF.ev rfl) (by kernel_rfl)) ?_; clear HF; clear a; intro a HF
        refine wl_y rfl HF rfl rfl (yl_loadR (cs := [.slice (some ⟨g1, 0, none⟩) st.fSpace.fRefs.length c1, .slice (some ⟨g2, 0, none⟩) st.fSpace.fLast.length c2]) rfl (HF.ev rfl) ((HS.out.box 2 rfl).sub 1 2) (by kernel_rfl)) ?_; clear HF; clear a; intro a HF
        refine wl_empty (e := 3) (size := 1) rfl HF rfl rfl rfl (by kernel_rfl) HS.out ?_; clear HF HS; clear a; intro a w5 b4 HF HS; replace HS := Bx.mk HS
        refine wl_callB rfl HF rfl (enter_of Try.func138 (by kernel_rfl) rfl) (args := #[.agg #[.slice (some ⟨g1, 0, none⟩) st.fSpace.fRefs.length c1, .slice (some ⟨g2, 0, none⟩) st.fSpace.fLast.length c2], .int .i64 8, .slice (some ⟨b4, 0, none⟩) 0 0]) rfl (v := .int .i64 (freeR st.fSpace)) (l5Find_any _ _ _ _ _ _ _ st.fSpace _ (St.rdOf HS.out encI_len 4 rfl) (by omega)) rfl rfl HS.out ?_; clear HF HS; clear a; intro w6 a HS HF; replace HS := Bx.mk HS
        refine wl_y rfl HF rfl rfl (yl_assign rfl (HF.ev rfl)) ?_; clear HF; clear a; intro a HF
        refine wpList_nil ?_
        refine ex_then ?_
        refine wp_seq ?_
        refine wp_seq ?_
        refine wp_region_lit ?_
        refine wl_y rfl HF rfl rfl (yl_move rfl (HF.ev rfl)) ?_; clear HF; clear a; intro a HF
        refine wl_y rfl HF rfl rfl (yl_lssI rfl (HF.ev rfl) (HF.ev rfl)) ?_; clear HF; clear a; intro a HF
        refine wpList_nil ?_
        refine ex_then ?_
        refine HF.cases 28 rfl (fun cc4 HF1 => ?_) (fun cc4 HF1 => ?_)
        · clear HF; have HF := HF1; clear HF1
          have hneg := of_decide_eq_true cc4
          refine wc_true HF rfl ?_
          refine wp_seq ?_
          refine wp_region_lit ?_
          refine wl_y rfl HF rfl rfl (yl_loadR (cs := [.slice (some ⟨g0, 0, none⟩) st.fRows.length c0, .slice (some ⟨g1, 0, none⟩) st.fSpace.fRefs.length c1, .slice (some ⟨g2, 0, none⟩) st.fSpace.fLast.length c2, .int .i64 st.fTxg, .slice a4 st.fGone.length c4, .int .i64 st.fKeep, .slice a6 st.fDead.length c6, .bool st.fSame]) rfl (HF.ev rfl) ((HS.out.box 2 rfl).sub 0 8) (by kernel_rfl)) ?_; clear HF; clear a; intro a HF
          refine wl_y rfl HF rfl rfl (yl_build HF rfl (ps := []) rfl (cs := #[.int .i64 0, .int .i64 0, .int .i64 0, .int .i64 0, .int .i64 0]) (by kernel_rfl)) ?_; clear HF; clear a; intro a HF
          refine wl_storeBox rfl HF rfl rfl (HF.ev rfl) (HF.ev rfl) HS.out 1 rfl (cells_lit [.slice (some ⟨g0, 0, none⟩) st.fRows.length c0, .slice (some ⟨g1, 0, none⟩) st.fSpace.fRefs.length c1, .slice (some ⟨g2, 0, none⟩) st.fSpace.fLast.length c2, .int .i64 st.fTxg, .slice a4 st.fGone.length c4, .int .i64 st.fKeep, .slice a6 st.fDead.length c6, .bool st.fSame] rfl rfl) (by kernel_rfl) ?_; clear HS; intro w7 HS; replace HS := Bx.mk HS
          have HS : Bx (St w0 (boxA b3 5 33 (.agg #[.int .i64 0, .int .i64 0, .int .i64 0, .int .i64 0, .int .i64 0]) :: boxA b2 8 65 (.agg #[.slice (some ⟨g0, 0, none⟩) st.fRows.length c0, .slice (some ⟨g1, 0, none⟩) st.fSpace.fRefs.length c1, .slice (some ⟨g2, 0, none⟩) st.fSpace.fLast.length c2, .int .i64 st.fTxg, .slice a4 st.fGone.length c4, .int .i64 st.fKeep, .slice a6 st.fDead.length c6, .bool st.fSame]) :: boxA b1 8 65 (.agg #[.slice (some ⟨g0, 0, none⟩) st.fRows.length c0, .slice (some ⟨g1, 0, none⟩) st.fSpace.fRefs.length c1, .slice (some ⟨g2, 0, none⟩) st.fSpace.fLast.length c2, .int .i64 st.fTxg, .slice a4 st.fGone.length c4, .int .i64 st.fKeep, .slice a6 st.fDead.length c6, .bool st.fSame]) :: rowA encS 1 9 (.slice (some ⟨g0, 0, none⟩) st.fRows.length c0) st.fRows :: rowA encI 1 3 (.slice (some ⟨g1, 0, none⟩) st.fSpace.fRefs.length c1) st.fSpace.fRefs :: rowA encI 1 3 (.slice (some ⟨g2, 0, none⟩) st.fSpace.fLast.length c2) st.fSpace.fLast :: rowA PtrD.cells 5 33 (.slice a4 st.fGone.length c4) st.fGone :: rowA PtrD.cells 5 33 (.slice a6 st.fDead.length c6) st.fDead :: F) _) := HS
          refine wl_storeBox rfl HF rfl rfl (HF.ev rfl) (HF.ev rfl) HS.out 0 rfl (cells_lit [.int .i64 0, .int .i64 0, .int .i64 0, .int .i64 0, .int .i64 0] rfl rfl) (by kernel_rfl) ?_; clear HS; intro w8 HS; replace HS := Bx.mk HS
          have HS : Bx (St w0 (boxA b3 5 33 (.agg #[.int .i64 0, .int .i64 0, .int .i64 0, .int .i64 0, .int .i64 0]) :: boxA b2 8 65 (.agg #[.slice (some ⟨g0, 0, none⟩) st.fRows.length c0, .slice (some ⟨g1, 0, none⟩) st.fSpace.fRefs.length c1, .slice (some ⟨g2, 0, none⟩) st.fSpace.fLast.length c2, .int .i64 st.fTxg, .slice a4 st.fGone.length c4, .int .i64 st.fKeep, .slice a6 st.fDead.length c6, .bool st.fSame]) :: boxA b1 8 65 (.agg #[.slice (some ⟨g0, 0, none⟩) st.fRows.length c0, .slice (some ⟨g1, 0, none⟩) st.fSpace.fRefs.length c1, .slice (some ⟨g2, 0, none⟩) st.fSpace.fLast.length c2, .int .i64 st.fTxg, .slice a4 st.fGone.length c4, .int .i64 st.fKeep, .slice a6 st.fDead.length c6, .bool st.fSame]) :: rowA encS 1 9 (.slice (some ⟨g0, 0, none⟩) st.fRows.length c0) st.fRows :: rowA encI 1 3 (.slice (some ⟨g1, 0, none⟩) st.fSpace.fRefs.length c1) st.fSpace.fRefs :: rowA encI 1 3 (.slice (some ⟨g2, 0, none⟩) st.fSpace.fLast.length c2) st.fSpace.fLast :: rowA PtrD.cells 5 33 (.slice a4 st.fGone.length c4) st.fGone :: rowA PtrD.cells 5 33 (.slice a6 st.fDead.length c6) st.fDead :: F) _) := HS
          refine wl_y rfl HF rfl rfl (yl_assign rfl (HF.ev rfl)) ?_; clear HF; clear a; intro a HF
          refine wpList_nil ?_
          refine ex_then ?_
          refine wp_ret ?_
          refine ex_then_ret ?_
          refine bp_ret3 HF Try.results83 (HF.resBox rfl (HS.out.box 1 rfl) (by kernel_rfl)) (HF.resBox rfl (HS.out.box 0 rfl) (by kernel_rfl)) (HF.res rfl) ?_
          exact .inl ⟨by rw [hws]; exact hneg, rfl, HS.out.tail.tail.tail⟩
        · clear HF; have HF := HF1; clear HF1
          obtain ⟨i, hi, hi64⟩ : ∃ i : Nat, freeR st.fSpace = i ∧ i < 64 := (atOr_cases _).resolve_left (of_decide_eq_false cc4)
          replace HF : Fr 70 a [(1, .string text), (2, .int .i64 level), (3, .pointer (some ⟨b1, 0, none⟩)), (6, .pointer (some ⟨b2, 0, none⟩)), (7, .pointer (some ⟨b3, 0, none⟩)), (8, .bool false), (9, .int .i64 (i : Int)), (22, .bool true), (28, .bool false)] := by
            rw [← hi]; exact HF.less _ ⟨rfl, rfl, rfl, rfl, rfl, rfl, rfl, rfl, rfl, trivial⟩
          rw [hi] at hws
          refine wc_false HF rfl ?_
          refine wp_skip ?_
          refine ex_then ?_
          refine wp_seq ?_
          refine wp_region_lit ?_
          refine wl_y rfl HF rfl rfl (yl_move rfl (HF.ev rfl)) ?_; clear HF; clear a; intro a HF
          refine wl_y rfl HF rfl rfl (yl_fieldAddr (j := 3) rfl (HF.ev rfl) (by kernel_rfl)) ?_; clear HF; clear a; intro a HF
          refine wl_y rfl HF rfl rfl (yl_load (v := .int .i64 st.fTxg) rfl (HF.ev rfl) (((HS.out.box 2 rfl).cell 3).trans rfl) (by kernel_rfl)) ?_; clear HF; clear a; intro a HF
          refine wl_y rfl HF rfl rfl (yl_move rfl (HF.ev rfl)) ?_; clear HF; clear a; intro a HF
          refine wl_y rfl HF rfl rfl (yl_move rfl (HF.ev rfl)) ?_; clear HF; clear a; intro a HF
          refine wl_callB rfl HF rfl (enter_of Try.func112 (by kernel_rfl) rfl) (args := #[.int .i64 (i : Int), .int .i64 st.fTxg, .int .i64 level, .string text]) rfl (v := .tuple #[.agg #[.int .i64 ((ptrOf (i : Int) st.fTxg level text).fAt), .int .i64 ((ptrOf (i : Int) st.fTxg level text).fBirth), .int .i64 ((ptrOf (i : Int) st.fTxg level text).fSize), .int .i64 ((ptrOf (i : Int) st.fTxg level text).fSum), .int .i64 ((ptrOf (i : Int) st.fTxg level text).fLevel)], .bool (ptrOk (i : Int) st.fTxg level text)]) (ptrOfS_any (i : Int) st.fTxg level text _ (by omega)) rfl rfl HS.out ?_; clear HF HS; clear a; intro w9 a HS HF; replace HS := Bx.mk HS
          refine wl_y rfl HF rfl rfl (yl_move rfl (HF.ev rfl)) ?_; clear HF; clear a; intro a HF
          refine wl_y rfl HF rfl rfl (yl_extract rfl (HF.ev rfl) rfl) ?_; clear HF; clear a; intro a HF
          refine wl_y rfl HF rfl rfl (yl_extract rfl (HF.ev rfl) rfl) ?_; clear HF; clear a; intro a HF
          refine wl_alloc rfl HF rfl rfl rfl (Z := [.int .i64 0, .int .i64 0, .int .i64 0, .int .i64 0, .int .i64 0]) (by kernel_rfl) rfl HS.out ?_; clear HF HS; clear a; intro a w10 b5 HF HS; replace HS := Bx.mk HS
          refine wl_storeBox rfl HF rfl rfl (HF.ev rfl) (HF.ev rfl) HS.out 0 rfl (cells_lit [.int .i64 ((ptrOf (i : Int) st.fTxg level text).fAt), .int .i64 ((ptrOf (i : Int) st.fTxg level text).fBirth), .int .i64 ((ptrOf (i : Int) st.fTxg level text).fSize), .int .i64 ((ptrOf (i : Int) st.fTxg level text).fSum), .int .i64 ((ptrOf (i : Int) st.fTxg level text).fLevel)] rfl rfl) (by kernel_rfl) ?_; clear HS; intro w11 HS; replace HS := Bx.mk HS
          have HS : Bx (St w0 (boxA b5 5 33 (.agg #[.int .i64 ((ptrOf (i : Int) st.fTxg level text).fAt), .int .i64 ((ptrOf (i : Int) st.fTxg level text).fBirth), .int .i64 ((ptrOf (i : Int) st.fTxg level text).fSize), .int .i64 ((ptrOf (i : Int) st.fTxg level text).fSum), .int .i64 ((ptrOf (i : Int) st.fTxg level text).fLevel)]) :: boxA b3 5 33 (.agg #[.int .i64 0, .int .i64 0, .int .i64 0, .int .i64 0, .int .i64 0]) :: boxA b2 8 65 (.agg #[.slice none 0 0, .slice none 0 0, .slice none 0 0, .int .i64 0, .slice none 0 0, .int .i64 0, .slice none 0 0, .bool false]) :: boxA b1 8 65 (.agg #[.slice (some ⟨g0, 0, none⟩) st.fRows.length c0, .slice (some ⟨g1, 0, none⟩) st.fSpace.fRefs.length c1, .slice (some ⟨g2, 0, none⟩) st.fSpace.fLast.length c2, .int .i64 st.fTxg, .slice a4 st.fGone.length c4, .int .i64 st.fKeep, .slice a6 st.fDead.length c6, .bool st.fSame]) :: rowA encS 1 9 (.slice (some ⟨g0, 0, none⟩) st.fRows.length c0) st.fRows :: rowA encI 1 3 (.slice (some ⟨g1, 0, none⟩) st.fSpace.fRefs.length c1) st.fSpace.fRefs :: rowA encI 1 3 (.slice (some ⟨g2, 0, none⟩) st.fSpace.fLast.length c2) st.fSpace.fLast :: rowA PtrD.cells 5 33 (.slice a4 st.fGone.length c4) st.fGone :: rowA PtrD.cells 5 33 (.slice a6 st.fDead.length c6) st.fDead :: F) _) := HS
          refine wl_y rfl HF rfl rfl (yl_assign rfl (HF.ev rfl)) ?_; clear HF; clear a; intro a HF
          refine wpList_nil ?_
          refine ex_then ?_
          refine wp_seq ?_
          refine wp_seq ?_
          refine wp_region_lit ?_
          refine wl_y rfl HF rfl rfl (yl_move rfl (HF.ev rfl)) ?_; clear HF; clear a; intro a HF
          refine wl_y rfl HF rfl rfl (yl_not rfl (HF.ev rfl)) ?_; clear HF; clear a; intro a HF
          refine wpList_nil ?_
          refine ex_then ?_
          refine HF.cases 41 rfl (fun cc5 HF1 => ?_) (fun cc5 HF1 => ?_)
          · clear HF; have HF := HF1; clear HF1
            have hpk : ptrOk (i : Int) st.fTxg level text = false := by simpa using cc5
            refine wc_true HF rfl ?_
            refine wp_seq ?_
            refine wp_region_lit ?_
            refine wl_y rfl HF rfl rfl (yl_loadR (cs := [.slice (some ⟨g0, 0, none⟩) st.fRows.length c0, .slice (some ⟨g1, 0, none⟩) st.fSpace.fRefs.length c1, .slice (some ⟨g2, 0, none⟩) st.fSpace.fLast.length c2, .int .i64 st.fTxg, .slice a4 st.fGone.length c4, .int .i64 st.fKeep, .slice a6 st.fDead.length c6, .bool st.fSame]) rfl (HF.ev rfl) ((HS.out.box 3 rfl).sub 0 8) (by kernel_rfl)) ?_; clear HF; clear a; intro a HF
            refine wl_y rfl HF rfl rfl (yl_build HF rfl (ps := []) rfl (cs := #[.int .i64 0, .int .i64 0, .int .i64 0, .int .i64 0, .int .i64 0]) (by kernel_rfl)) ?_; clear HF; clear a; intro a HF
            refine wl_storeBox rfl HF rfl rfl (HF.ev rfl) (HF.ev rfl) HS.out 2 rfl (cells_lit [.slice (some ⟨g0, 0, none⟩) st.fRows.length c0, .slice (some ⟨g1, 0, none⟩) st.fSpace.fRefs.length c1, .slice (some ⟨g2, 0, none⟩) st.fSpace.fLast.length c2, .int .i64 st.fTxg, .slice a4 st.fGone.length c4, .int .i64 st.fKeep, .slice a6 st.fDead.length c6, .bool st.fSame] rfl rfl) (by kernel_rfl) ?_; clear HS; intro w12 HS; replace HS := Bx.mk HS
            have HS : Bx (St w0 (boxA b5 5 33 (.agg #[.int .i64 ((ptrOf (i : Int) st.fTxg level text).fAt), .int .i64 ((ptrOf (i : Int) st.fTxg level text).fBirth), .int .i64 ((ptrOf (i : Int) st.fTxg level text).fSize), .int .i64 ((ptrOf (i : Int) st.fTxg level text).fSum), .int .i64 ((ptrOf (i : Int) st.fTxg level text).fLevel)]) :: boxA b3 5 33 (.agg #[.int .i64 0, .int .i64 0, .int .i64 0, .int .i64 0, .int .i64 0]) :: boxA b2 8 65 (.agg #[.slice (some ⟨g0, 0, none⟩) st.fRows.length c0, .slice (some ⟨g1, 0, none⟩) st.fSpace.fRefs.length c1, .slice (some ⟨g2, 0, none⟩) st.fSpace.fLast.length c2, .int .i64 st.fTxg, .slice a4 st.fGone.length c4, .int .i64 st.fKeep, .slice a6 st.fDead.length c6, .bool st.fSame]) :: boxA b1 8 65 (.agg #[.slice (some ⟨g0, 0, none⟩) st.fRows.length c0, .slice (some ⟨g1, 0, none⟩) st.fSpace.fRefs.length c1, .slice (some ⟨g2, 0, none⟩) st.fSpace.fLast.length c2, .int .i64 st.fTxg, .slice a4 st.fGone.length c4, .int .i64 st.fKeep, .slice a6 st.fDead.length c6, .bool st.fSame]) :: rowA encS 1 9 (.slice (some ⟨g0, 0, none⟩) st.fRows.length c0) st.fRows :: rowA encI 1 3 (.slice (some ⟨g1, 0, none⟩) st.fSpace.fRefs.length c1) st.fSpace.fRefs :: rowA encI 1 3 (.slice (some ⟨g2, 0, none⟩) st.fSpace.fLast.length c2) st.fSpace.fLast :: rowA PtrD.cells 5 33 (.slice a4 st.fGone.length c4) st.fGone :: rowA PtrD.cells 5 33 (.slice a6 st.fDead.length c6) st.fDead :: F) _) := HS
            refine wl_storeBox rfl HF rfl rfl (HF.ev rfl) (HF.ev rfl) HS.out 1 rfl (cells_lit [.int .i64 0, .int .i64 0, .int .i64 0, .int .i64 0, .int .i64 0] rfl rfl) (by kernel_rfl) ?_; clear HS; intro w13 HS; replace HS := Bx.mk HS
            have HS : Bx (St w0 (boxA b5 5 33 (.agg #[.int .i64 ((ptrOf (i : Int) st.fTxg level text).fAt), .int .i64 ((ptrOf (i : Int) st.fTxg level text).fBirth), .int .i64 ((ptrOf (i : Int) st.fTxg level text).fSize), .int .i64 ((ptrOf (i : Int) st.fTxg level text).fSum), .int .i64 ((ptrOf (i : Int) st.fTxg level text).fLevel)]) :: boxA b3 5 33 (.agg #[.int .i64 0, .int .i64 0, .int .i64 0, .int .i64 0, .int .i64 0]) :: boxA b2 8 65 (.agg #[.slice (some ⟨g0, 0, none⟩) st.fRows.length c0, .slice (some ⟨g1, 0, none⟩) st.fSpace.fRefs.length c1, .slice (some ⟨g2, 0, none⟩) st.fSpace.fLast.length c2, .int .i64 st.fTxg, .slice a4 st.fGone.length c4, .int .i64 st.fKeep, .slice a6 st.fDead.length c6, .bool st.fSame]) :: boxA b1 8 65 (.agg #[.slice (some ⟨g0, 0, none⟩) st.fRows.length c0, .slice (some ⟨g1, 0, none⟩) st.fSpace.fRefs.length c1, .slice (some ⟨g2, 0, none⟩) st.fSpace.fLast.length c2, .int .i64 st.fTxg, .slice a4 st.fGone.length c4, .int .i64 st.fKeep, .slice a6 st.fDead.length c6, .bool st.fSame]) :: rowA encS 1 9 (.slice (some ⟨g0, 0, none⟩) st.fRows.length c0) st.fRows :: rowA encI 1 3 (.slice (some ⟨g1, 0, none⟩) st.fSpace.fRefs.length c1) st.fSpace.fRefs :: rowA encI 1 3 (.slice (some ⟨g2, 0, none⟩) st.fSpace.fLast.length c2) st.fSpace.fLast :: rowA PtrD.cells 5 33 (.slice a4 st.fGone.length c4) st.fGone :: rowA PtrD.cells 5 33 (.slice a6 st.fDead.length c6) st.fDead :: F) _) := HS
            refine wl_y rfl HF rfl rfl (yl_assign rfl (HF.ev rfl)) ?_; clear HF; clear a; intro a HF
            refine wpList_nil ?_
            refine ex_then ?_
            refine wp_ret ?_
            refine ex_then_ret ?_
            refine bp_ret3 HF Try.results83 (HF.resBox rfl (HS.out.box 2 rfl) (by kernel_rfl)) (HF.resBox rfl (HS.out.box 1 rfl) (by kernel_rfl)) (HF.res rfl) ?_
            exact .inr ⟨i, hi64, hws, .inl ⟨hpk, rfl, HS.out.tail.tail.tail.tail⟩⟩
          · clear HF; have HF := HF1; clear HF1
            have hpk : ptrOk (i : Int) st.fTxg level text = true := by simpa using cc5
            refine wc_false HF rfl ?_
            refine wp_skip ?_
            refine ex_then ?_
            refine wp_seq ?_
            refine wp_region_lit ?_
            refine wl_y rfl HF rfl rfl (yl_fieldAddr (j := 0) rfl (HF.ev rfl) (by kernel_rfl)) ?_; clear HF; clear a; intro a HF
            refine wl_y rfl HF rfl rfl (yl_load (v := .slice (some ⟨g0, 0, none⟩) st.fRows.length c0) rfl (HF.ev rfl) (((HS.out.box 3 rfl).cell 0).trans rfl) (by kernel_rfl)) ?_; clear HF; clear a; intro a HF
            refine wl_y rfl HF rfl rfl (yl_move rfl (HF.ev rfl)) ?_; clear HF; clear a; intro a HF
            refine wl_y rfl HF rfl rfl (yl_move rfl (HF.ev rfl)) ?_; clear HF; clear a; intro a HF
            refine wl_y rfl HF rfl rfl (yl_indexAddr (e := 9) (i := i) (size := 1) rfl (HF.ev rfl) (HF.ev rfl) (by kernel_rfl) rfl (by omega)) ?_; clear HF; clear a; intro a HF
            refine wl_storeE encS_len rfl rfl rfl (HF.ev rfl) (HF.ev rfl) (by kernel_rfl) HS.out 4 rfl (by omega) (z := text) rfl rfl ?_; clear HS; intro w14 HS; replace HS := Bx.mk HS
            refine wpList_nil ?_
            refine ex_then ?_
            refine wp_seq ?_
            have hrb := hr i
            refine wr_tail 12 (by kernel_rfl) (by kernel_rfl) HS.out ?_
            simp only [List.take_succ_cons, List.take_zero, List.drop_succ_cons, List.drop_zero]
            intro w15 HS
            replace HS := Bx.mk HS
            refine ws_y rfl HF rfl rfl (yl_fieldAddr (j := 1) rfl (HF.ev rfl) (by kernel_rfl)) ?_; clear HF; clear a; intro a HF
            refine ws_y rfl HF rfl rfl (yl_fieldAddr (j := 0) rfl (HF.ev rfl) (by kernel_rfl)) ?_; clear HF; clear a; intro a HF
            refine ws_y rfl HF rfl rfl (yl_load (v := .slice (some ⟨g1, 0, none⟩) st.fSpace.fRefs.length c1) rfl (HF.ev rfl) (((HS.out.box 3 rfl).cell 1).trans rfl) (by kernel_rfl)) ?_; clear HF; clear a; intro a HF
            refine ws_y rfl HF rfl rfl (yl_move rfl (HF.ev rfl)) ?_; clear HF; clear a; intro a HF
            refine ws_y rfl HF rfl rfl (yl_fieldAddr (j := 1) rfl (HF.ev rfl) (by kernel_rfl)) ?_; clear HF; clear a; intro a HF
            refine ws_y rfl HF rfl rfl (yl_fieldAddr (j := 0) rfl (HF.ev rfl) (by kernel_rfl)) ?_; clear HF; clear a; intro a HF
            refine ws_y rfl HF rfl rfl (yl_load (v := .slice (some ⟨g1, 0, none⟩) st.fSpace.fRefs.length c1) rfl (HF.ev rfl) (((HS.out.box 3 rfl).cell 1).trans rfl) (by kernel_rfl)) ?_; clear HF; clear a; intro a HF
            refine ws_y rfl HF rfl rfl (yl_move rfl (HF.ev rfl)) ?_; clear HF; clear a; intro a HF
            refine ws_y rfl HF rfl rfl (yl_indexAddr (e := 3) (i := i) (size := 1) rfl (HF.ev rfl) (HF.ev rfl) (by kernel_rfl) rfl (by omega)) ?_; clear HF; clear a; intro a HF
            refine ws_y rfl HF rfl rfl (yl_load (v := .int .i64 (st.fSpace.fRefs.getD i 0)) rfl (HF.ev rfl) (HS.out.elem1 encI_len 5 rfl (get_getD (xs := st.fSpace.fRefs) (j := i) (d := 0) (by omega)) rfl) (by kernel_rfl)) ?_; clear HF; clear a; intro a HF
            refine ws_y rfl HF rfl rfl (yl_addI rfl (HF.ev rfl) (HF.ev rfl) (i64w (by omega))) ?_; clear HF; clear a; intro a HF
            refine ws_y rfl HF rfl rfl (yl_indexAddr (e := 3) (i := i) (size := 1) rfl (HF.ev rfl) (HF.ev rfl) (by kernel_rfl) rfl (by omega)) ?_; clear HF; clear a; intro a HF
            refine wpStill_nil ?_
            refine wl_storeE encI_len rfl rfl rfl (HF.ev rfl) (HF.ev rfl) (by kernel_rfl) HS.out 5 rfl (by omega) (z := ((st.fSpace.fRefs.getD i 0) + 1)) rfl rfl ?_; clear HS; intro w16 HS; replace HS := Bx.mk HS
            refine wpList_nil ?_
            refine ex_then ?_
            refine wp_seq ?_
            refine wp_region_lit ?_
            refine wl_y rfl HF rfl rfl (yl_fieldAddr (j := 1) rfl (HF.ev rfl) (by kernel_rfl)) ?_; clear HF; clear a; intro a HF
            refine wl_y rfl HF rfl rfl (yl_fieldAddr (j := 1) rfl (HF.ev rfl) (by kernel_rfl)) ?_; clear HF; clear a; intro a HF
            refine wl_y rfl HF rfl rfl (yl_load (v := .slice (some ⟨g2, 0, none⟩) st.fSpace.fLast.length c2) rfl (HF.ev rfl) (((HS.out.box 3 rfl).cell 2).trans rfl) (by kernel_rfl)) ?_; clear HF; clear a; intro a HF
            refine wl_y rfl HF rfl rfl (yl_move rfl (HF.ev rfl)) ?_; clear HF; clear a; intro a HF
            refine wl_y rfl HF rfl rfl (yl_fieldAddr (j := 3) rfl (HF.ev rfl) (by kernel_rfl)) ?_; clear HF; clear a; intro a HF
            refine wl_y rfl HF rfl rfl (yl_load (v := .int .i64 st.fTxg) rfl (HF.ev rfl) (((HS.out.box 3 rfl).cell 3).trans rfl) (by kernel_rfl)) ?_; clear HF; clear a; intro a HF
            refine wl_y rfl HF rfl rfl (yl_indexAddr (e := 3) (i := i) (size := 1) rfl (HF.ev rfl) (HF.ev rfl) (by kernel_rfl) rfl (by omega)) ?_; clear HF; clear a; intro a HF
            refine wl_storeE encI_len rfl rfl rfl (HF.ev rfl) (HF.ev rfl) (by kernel_rfl) HS.out 6 rfl (by omega) (z := st.fTxg) rfl rfl ?_; clear HS; intro w17 HS; replace HS := Bx.mk HS
            refine wpList_nil ?_
            refine ex_then ?_
            refine wp_seq ?_
            refine wr_heldS (s := boxA b5 5 33 (.agg #[.int .i64 ((ptrOf (i : Int) st.fTxg level text).fAt), .int .i64 ((ptrOf (i : Int) st.fTxg level text).fBirth), .int .i64 ((ptrOf (i : Int) st.fTxg level text).fSize), .int .i64 ((ptrOf (i : Int) st.fTxg level text).fSum), .int .i64 ((ptrOf (i : Int) st.fTxg level text).fLevel)]) :: boxA b1 8 65 (.agg #[.slice (some ⟨g0, 0, none⟩) st.fRows.length c0, .slice (some ⟨g1, 0, none⟩) st.fSpace.fRefs.length c1, .slice (some ⟨g2, 0, none⟩) st.fSpace.fLast.length c2, .int .i64 st.fTxg, .slice a4 st.fGone.length c4, .int .i64 st.fKeep, .slice a6 st.fDead.length c6, .bool st.fSame]) :: rowA encS 1 9 (.slice (some ⟨g0, 0, none⟩) st.fRows.length c0) (st.fRows.set i text) :: rowA encI 1 3 (.slice (some ⟨g1, 0, none⟩) st.fSpace.fRefs.length c1) (st.fSpace.fRefs.set i ((st.fSpace.fRefs.getD i 0) + 1)) :: rowA encI 1 3 (.slice (some ⟨g2, 0, none⟩) st.fSpace.fLast.length c2) (st.fSpace.fLast.set i st.fTxg) :: rowA PtrD.cells 5 33 (.slice a4 st.fGone.length c4) st.fGone :: rowA PtrD.cells 5 33 (.slice a6 st.fDead.length c6) st.fDead :: F) (by kernel_rfl) (St.drew (((HS.out.erase 2).erase 1))) ?_
            have HS2 := Bx.mk HS.out.drew; replace HS := Bx.mk (show St w0 (boxA b5 5 33 (.agg #[.int .i64 ((ptrOf (i : Int) st.fTxg level text).fAt), .int .i64 ((ptrOf (i : Int) st.fTxg level text).fBirth), .int .i64 ((ptrOf (i : Int) st.fTxg level text).fSize), .int .i64 ((ptrOf (i : Int) st.fTxg level text).fSum), .int .i64 ((ptrOf (i : Int) st.fTxg level text).fLevel)]) :: boxA b1 8 65 (.agg #[.slice (some ⟨g0, 0, none⟩) st.fRows.length c0, .slice (some ⟨g1, 0, none⟩) st.fSpace.fRefs.length c1, .slice (some ⟨g2, 0, none⟩) st.fSpace.fLast.length c2, .int .i64 st.fTxg, .slice a4 st.fGone.length c4, .int .i64 st.fKeep, .slice a6 st.fDead.length c6, .bool st.fSame]) :: rowA encS 1 9 (.slice (some ⟨g0, 0, none⟩) st.fRows.length c0) (st.fRows.set i text) :: rowA encI 1 3 (.slice (some ⟨g1, 0, none⟩) st.fSpace.fRefs.length c1) (st.fSpace.fRefs.set i ((st.fSpace.fRefs.getD i 0) + 1)) :: rowA encI 1 3 (.slice (some ⟨g2, 0, none⟩) st.fSpace.fLast.length c2) (st.fSpace.fLast.set i st.fTxg) :: rowA PtrD.cells 5 33 (.slice a4 st.fGone.length c4) st.fGone :: rowA PtrD.cells 5 33 (.slice a6 st.fDead.length c6) st.fDead :: F) _ from ((HS.out.drew.erase 2).erase 1))
            generalize World.drew _ = w18 at HS HS2 ⊢
            refine wh_y 0 rfl (by kernel_rfl) (by kernel_rfl) (by kernel_rfl) (fun _ _ _ h => h) rfl HF rfl rfl (fun _ HS => (yl_loadR (cs := [.slice (some ⟨g0, 0, none⟩) st.fRows.length c0, .slice (some ⟨g1, 0, none⟩) st.fSpace.fRefs.length c1, .slice (some ⟨g2, 0, none⟩) st.fSpace.fLast.length c2, .int .i64 st.fTxg, .slice a4 st.fGone.length c4, .int .i64 st.fKeep, .slice a6 st.fDead.length c6, .bool st.fSame]) rfl (HF.ev rfl) ((HS.box 1 rfl).sub 0 8) (by kernel_rfl))) HS.out ?_; clear HF; clear a; intro a HF
            refine wh_y 1 rfl (by kernel_rfl) (by kernel_rfl) (by kernel_rfl) (fun _ _ _ h => h) rfl HF rfl rfl (fun _ HS => (yl_loadR (cs := [.int .i64 ((ptrOf (i : Int) st.fTxg level text).fAt), .int .i64 ((ptrOf (i : Int) st.fTxg level text).fBirth), .int .i64 ((ptrOf (i : Int) st.fTxg level text).fSize), .int .i64 ((ptrOf (i : Int) st.fTxg level text).fSum), .int .i64 ((ptrOf (i : Int) st.fTxg level text).fLevel)]) rfl (HF.ev rfl) ((HS.box 0 rfl).sub 0 5) (by kernel_rfl))) HS.out ?_; clear HF; clear a; intro a HF
            refine wh_one 2 (by kernel_rfl) ?_
            refine wo_storeBox rfl rfl rfl rfl (HF.ev rfl) (HF.ev rfl) HS2.out 2 rfl (cells_lit [.slice (some ⟨g0, 0, none⟩) st.fRows.length c0, .slice (some ⟨g1, 0, none⟩) st.fSpace.fRefs.length c1, .slice (some ⟨g2, 0, none⟩) st.fSpace.fLast.length c2, .int .i64 st.fTxg, .slice a4 st.fGone.length c4, .int .i64 st.fKeep, .slice a6 st.fDead.length c6, .bool st.fSame] rfl rfl) (by kernel_rfl) ?_
            clear HS HS2; intro w19 HS2; replace HS2 : Bx (St w0 (boxA b5 5 33 (.agg #[.int .i64 ((ptrOf (i : Int) st.fTxg level text).fAt), .int .i64 ((ptrOf (i : Int) st.fTxg level text).fBirth), .int .i64 ((ptrOf (i : Int) st.fTxg level text).fSize), .int .i64 ((ptrOf (i : Int) st.fTxg level text).fSum), .int .i64 ((ptrOf (i : Int) st.fTxg level text).fLevel)]) :: boxA b3 5 33 (.agg #[.int .i64 0, .int .i64 0, .int .i64 0, .int .i64 0, .int .i64 0]) :: boxA b2 8 65 (.agg #[.slice (some ⟨g0, 0, none⟩) st.fRows.length c0, .slice (some ⟨g1, 0, none⟩) st.fSpace.fRefs.length c1, .slice (some ⟨g2, 0, none⟩) st.fSpace.fLast.length c2, .int .i64 st.fTxg, .slice a4 st.fGone.length c4, .int .i64 st.fKeep, .slice a6 st.fDead.length c6, .bool st.fSame]) :: boxA b1 8 65 (.agg #[.slice (some ⟨g0, 0, none⟩) st.fRows.length c0, .slice (some ⟨g1, 0, none⟩) st.fSpace.fRefs.length c1, .slice (some ⟨g2, 0, none⟩) st.fSpace.fLast.length c2, .int .i64 st.fTxg, .slice a4 st.fGone.length c4, .int .i64 st.fKeep, .slice a6 st.fDead.length c6, .bool st.fSame]) :: rowA encS 1 9 (.slice (some ⟨g0, 0, none⟩) st.fRows.length c0) (st.fRows.set i text) :: rowA encI 1 3 (.slice (some ⟨g1, 0, none⟩) st.fSpace.fRefs.length c1) (st.fSpace.fRefs.set i ((st.fSpace.fRefs.getD i 0) + 1)) :: rowA encI 1 3 (.slice (some ⟨g2, 0, none⟩) st.fSpace.fLast.length c2) (st.fSpace.fLast.set i st.fTxg) :: rowA PtrD.cells 5 33 (.slice a4 st.fGone.length c4) st.fGone :: rowA PtrD.cells 5 33 (.slice a6 st.fDead.length c6) st.fDead :: F) _) := ⟨HS2⟩
            have HS : Bx (St w0 (boxA b5 5 33 (.agg #[.int .i64 ((ptrOf (i : Int) st.fTxg level text).fAt), .int .i64 ((ptrOf (i : Int) st.fTxg level text).fBirth), .int .i64 ((ptrOf (i : Int) st.fTxg level text).fSize), .int .i64 ((ptrOf (i : Int) st.fTxg level text).fSum), .int .i64 ((ptrOf (i : Int) st.fTxg level text).fLevel)]) :: boxA b1 8 65 (.agg #[.slice (some ⟨g0, 0, none⟩) st.fRows.length c0, .slice (some ⟨g1, 0, none⟩) st.fSpace.fRefs.length c1, .slice (some ⟨g2, 0, none⟩) st.fSpace.fLast.length c2, .int .i64 st.fTxg, .slice a4 st.fGone.length c4, .int .i64 st.fKeep, .slice a6 st.fDead.length c6, .bool st.fSame]) :: rowA encS 1 9 (.slice (some ⟨g0, 0, none⟩) st.fRows.length c0) (st.fRows.set i text) :: rowA encI 1 3 (.slice (some ⟨g1, 0, none⟩) st.fSpace.fRefs.length c1) (st.fSpace.fRefs.set i ((st.fSpace.fRefs.getD i 0) + 1)) :: rowA encI 1 3 (.slice (some ⟨g2, 0, none⟩) st.fSpace.fLast.length c2) (st.fSpace.fLast.set i st.fTxg) :: rowA PtrD.cells 5 33 (.slice a4 st.fGone.length c4) st.fGone :: rowA PtrD.cells 5 33 (.slice a6 st.fDead.length c6) st.fDead :: F) _) := ⟨((HS2.out.erase 2).erase 1)⟩; refine ⟨HS.out, ?_⟩
            refine wh_one 3 (by kernel_rfl) ?_
            refine wo_storeBox rfl rfl rfl rfl (HF.ev rfl) (HF.ev rfl) HS2.out 1 rfl (cells_lit [.int .i64 ((ptrOf (i : Int) st.fTxg level text).fAt), .int .i64 ((ptrOf (i : Int) st.fTxg level text).fBirth), .int .i64 ((ptrOf (i : Int) st.fTxg level text).fSize), .int .i64 ((ptrOf (i : Int) st.fTxg level text).fSum), .int .i64 ((ptrOf (i : Int) st.fTxg level text).fLevel)] rfl rfl) (by kernel_rfl) ?_
            clear HS HS2; intro w20 HS2; replace HS2 : Bx (St w0 (boxA b5 5 33 (.agg #[.int .i64 ((ptrOf (i : Int) st.fTxg level text).fAt), .int .i64 ((ptrOf (i : Int) st.fTxg level text).fBirth), .int .i64 ((ptrOf (i : Int) st.fTxg level text).fSize), .int .i64 ((ptrOf (i : Int) st.fTxg level text).fSum), .int .i64 ((ptrOf (i : Int) st.fTxg level text).fLevel)]) :: boxA b3 5 33 (.agg #[.int .i64 ((ptrOf (i : Int) st.fTxg level text).fAt), .int .i64 ((ptrOf (i : Int) st.fTxg level text).fBirth), .int .i64 ((ptrOf (i : Int) st.fTxg level text).fSize), .int .i64 ((ptrOf (i : Int) st.fTxg level text).fSum), .int .i64 ((ptrOf (i : Int) st.fTxg level text).fLevel)]) :: boxA b2 8 65 (.agg #[.slice (some ⟨g0, 0, none⟩) st.fRows.length c0, .slice (some ⟨g1, 0, none⟩) st.fSpace.fRefs.length c1, .slice (some ⟨g2, 0, none⟩) st.fSpace.fLast.length c2, .int .i64 st.fTxg, .slice a4 st.fGone.length c4, .int .i64 st.fKeep, .slice a6 st.fDead.length c6, .bool st.fSame]) :: boxA b1 8 65 (.agg #[.slice (some ⟨g0, 0, none⟩) st.fRows.length c0, .slice (some ⟨g1, 0, none⟩) st.fSpace.fRefs.length c1, .slice (some ⟨g2, 0, none⟩) st.fSpace.fLast.length c2, .int .i64 st.fTxg, .slice a4 st.fGone.length c4, .int .i64 st.fKeep, .slice a6 st.fDead.length c6, .bool st.fSame]) :: rowA encS 1 9 (.slice (some ⟨g0, 0, none⟩) st.fRows.length c0) (st.fRows.set i text) :: rowA encI 1 3 (.slice (some ⟨g1, 0, none⟩) st.fSpace.fRefs.length c1) (st.fSpace.fRefs.set i ((st.fSpace.fRefs.getD i 0) + 1)) :: rowA encI 1 3 (.slice (some ⟨g2, 0, none⟩) st.fSpace.fLast.length c2) (st.fSpace.fLast.set i st.fTxg) :: rowA PtrD.cells 5 33 (.slice a4 st.fGone.length c4) st.fGone :: rowA PtrD.cells 5 33 (.slice a6 st.fDead.length c6) st.fDead :: F) _) := ⟨HS2⟩
            have HS : Bx (St w0 (boxA b5 5 33 (.agg #[.int .i64 ((ptrOf (i : Int) st.fTxg level text).fAt), .int .i64 ((ptrOf (i : Int) st.fTxg level text).fBirth), .int .i64 ((ptrOf (i : Int) st.fTxg level text).fSize), .int .i64 ((ptrOf (i : Int) st.fTxg level text).fSum), .int .i64 ((ptrOf (i : Int) st.fTxg level text).fLevel)]) :: boxA b1 8 65 (.agg #[.slice (some ⟨g0, 0, none⟩) st.fRows.length c0, .slice (some ⟨g1, 0, none⟩) st.fSpace.fRefs.length c1, .slice (some ⟨g2, 0, none⟩) st.fSpace.fLast.length c2, .int .i64 st.fTxg, .slice a4 st.fGone.length c4, .int .i64 st.fKeep, .slice a6 st.fDead.length c6, .bool st.fSame]) :: rowA encS 1 9 (.slice (some ⟨g0, 0, none⟩) st.fRows.length c0) (st.fRows.set i text) :: rowA encI 1 3 (.slice (some ⟨g1, 0, none⟩) st.fSpace.fRefs.length c1) (st.fSpace.fRefs.set i ((st.fSpace.fRefs.getD i 0) + 1)) :: rowA encI 1 3 (.slice (some ⟨g2, 0, none⟩) st.fSpace.fLast.length c2) (st.fSpace.fLast.set i st.fTxg) :: rowA PtrD.cells 5 33 (.slice a4 st.fGone.length c4) st.fGone :: rowA PtrD.cells 5 33 (.slice a6 st.fDead.length c6) st.fDead :: F) _) := ⟨((HS2.out.erase 2).erase 1)⟩; refine ⟨HS.out, ?_⟩
            refine wh_y 4 rfl (by kernel_rfl) (by kernel_rfl) (by kernel_rfl) (fun _ _ _ h => h) rfl HF rfl rfl (fun _ HS => (yl_assign rfl (HF.ev rfl))) HS.out ?_; clear HF; clear a; intro a HF
            refine wh_done (by kernel_rfl) ?_
            replace HS := HS2; clear HS2
            refine ex_then ?_
            refine wp_ret ?_
            refine bp_ret3 HF Try.results83 (HF.resBox rfl (HS.out.box 2 rfl) (by kernel_rfl)) (HF.resBox rfl (HS.out.box 1 rfl) (by kernel_rfl)) (HF.res rfl) ?_
            exact .inr ⟨i, hi64, hws, .inr ⟨hpk, rfl, HS.out.tail.tail.tail.tail⟩⟩
      · clear HF; have HF := HF1; clear HF1
        have hws : writeS st text level = likeR st text := by unfold writeS; rw [hls, if_neg (of_decide_eq_false cc3)]
        obtain ⟨i, hi, hi64⟩ : ∃ i : Nat, likeR st text = i ∧ i < 64 := (atOr_cases _).resolve_left (of_decide_eq_false cc3)
        replace HF : Fr 70 a [(1, .string text), (2, .int .i64 level), (3, .pointer (some ⟨b1, 0, none⟩)), (6, .pointer (some ⟨b2, 0, none⟩)), (7, .pointer (some ⟨b3, 0, none⟩)), (8, .bool false), (9, .int .i64 (i : Int)), (22, .bool false)] := by
          rw [← hi]; exact HF.less _ ⟨rfl, rfl, rfl, rfl, rfl, rfl, rfl, rfl, trivial⟩
        rw [hi] at hws
        refine wc_false HF rfl ?_
        refine wp_skip ?_
        refine ex_then ?_
        refine wp_seq ?_
        refine wp_seq ?_
        refine wp_region_lit ?_
        refine wl_y rfl HF rfl rfl (yl_move rfl (HF.ev rfl)) ?_; clear HF; clear a; intro a HF
        refine wl_y rfl HF rfl rfl (yl_lssI rfl (HF.ev rfl) (HF.ev rfl)) ?_; clear HF; clear a; intro a HF
        refine wpList_nil ?_
        refine ex_then ?_
        refine HF.cases 28 rfl (fun cc6 HF1 => ?_) (fun cc6 HF1 => ?_)
        · clear HF; have HF := HF1; clear HF1
          exact absurd (of_decide_eq_true cc6) (by omega)
        · clear HF; have HF := HF1; clear HF1
          refine wc_false HF rfl ?_
          refine wp_skip ?_
          refine ex_then ?_
          refine wp_seq ?_
          refine wp_region_lit ?_
          refine wl_y rfl HF rfl rfl (yl_move rfl (HF.ev rfl)) ?_; clear HF; clear a; intro a HF
          refine wl_y rfl HF rfl rfl (yl_fieldAddr (j := 3) rfl (HF.ev rfl) (by kernel_rfl)) ?_; clear HF; clear a; intro a HF
          refine wl_y rfl HF rfl rfl (yl_load (v := .int .i64 st.fTxg) rfl (HF.ev rfl) (((HS.out.box 2 rfl).cell 3).trans rfl) (by kernel_rfl)) ?_; clear HF; clear a; intro a HF
          refine wl_y rfl HF rfl rfl (yl_move rfl (HF.ev rfl)) ?_; clear HF; clear a; intro a HF
          refine wl_y rfl HF rfl rfl (yl_move rfl (HF.ev rfl)) ?_; clear HF; clear a; intro a HF
          refine wl_callB rfl HF rfl (enter_of Try.func112 (by kernel_rfl) rfl) (args := #[.int .i64 (i : Int), .int .i64 st.fTxg, .int .i64 level, .string text]) rfl (v := .tuple #[.agg #[.int .i64 ((ptrOf (i : Int) st.fTxg level text).fAt), .int .i64 ((ptrOf (i : Int) st.fTxg level text).fBirth), .int .i64 ((ptrOf (i : Int) st.fTxg level text).fSize), .int .i64 ((ptrOf (i : Int) st.fTxg level text).fSum), .int .i64 ((ptrOf (i : Int) st.fTxg level text).fLevel)], .bool (ptrOk (i : Int) st.fTxg level text)]) (ptrOfS_any (i : Int) st.fTxg level text _ (by omega)) rfl rfl HS.out ?_; clear HF HS; clear a; intro w21 a HS HF; replace HS := Bx.mk HS
          refine wl_y rfl HF rfl rfl (yl_move rfl (HF.ev rfl)) ?_; clear HF; clear a; intro a HF
          refine wl_y rfl HF rfl rfl (yl_extract rfl (HF.ev rfl) rfl) ?_; clear HF; clear a; intro a HF
          refine wl_y rfl HF rfl rfl (yl_extract rfl (HF.ev rfl) rfl) ?_; clear HF; clear a; intro a HF
          refine wl_alloc rfl HF rfl rfl rfl (Z := [.int .i64 0, .int .i64 0, .int .i64 0, .int .i64 0, .int .i64 0]) (by kernel_rfl) rfl HS.out ?_; clear HF HS; clear a; intro a w22 b6 HF HS; replace HS := Bx.mk HS
          refine wl_storeBox rfl HF rfl rfl (HF.ev rfl) (HF.ev rfl) HS.out 0 rfl (cells_lit [.int .i64 ((ptrOf (i : Int) st.fTxg level text).fAt), .int .i64 ((ptrOf (i : Int) st.fTxg level text).fBirth), .int .i64 ((ptrOf (i : Int) st.fTxg level text).fSize), .int .i64 ((ptrOf (i : Int) st.fTxg level text).fSum), .int .i64 ((ptrOf (i : Int) st.fTxg level text).fLevel)] rfl rfl) (by kernel_rfl) ?_; clear HS; intro w23 HS; replace HS := Bx.mk HS
          have HS : Bx (St w0 (boxA b6 5 33 (.agg #[.int .i64 ((ptrOf (i : Int) st.fTxg level text).fAt), .int .i64 ((ptrOf (i : Int) st.fTxg level text).fBirth), .int .i64 ((ptrOf (i : Int) st.fTxg level text).fSize), .int .i64 ((ptrOf (i : Int) st.fTxg level text).fSum), .int .i64 ((ptrOf (i : Int) st.fTxg level text).fLevel)]) :: boxA b3 5 33 (.agg #[.int .i64 0, .int .i64 0, .int .i64 0, .int .i64 0, .int .i64 0]) :: boxA b2 8 65 (.agg #[.slice none 0 0, .slice none 0 0, .slice none 0 0, .int .i64 0, .slice none 0 0, .int .i64 0, .slice none 0 0, .bool false]) :: boxA b1 8 65 (.agg #[.slice (some ⟨g0, 0, none⟩) st.fRows.length c0, .slice (some ⟨g1, 0, none⟩) st.fSpace.fRefs.length c1, .slice (some ⟨g2, 0, none⟩) st.fSpace.fLast.length c2, .int .i64 st.fTxg, .slice a4 st.fGone.length c4, .int .i64 st.fKeep, .slice a6 st.fDead.length c6, .bool st.fSame]) :: rowA encS 1 9 (.slice (some ⟨g0, 0, none⟩) st.fRows.length c0) st.fRows :: rowA encI 1 3 (.slice (some ⟨g1, 0, none⟩) st.fSpace.fRefs.length c1) st.fSpace.fRefs :: rowA encI 1 3 (.slice (some ⟨g2, 0, none⟩) st.fSpace.fLast.length c2) st.fSpace.fLast :: rowA PtrD.cells 5 33 (.slice a4 st.fGone.length c4) st.fGone :: rowA PtrD.cells 5 33 (.slice a6 st.fDead.length c6) st.fDead :: F) _) := HS
          refine wl_y rfl HF rfl rfl (yl_assign rfl (HF.ev rfl)) ?_; clear HF; clear a; intro a HF
          refine wpList_nil ?_
          refine ex_then ?_
          refine wp_seq ?_
          refine wp_seq ?_
          refine wp_region_lit ?_
          refine wl_y rfl HF rfl rfl (yl_move rfl (HF.ev rfl)) ?_; clear HF; clear a; intro a HF
          refine wl_y rfl HF rfl rfl (yl_not rfl (HF.ev rfl)) ?_; clear HF; clear a; intro a HF
          refine wpList_nil ?_
          refine ex_then ?_
          refine HF.cases 41 rfl (fun cc7 HF1 => ?_) (fun cc7 HF1 => ?_)
          · clear HF; have HF := HF1; clear HF1
            have hpk : ptrOk (i : Int) st.fTxg level text = false := by simpa using cc7
            refine wc_true HF rfl ?_
            refine wp_seq ?_
            refine wp_region_lit ?_
            refine wl_y rfl HF rfl rfl (yl_loadR (cs := [.slice (some ⟨g0, 0, none⟩) st.fRows.length c0, .slice (some ⟨g1, 0, none⟩) st.fSpace.fRefs.length c1, .slice (some ⟨g2, 0, none⟩) st.fSpace.fLast.length c2, .int .i64 st.fTxg, .slice a4 st.fGone.length c4, .int .i64 st.fKeep, .slice a6 st.fDead.length c6, .bool st.fSame]) rfl (HF.ev rfl) ((HS.out.box 3 rfl).sub 0 8) (by kernel_rfl)) ?_; clear HF; clear a; intro a HF
            refine wl_y rfl HF rfl rfl (yl_build HF rfl (ps := []) rfl (cs := #[.int .i64 0, .int .i64 0, .int .i64 0, .int .i64 0, .int .i64 0]) (by kernel_rfl)) ?_; clear HF; clear a; intro a HF
            refine wl_storeBox rfl HF rfl rfl (HF.ev rfl) (HF.ev rfl) HS.out 2 rfl (cells_lit [.slice (some ⟨g0, 0, none⟩) st.fRows.length c0, .slice (some ⟨g1, 0, none⟩) st.fSpace.fRefs.length c1, .slice (some ⟨g2, 0, none⟩) st.fSpace.fLast.length c2, .int .i64 st.fTxg, .slice a4 st.fGone.length c4, .int .i64 st.fKeep, .slice a6 st.fDead.length c6, .bool st.fSame] rfl rfl) (by kernel_rfl) ?_; clear HS; intro w24 HS; replace HS := Bx.mk HS
            have HS : Bx (St w0 (boxA b6 5 33 (.agg #[.int .i64 ((ptrOf (i : Int) st.fTxg level text).fAt), .int .i64 ((ptrOf (i : Int) st.fTxg level text).fBirth), .int .i64 ((ptrOf (i : Int) st.fTxg level text).fSize), .int .i64 ((ptrOf (i : Int) st.fTxg level text).fSum), .int .i64 ((ptrOf (i : Int) st.fTxg level text).fLevel)]) :: boxA b3 5 33 (.agg #[.int .i64 0, .int .i64 0, .int .i64 0, .int .i64 0, .int .i64 0]) :: boxA b2 8 65 (.agg #[.slice (some ⟨g0, 0, none⟩) st.fRows.length c0, .slice (some ⟨g1, 0, none⟩) st.fSpace.fRefs.length c1, .slice (some ⟨g2, 0, none⟩) st.fSpace.fLast.length c2, .int .i64 st.fTxg, .slice a4 st.fGone.length c4, .int .i64 st.fKeep, .slice a6 st.fDead.length c6, .bool st.fSame]) :: boxA b1 8 65 (.agg #[.slice (some ⟨g0, 0, none⟩) st.fRows.length c0, .slice (some ⟨g1, 0, none⟩) st.fSpace.fRefs.length c1, .slice (some ⟨g2, 0, none⟩) st.fSpace.fLast.length c2, .int .i64 st.fTxg, .slice a4 st.fGone.length c4, .int .i64 st.fKeep, .slice a6 st.fDead.length c6, .bool st.fSame]) :: rowA encS 1 9 (.slice (some ⟨g0, 0, none⟩) st.fRows.length c0) st.fRows :: rowA encI 1 3 (.slice (some ⟨g1, 0, none⟩) st.fSpace.fRefs.length c1) st.fSpace.fRefs :: rowA encI 1 3 (.slice (some ⟨g2, 0, none⟩) st.fSpace.fLast.length c2) st.fSpace.fLast :: rowA PtrD.cells 5 33 (.slice a4 st.fGone.length c4) st.fGone :: rowA PtrD.cells 5 33 (.slice a6 st.fDead.length c6) st.fDead :: F) _) := HS
            refine wl_storeBox rfl HF rfl rfl (HF.ev rfl) (HF.ev rfl) HS.out 1 rfl (cells_lit [.int .i64 0, .int .i64 0, .int .i64 0, .int .i64 0, .int .i64 0] rfl rfl) (by kernel_rfl) ?_; clear HS; intro w25 HS; replace HS := Bx.mk HS
            have HS : Bx (St w0 (boxA b6 5 33 (.agg #[.int .i64 ((ptrOf (i : Int) st.fTxg level text).fAt), .int .i64 ((ptrOf (i : Int) st.fTxg level text).fBirth), .int .i64 ((ptrOf (i : Int) st.fTxg level text).fSize), .int .i64 ((ptrOf (i : Int) st.fTxg level text).fSum), .int .i64 ((ptrOf (i : Int) st.fTxg level text).fLevel)]) :: boxA b3 5 33 (.agg #[.int .i64 0, .int .i64 0, .int .i64 0, .int .i64 0, .int .i64 0]) :: boxA b2 8 65 (.agg #[.slice (some ⟨g0, 0, none⟩) st.fRows.length c0, .slice (some ⟨g1, 0, none⟩) st.fSpace.fRefs.length c1, .slice (some ⟨g2, 0, none⟩) st.fSpace.fLast.length c2, .int .i64 st.fTxg, .slice a4 st.fGone.length c4, .int .i64 st.fKeep, .slice a6 st.fDead.length c6, .bool st.fSame]) :: boxA b1 8 65 (.agg #[.slice (some ⟨g0, 0, none⟩) st.fRows.length c0, .slice (some ⟨g1, 0, none⟩) st.fSpace.fRefs.length c1, .slice (some ⟨g2, 0, none⟩) st.fSpace.fLast.length c2, .int .i64 st.fTxg, .slice a4 st.fGone.length c4, .int .i64 st.fKeep, .slice a6 st.fDead.length c6, .bool st.fSame]) :: rowA encS 1 9 (.slice (some ⟨g0, 0, none⟩) st.fRows.length c0) st.fRows :: rowA encI 1 3 (.slice (some ⟨g1, 0, none⟩) st.fSpace.fRefs.length c1) st.fSpace.fRefs :: rowA encI 1 3 (.slice (some ⟨g2, 0, none⟩) st.fSpace.fLast.length c2) st.fSpace.fLast :: rowA PtrD.cells 5 33 (.slice a4 st.fGone.length c4) st.fGone :: rowA PtrD.cells 5 33 (.slice a6 st.fDead.length c6) st.fDead :: F) _) := HS
            refine wl_y rfl HF rfl rfl (yl_assign rfl (HF.ev rfl)) ?_; clear HF; clear a; intro a HF
            refine wpList_nil ?_
            refine ex_then ?_
            refine wp_ret ?_
            refine ex_then_ret ?_
            refine bp_ret3 HF Try.results83 (HF.resBox rfl (HS.out.box 2 rfl) (by kernel_rfl)) (HF.resBox rfl (HS.out.box 1 rfl) (by kernel_rfl)) (HF.res rfl) ?_
            exact .inr ⟨i, hi64, hws, .inl ⟨hpk, rfl, HS.out.tail.tail.tail.tail⟩⟩
          · clear HF; have HF := HF1; clear HF1
            have hpk : ptrOk (i : Int) st.fTxg level text = true := by simpa using cc7
            refine wc_false HF rfl ?_
            refine wp_skip ?_
            refine ex_then ?_
            refine wp_seq ?_
            refine wp_region_lit ?_
            refine wl_y rfl HF rfl rfl (yl_fieldAddr (j := 0) rfl (HF.ev rfl) (by kernel_rfl)) ?_; clear HF; clear a; intro a HF
            refine wl_y rfl HF rfl rfl (yl_load (v := .slice (some ⟨g0, 0, none⟩) st.fRows.length c0) rfl (HF.ev rfl) (((HS.out.box 3 rfl).cell 0).trans rfl) (by kernel_rfl)) ?_; clear HF; clear a; intro a HF
            refine wl_y rfl HF rfl rfl (yl_move rfl (HF.ev rfl)) ?_; clear HF; clear a; intro a HF
            refine wl_y rfl HF rfl rfl (yl_move rfl (HF.ev rfl)) ?_; clear HF; clear a; intro a HF
            refine wl_y rfl HF rfl rfl (yl_indexAddr (e := 9) (i := i) (size := 1) rfl (HF.ev rfl) (HF.ev rfl) (by kernel_rfl) rfl (by omega)) ?_; clear HF; clear a; intro a HF
            refine wl_storeE encS_len rfl rfl rfl (HF.ev rfl) (HF.ev rfl) (by kernel_rfl) HS.out 4 rfl (by omega) (z := text) rfl rfl ?_; clear HS; intro w26 HS; replace HS := Bx.mk HS
            refine wpList_nil ?_
            refine ex_then ?_
            refine wp_seq ?_
            have hrb := hr i
            refine wr_tail 12 (by kernel_rfl) (by kernel_rfl) HS.out ?_
            simp only [List.take_succ_cons, List.take_zero, List.drop_succ_cons, List.drop_zero]
            intro w27 HS
            replace HS := Bx.mk HS
            refine ws_y rfl HF rfl rfl (yl_fieldAddr (j := 1) rfl (HF.ev rfl) (by kernel_rfl)) ?_; clear HF; clear a; intro a HF
            refine ws_y rfl HF rfl rfl (yl_fieldAddr (j := 0) rfl (HF.ev rfl) (by kernel_rfl)) ?_; clear HF; clear a; intro a HF
            refine ws_y rfl HF rfl rfl (yl_load (v := .slice (some ⟨g1, 0, none⟩) st.fSpace.fRefs.length c1) rfl (HF.ev rfl) (((HS.out.box 3 rfl).cell 1).trans rfl) (by kernel_rfl)) ?_; clear HF; clear a; intro a HF
            refine ws_y rfl HF rfl rfl (yl_move rfl (HF.ev rfl)) ?_; clear HF; clear a; intro a HF
            refine ws_y rfl HF rfl rfl (yl_fieldAddr (j := 1) rfl (HF.ev rfl) (by kernel_rfl)) ?_; clear HF; clear a; intro a HF
            refine ws_y rfl HF rfl rfl (yl_fieldAddr (j := 0) rfl (HF.ev rfl) (by kernel_rfl)) ?_; clear HF; clear a; intro a HF
            refine ws_y rfl HF rfl rfl (yl_load (v := .slice (some ⟨g1, 0, none⟩) st.fSpace.fRefs.length c1) rfl (HF.ev rfl) (((HS.out.box 3 rfl).cell 1).trans rfl) (by kernel_rfl)) ?_; clear HF; clear a; intro a HF
            refine ws_y rfl HF rfl rfl (yl_move rfl (HF.ev rfl)) ?_; clear HF; clear a; intro a HF
            refine ws_y rfl HF rfl rfl (yl_indexAddr (e := 3) (i := i) (size := 1) rfl (HF.ev rfl) (HF.ev rfl) (by kernel_rfl) rfl (by omega)) ?_; clear HF; clear a; intro a HF
            refine ws_y rfl HF rfl rfl (yl_load (v := .int .i64 (st.fSpace.fRefs.getD i 0)) rfl (HF.ev rfl) (HS.out.elem1 encI_len 5 rfl (get_getD (xs := st.fSpace.fRefs) (j := i) (d := 0) (by omega)) rfl) (by kernel_rfl)) ?_; clear HF; clear a; intro a HF
            refine ws_y rfl HF rfl rfl (yl_addI rfl (HF.ev rfl) (HF.ev rfl) (i64w (by omega))) ?_; clear HF; clear a; intro a HF
            refine ws_y rfl HF rfl rfl (yl_indexAddr (e := 3) (i := i) (size := 1) rfl (HF.ev rfl) (HF.ev rfl) (by kernel_rfl) rfl (by omega)) ?_; clear HF; clear a; intro a HF
            refine wpStill_nil ?_
            refine wl_storeE encI_len rfl rfl rfl (HF.ev rfl) (HF.ev rfl) (by kernel_rfl) HS.out 5 rfl (by omega) (z := ((st.fSpace.fRefs.getD i 0) + 1)) rfl rfl ?_; clear HS; intro w28 HS; replace HS := Bx.mk HS
            refine wpList_nil ?_
            refine ex_then ?_
            refine wp_seq ?_
            refine wp_region_lit ?_
            refine wl_y rfl HF rfl rfl (yl_fieldAddr (j := 1) rfl (HF.ev rfl) (by kernel_rfl)) ?_; clear HF; clear a; intro a HF
            refine wl_y rfl HF rfl rfl (yl_fieldAddr (j := 1) rfl (HF.ev rfl) (by kernel_rfl)) ?_; clear HF; clear a; intro a HF
            refine wl_y rfl HF rfl rfl (yl_load (v := .slice (some ⟨g2, 0, none⟩) st.fSpace.fLast.length c2) rfl (HF.ev rfl) (((HS.out.box 3 rfl).cell 2).trans rfl) (by kernel_rfl)) ?_; clear HF; clear a; intro a HF
            refine wl_y rfl HF rfl rfl (yl_move rfl (HF.ev rfl)) ?_; clear HF; clear a; intro a HF
            refine wl_y rfl HF rfl rfl (yl_fieldAddr (j := 3) rfl (HF.ev rfl) (by kernel_rfl)) ?_; clear HF; clear a; intro a HF
            refine wl_y rfl HF rfl rfl (yl_load (v := .int .i64 st.fTxg) rfl (HF.ev rfl) (((HS.out.box 3 rfl).cell 3).trans rfl) (by kernel_rfl)) ?_; clear HF; clear a; intro a HF
            refine wl_y rfl HF rfl rfl (yl_indexAddr (e := 3) (i := i) (size := 1) rfl (HF.ev rfl) (HF.ev rfl) (by kernel_rfl) rfl (by omega)) ?_; clear HF; clear a; intro a HF
            refine wl_storeE encI_len rfl rfl rfl (HF.ev rfl) (HF.ev rfl) (by kernel_rfl) HS.out 6 rfl (by omega) (z := st.fTxg) rfl rfl ?_; clear HS; intro w29 HS; replace HS := Bx.mk HS
            refine wpList_nil ?_
            refine ex_then ?_
            refine wp_seq ?_
            refine wr_heldS (s := boxA b6 5 33 (.agg #[.int .i64 ((ptrOf (i : Int) st.fTxg level text).fAt), .int .i64 ((ptrOf (i : Int) st.fTxg level text).fBirth), .int .i64 ((ptrOf (i : Int) st.fTxg level text).fSize), .int .i64 ((ptrOf (i : Int) st.fTxg level text).fSum), .int .i64 ((ptrOf (i : Int) st.fTxg level text).fLevel)]) :: boxA b1 8 65 (.agg #[.slice (some ⟨g0, 0, none⟩) st.fRows.length c0, .slice (some ⟨g1, 0, none⟩) st.fSpace.fRefs.length c1, .slice (some ⟨g2, 0, none⟩) st.fSpace.fLast.length c2, .int .i64 st.fTxg, .slice a4 st.fGone.length c4, .int .i64 st.fKeep, .slice a6 st.fDead.length c6, .bool st.fSame]) :: rowA encS 1 9 (.slice (some ⟨g0, 0, none⟩) st.fRows.length c0) (st.fRows.set i text) :: rowA encI 1 3 (.slice (some ⟨g1, 0, none⟩) st.fSpace.fRefs.length c1) (st.fSpace.fRefs.set i ((st.fSpace.fRefs.getD i 0) + 1)) :: rowA encI 1 3 (.slice (some ⟨g2, 0, none⟩) st.fSpace.fLast.length c2) (st.fSpace.fLast.set i st.fTxg) :: rowA PtrD.cells 5 33 (.slice a4 st.fGone.length c4) st.fGone :: rowA PtrD.cells 5 33 (.slice a6 st.fDead.length c6) st.fDead :: F) (by kernel_rfl) (St.drew (((HS.out.erase 2).erase 1))) ?_
            have HS2 := Bx.mk HS.out.drew; replace HS := Bx.mk (show St w0 (boxA b6 5 33 (.agg #[.int .i64 ((ptrOf (i : Int) st.fTxg level text).fAt), .int .i64 ((ptrOf (i : Int) st.fTxg level text).fBirth), .int .i64 ((ptrOf (i : Int) st.fTxg level text).fSize), .int .i64 ((ptrOf (i : Int) st.fTxg level text).fSum), .int .i64 ((ptrOf (i : Int) st.fTxg level text).fLevel)]) :: boxA b1 8 65 (.agg #[.slice (some ⟨g0, 0, none⟩) st.fRows.length c0, .slice (some ⟨g1, 0, none⟩) st.fSpace.fRefs.length c1, .slice (some ⟨g2, 0, none⟩) st.fSpace.fLast.length c2, .int .i64 st.fTxg, .slice a4 st.fGone.length c4, .int .i64 st.fKeep, .slice a6 st.fDead.length c6, .bool st.fSame]) :: rowA encS 1 9 (.slice (some ⟨g0, 0, none⟩) st.fRows.length c0) (st.fRows.set i text) :: rowA encI 1 3 (.slice (some ⟨g1, 0, none⟩) st.fSpace.fRefs.length c1) (st.fSpace.fRefs.set i ((st.fSpace.fRefs.getD i 0) + 1)) :: rowA encI 1 3 (.slice (some ⟨g2, 0, none⟩) st.fSpace.fLast.length c2) (st.fSpace.fLast.set i st.fTxg) :: rowA PtrD.cells 5 33 (.slice a4 st.fGone.length c4) st.fGone :: rowA PtrD.cells 5 33 (.slice a6 st.fDead.length c6) st.fDead :: F) _ from ((HS.out.drew.erase 2).erase 1))
            generalize World.drew _ = w30 at HS HS2 ⊢
            refine wh_y 0 rfl (by kernel_rfl) (by kernel_rfl) (by kernel_rfl) (fun _ _ _ h => h) rfl HF rfl rfl (fun _ HS => (yl_loadR (cs := [.slice (some ⟨g0, 0, none⟩) st.fRows.length c0, .slice (some ⟨g1, 0, none⟩) st.fSpace.fRefs.length c1, .slice (some ⟨g2, 0, none⟩) st.fSpace.fLast.length c2, .int .i64 st.fTxg, .slice a4 st.fGone.length c4, .int .i64 st.fKeep, .slice a6 st.fDead.length c6, .bool st.fSame]) rfl (HF.ev rfl) ((HS.box 1 rfl).sub 0 8) (by kernel_rfl))) HS.out ?_; clear HF; clear a; intro a HF
            refine wh_y 1 rfl (by kernel_rfl) (by kernel_rfl) (by kernel_rfl) (fun _ _ _ h => h) rfl HF rfl rfl (fun _ HS => (yl_loadR (cs := [.int .i64 ((ptrOf (i : Int) st.fTxg level text).fAt), .int .i64 ((ptrOf (i : Int) st.fTxg level text).fBirth), .int .i64 ((ptrOf (i : Int) st.fTxg level text).fSize), .int .i64 ((ptrOf (i : Int) st.fTxg level text).fSum), .int .i64 ((ptrOf (i : Int) st.fTxg level text).fLevel)]) rfl (HF.ev rfl) ((HS.box 0 rfl).sub 0 5) (by kernel_rfl))) HS.out ?_; clear HF; clear a; intro a HF
            refine wh_one 2 (by kernel_rfl) ?_
            refine wo_storeBox rfl rfl rfl rfl (HF.ev rfl) (HF.ev rfl) HS2.out 2 rfl (cells_lit [.slice (some ⟨g0, 0, none⟩) st.fRows.length c0, .slice (some ⟨g1, 0, none⟩) st.fSpace.fRefs.length c1, .slice (some ⟨g2, 0, none⟩) st.fSpace.fLast.length c2, .int .i64 st.fTxg, .slice a4 st.fGone.length c4, .int .i64 st.fKeep, .slice a6 st.fDead.length c6, .bool st.fSame] rfl rfl) (by kernel_rfl) ?_
            clear HS HS2; intro w31 HS2; replace HS2 : Bx (St w0 (boxA b6 5 33 (.agg #[.int .i64 ((ptrOf (i : Int) st.fTxg level text).fAt), .int .i64 ((ptrOf (i : Int) st.fTxg level text).fBirth), .int .i64 ((ptrOf (i : Int) st.fTxg level text).fSize), .int .i64 ((ptrOf (i : Int) st.fTxg level text).fSum), .int .i64 ((ptrOf (i : Int) st.fTxg level text).fLevel)]) :: boxA b3 5 33 (.agg #[.int .i64 0, .int .i64 0, .int .i64 0, .int .i64 0, .int .i64 0]) :: boxA b2 8 65 (.agg #[.slice (some ⟨g0, 0, none⟩) st.fRows.length c0, .slice (some ⟨g1, 0, none⟩) st.fSpace.fRefs.length c1, .slice (some ⟨g2, 0, none⟩) st.fSpace.fLast.length c2, .int .i64 st.fTxg, .slice a4 st.fGone.length c4, .int .i64 st.fKeep, .slice a6 st.fDead.length c6, .bool st.fSame]) :: boxA b1 8 65 (.agg #[.slice (some ⟨g0, 0, none⟩) st.fRows.length c0, .slice (some ⟨g1, 0, none⟩) st.fSpace.fRefs.length c1, .slice (some ⟨g2, 0, none⟩) st.fSpace.fLast.length c2, .int .i64 st.fTxg, .slice a4 st.fGone.length c4, .int .i64 st.fKeep, .slice a6 st.fDead.length c6, .bool st.fSame]) :: rowA encS 1 9 (.slice (some ⟨g0, 0, none⟩) st.fRows.length c0) (st.fRows.set i text) :: rowA encI 1 3 (.slice (some ⟨g1, 0, none⟩) st.fSpace.fRefs.length c1) (st.fSpace.fRefs.set i ((st.fSpace.fRefs.getD i 0) + 1)) :: rowA encI 1 3 (.slice (some ⟨g2, 0, none⟩) st.fSpace.fLast.length c2) (st.fSpace.fLast.set i st.fTxg) :: rowA PtrD.cells 5 33 (.slice a4 st.fGone.length c4) st.fGone :: rowA PtrD.cells 5 33 (.slice a6 st.fDead.length c6) st.fDead :: F) _) := ⟨HS2⟩
            have HS : Bx (St w0 (boxA b6 5 33 (.agg #[.int .i64 ((ptrOf (i : Int) st.fTxg level text).fAt), .int .i64 ((ptrOf (i : Int) st.fTxg level text).fBirth), .int .i64 ((ptrOf (i : Int) st.fTxg level text).fSize), .int .i64 ((ptrOf (i : Int) st.fTxg level text).fSum), .int .i64 ((ptrOf (i : Int) st.fTxg level text).fLevel)]) :: boxA b1 8 65 (.agg #[.slice (some ⟨g0, 0, none⟩) st.fRows.length c0, .slice (some ⟨g1, 0, none⟩) st.fSpace.fRefs.length c1, .slice (some ⟨g2, 0, none⟩) st.fSpace.fLast.length c2, .int .i64 st.fTxg, .slice a4 st.fGone.length c4, .int .i64 st.fKeep, .slice a6 st.fDead.length c6, .bool st.fSame]) :: rowA encS 1 9 (.slice (some ⟨g0, 0, none⟩) st.fRows.length c0) (st.fRows.set i text) :: rowA encI 1 3 (.slice (some ⟨g1, 0, none⟩) st.fSpace.fRefs.length c1) (st.fSpace.fRefs.set i ((st.fSpace.fRefs.getD i 0) + 1)) :: rowA encI 1 3 (.slice (some ⟨g2, 0, none⟩) st.fSpace.fLast.length c2) (st.fSpace.fLast.set i st.fTxg) :: rowA PtrD.cells 5 33 (.slice a4 st.fGone.length c4) st.fGone :: rowA PtrD.cells 5 33 (.slice a6 st.fDead.length c6) st.fDead :: F) _) := ⟨((HS2.out.erase 2).erase 1)⟩; refine ⟨HS.out, ?_⟩
            refine wh_one 3 (by kernel_rfl) ?_
            refine wo_storeBox rfl rfl rfl rfl (HF.ev rfl) (HF.ev rfl) HS2.out 1 rfl (cells_lit [.int .i64 ((ptrOf (i : Int) st.fTxg level text).fAt), .int .i64 ((ptrOf (i : Int) st.fTxg level text).fBirth), .int .i64 ((ptrOf (i : Int) st.fTxg level text).fSize), .int .i64 ((ptrOf (i : Int) st.fTxg level text).fSum), .int .i64 ((ptrOf (i : Int) st.fTxg level text).fLevel)] rfl rfl) (by kernel_rfl) ?_
            clear HS HS2; intro w32 HS2; replace HS2 : Bx (St w0 (boxA b6 5 33 (.agg #[.int .i64 ((ptrOf (i : Int) st.fTxg level text).fAt), .int .i64 ((ptrOf (i : Int) st.fTxg level text).fBirth), .int .i64 ((ptrOf (i : Int) st.fTxg level text).fSize), .int .i64 ((ptrOf (i : Int) st.fTxg level text).fSum), .int .i64 ((ptrOf (i : Int) st.fTxg level text).fLevel)]) :: boxA b3 5 33 (.agg #[.int .i64 ((ptrOf (i : Int) st.fTxg level text).fAt), .int .i64 ((ptrOf (i : Int) st.fTxg level text).fBirth), .int .i64 ((ptrOf (i : Int) st.fTxg level text).fSize), .int .i64 ((ptrOf (i : Int) st.fTxg level text).fSum), .int .i64 ((ptrOf (i : Int) st.fTxg level text).fLevel)]) :: boxA b2 8 65 (.agg #[.slice (some ⟨g0, 0, none⟩) st.fRows.length c0, .slice (some ⟨g1, 0, none⟩) st.fSpace.fRefs.length c1, .slice (some ⟨g2, 0, none⟩) st.fSpace.fLast.length c2, .int .i64 st.fTxg, .slice a4 st.fGone.length c4, .int .i64 st.fKeep, .slice a6 st.fDead.length c6, .bool st.fSame]) :: boxA b1 8 65 (.agg #[.slice (some ⟨g0, 0, none⟩) st.fRows.length c0, .slice (some ⟨g1, 0, none⟩) st.fSpace.fRefs.length c1, .slice (some ⟨g2, 0, none⟩) st.fSpace.fLast.length c2, .int .i64 st.fTxg, .slice a4 st.fGone.length c4, .int .i64 st.fKeep, .slice a6 st.fDead.length c6, .bool st.fSame]) :: rowA encS 1 9 (.slice (some ⟨g0, 0, none⟩) st.fRows.length c0) (st.fRows.set i text) :: rowA encI 1 3 (.slice (some ⟨g1, 0, none⟩) st.fSpace.fRefs.length c1) (st.fSpace.fRefs.set i ((st.fSpace.fRefs.getD i 0) + 1)) :: rowA encI 1 3 (.slice (some ⟨g2, 0, none⟩) st.fSpace.fLast.length c2) (st.fSpace.fLast.set i st.fTxg) :: rowA PtrD.cells 5 33 (.slice a4 st.fGone.length c4) st.fGone :: rowA PtrD.cells 5 33 (.slice a6 st.fDead.length c6) st.fDead :: F) _) := ⟨HS2⟩
            have HS : Bx (St w0 (boxA b6 5 33 (.agg #[.int .i64 ((ptrOf (i : Int) st.fTxg level text).fAt), .int .i64 ((ptrOf (i : Int) st.fTxg level text).fBirth), .int .i64 ((ptrOf (i : Int) st.fTxg level text).fSize), .int .i64 ((ptrOf (i : Int) st.fTxg level text).fSum), .int .i64 ((ptrOf (i : Int) st.fTxg level text).fLevel)]) :: boxA b1 8 65 (.agg #[.slice (some ⟨g0, 0, none⟩) st.fRows.length c0, .slice (some ⟨g1, 0, none⟩) st.fSpace.fRefs.length c1, .slice (some ⟨g2, 0, none⟩) st.fSpace.fLast.length c2, .int .i64 st.fTxg, .slice a4 st.fGone.length c4, .int .i64 st.fKeep, .slice a6 st.fDead.length c6, .bool st.fSame]) :: rowA encS 1 9 (.slice (some ⟨g0, 0, none⟩) st.fRows.length c0) (st.fRows.set i text) :: rowA encI 1 3 (.slice (some ⟨g1, 0, none⟩) st.fSpace.fRefs.length c1) (st.fSpace.fRefs.set i ((st.fSpace.fRefs.getD i 0) + 1)) :: rowA encI 1 3 (.slice (some ⟨g2, 0, none⟩) st.fSpace.fLast.length c2) (st.fSpace.fLast.set i st.fTxg) :: rowA PtrD.cells 5 33 (.slice a4 st.fGone.length c4) st.fGone :: rowA PtrD.cells 5 33 (.slice a6 st.fDead.length c6) st.fDead :: F) _) := ⟨((HS2.out.erase 2).erase 1)⟩; refine ⟨HS.out, ?_⟩
            refine wh_y 4 rfl (by kernel_rfl) (by kernel_rfl) (by kernel_rfl) (fun _ _ _ h => h) rfl HF rfl rfl (fun _ HS => (yl_assign rfl (HF.ev rfl))) HS.out ?_; clear HF; clear a; intro a HF
            refine wh_done (by kernel_rfl) ?_
            replace HS := HS2; clear HS2
            refine ex_then ?_
            refine wp_ret ?_
            refine bp_ret3 HF Try.results83 (HF.resBox rfl (HS.out.box 2 rfl) (by kernel_rfl)) (HF.resBox rfl (HS.out.box 1 rfl) (by kernel_rfl)) (HF.res rfl) ?_
            exact .inr ⟨i, hi64, hws, .inr ⟨hpk, rfl, HS.out.tail.tail.tail.tail⟩⟩
    · clear HF; have HF := HF1; clear HF1
      have hls : likeS st text level = -1 := by unfold likeS; rw [cc1, cc2]; rfl
      refine wc_false HF rfl ?_
      refine wp_skip ?_
      refine ex_then ?_
      refine wp_seq ?_
      refine wp_seq ?_
      refine wp_region_lit ?_
      refine wl_y rfl HF rfl rfl (yl_move rfl (HF.ev rfl)) ?_; clear HF; clear a; intro a HF
      refine wl_y rfl HF rfl rfl (yl_lssI rfl (HF.ev rfl) (HF.ev rfl)) ?_; clear HF; clear a; intro a HF
      refine wpList_nil ?_
      refine ex_then ?_
      replace HF := HF.know (k := 22) (c := true) rfl (by decide)
      refine wc_true HF rfl ?_
      have hws : writeS st text level = freeR st.fSpace := by unfold writeS; rw [if_pos (by rw [hls]; first | omega | (exact of_decide_eq_true (by assumption)))]
      refine wp_region_lit ?_
      refine wl_y rfl HF rfl rfl (yl_fieldAddr (j := 1) rfl (HF.ev rfl) (by kernel_rfl)) ?_; clear HF; clear a; intro a HF
      refine wl_y rfl HF rfl rfl (yl_loadR (cs := [.slice (some ⟨g1, 0, none⟩) st.fSpace.fRefs.length c1, .slice (some ⟨g2, 0, none⟩) st.fSpace.fLast.length c2]) rfl (HF.ev rfl) ((HS.out.box 2 rfl).sub 1 2) (by kernel_rfl)) ?_; clear HF; clear a; intro a HF
      refine wl_empty (e := 3) (size := 1) rfl HF rfl rfl rfl (by kernel_rfl) HS.out ?_; clear HF HS; clear a; intro a w33 b7 HF HS; replace HS := Bx.mk HS
      refine wl_callB rfl HF rfl (enter_of Try.func138 (by kernel_rfl) rfl) (args := #[.agg #[.slice (some ⟨g1, 0, none⟩) st.fSpace.fRefs.length c1, .slice (some ⟨g2, 0, none⟩) st.fSpace.fLast.length c2], .int .i64 8, .slice (some ⟨b7, 0, none⟩) 0 0]) rfl (v := .int .i64 (freeR st.fSpace)) (l5Find_any _ _ _ _ _ _ _ st.fSpace _ (St.rdOf HS.out encI_len 4 rfl) (by omega)) rfl rfl HS.out ?_; clear HF HS; clear a; intro w34 a HS HF; replace HS := Bx.mk HS
      refine wl_y rfl HF rfl rfl (yl_assign rfl (HF.ev rfl)) ?_; clear HF; clear a; intro a HF
      refine wpList_nil ?_
      refine ex_then ?_
      refine wp_seq ?_
      refine wp_seq ?_
      refine wp_region_lit ?_
      refine wl_y rfl HF rfl rfl (yl_move rfl (HF.ev rfl)) ?_; clear HF; clear a; intro a HF
      refine wl_y rfl HF rfl rfl (yl_lssI rfl (HF.ev rfl) (HF.ev rfl)) ?_; clear HF; clear a; intro a HF
      refine wpList_nil ?_
      refine ex_then ?_
      refine HF.cases 28 rfl (fun cc8 HF1 => ?_) (fun cc8 HF1 => ?_)
      · clear HF; have HF := HF1; clear HF1
        have hneg := of_decide_eq_true cc8
        refine wc_true HF rfl ?_
        refine wp_seq ?_
        refine wp_region_lit ?_
        refine wl_y rfl HF rfl rfl (yl_loadR (cs := [.slice (some ⟨g0, 0, none⟩) st.fRows.length c0, .slice (some ⟨g1, 0, none⟩) st.fSpace.fRefs.length c1, .slice (some ⟨g2, 0, none⟩) st.fSpace.fLast.length c2, .int .i64 st.fTxg, .slice a4 st.fGone.length c4, .int .i64 st.fKeep, .slice a6 st.fDead.length c6, .bool st.fSame]) rfl (HF.ev rfl) ((HS.out.box 2 rfl).sub 0 8) (by kernel_rfl)) ?_; clear HF; clear a; intro a HF
        refine wl_y rfl HF rfl rfl (yl_build HF rfl (ps := []) rfl (cs := #[.int .i64 0, .int .i64 0, .int .i64 0, .int .i64 0, .int .i64 0]) (by kernel_rfl)) ?_; clear HF; clear a; intro a HF
        refine wl_storeBox rfl HF rfl rfl (HF.ev rfl) (HF.ev rfl) HS.out 1 rfl (cells_lit [.slice (some ⟨g0, 0, none⟩) st.fRows.length c0, .slice (some ⟨g1, 0, none⟩) st.fSpace.fRefs.length c1, .slice (some ⟨g2, 0, none⟩) st.fSpace.fLast.length c2, .int .i64 st.fTxg, .slice a4 st.fGone.length c4, .int .i64 st.fKeep, .slice a6 st.fDead.length c6, .bool st.fSame] rfl rfl) (by kernel_rfl) ?_; clear HS; intro w35 HS; replace HS := Bx.mk HS
        have HS : Bx (St w0 (boxA b3 5 33 (.agg #[.int .i64 0, .int .i64 0, .int .i64 0, .int .i64 0, .int .i64 0]) :: boxA b2 8 65 (.agg #[.slice (some ⟨g0, 0, none⟩) st.fRows.length c0, .slice (some ⟨g1, 0, none⟩) st.fSpace.fRefs.length c1, .slice (some ⟨g2, 0, none⟩) st.fSpace.fLast.length c2, .int .i64 st.fTxg, .slice a4 st.fGone.length c4, .int .i64 st.fKeep, .slice a6 st.fDead.length c6, .bool st.fSame]) :: boxA b1 8 65 (.agg #[.slice (some ⟨g0, 0, none⟩) st.fRows.length c0, .slice (some ⟨g1, 0, none⟩) st.fSpace.fRefs.length c1, .slice (some ⟨g2, 0, none⟩) st.fSpace.fLast.length c2, .int .i64 st.fTxg, .slice a4 st.fGone.length c4, .int .i64 st.fKeep, .slice a6 st.fDead.length c6, .bool st.fSame]) :: rowA encS 1 9 (.slice (some ⟨g0, 0, none⟩) st.fRows.length c0) st.fRows :: rowA encI 1 3 (.slice (some ⟨g1, 0, none⟩) st.fSpace.fRefs.length c1) st.fSpace.fRefs :: rowA encI 1 3 (.slice (some ⟨g2, 0, none⟩) st.fSpace.fLast.length c2) st.fSpace.fLast :: rowA PtrD.cells 5 33 (.slice a4 st.fGone.length c4) st.fGone :: rowA PtrD.cells 5 33 (.slice a6 st.fDead.length c6) st.fDead :: F) _) := HS
        refine wl_storeBox rfl HF rfl rfl (HF.ev rfl) (HF.ev rfl) HS.out 0 rfl (cells_lit [.int .i64 0, .int .i64 0, .int .i64 0, .int .i64 0, .int .i64 0] rfl rfl) (by kernel_rfl) ?_; clear HS; intro w36 HS; replace HS := Bx.mk HS
        have HS : Bx (St w0 (boxA b3 5 33 (.agg #[.int .i64 0, .int .i64 0, .int .i64 0, .int .i64 0, .int .i64 0]) :: boxA b2 8 65 (.agg #[.slice (some ⟨g0, 0, none⟩) st.fRows.length c0, .slice (some ⟨g1, 0, none⟩) st.fSpace.fRefs.length c1, .slice (some ⟨g2, 0, none⟩) st.fSpace.fLast.length c2, .int .i64 st.fTxg, .slice a4 st.fGone.length c4, .int .i64 st.fKeep, .slice a6 st.fDead.length c6, .bool st.fSame]) :: boxA b1 8 65 (.agg #[.slice (some ⟨g0, 0, none⟩) st.fRows.length c0, .slice (some ⟨g1, 0, none⟩) st.fSpace.fRefs.length c1, .slice (some ⟨g2, 0, none⟩) st.fSpace.fLast.length c2, .int .i64 st.fTxg, .slice a4 st.fGone.length c4, .int .i64 st.fKeep, .slice a6 st.fDead.length c6, .bool st.fSame]) :: rowA encS 1 9 (.slice (some ⟨g0, 0, none⟩) st.fRows.length c0) st.fRows :: rowA encI 1 3 (.slice (some ⟨g1, 0, none⟩) st.fSpace.fRefs.length c1) st.fSpace.fRefs :: rowA encI 1 3 (.slice (some ⟨g2, 0, none⟩) st.fSpace.fLast.length c2) st.fSpace.fLast :: rowA PtrD.cells 5 33 (.slice a4 st.fGone.length c4) st.fGone :: rowA PtrD.cells 5 33 (.slice a6 st.fDead.length c6) st.fDead :: F) _) := HS
        refine wl_y rfl HF rfl rfl (yl_assign rfl (HF.ev rfl)) ?_; clear HF; clear a; intro a HF
        refine wpList_nil ?_
        refine ex_then ?_
        refine wp_ret ?_
        refine ex_then_ret ?_
        refine bp_ret3 HF Try.results83 (HF.resBox rfl (HS.out.box 1 rfl) (by kernel_rfl)) (HF.resBox rfl (HS.out.box 0 rfl) (by kernel_rfl)) (HF.res rfl) ?_
        exact .inl ⟨by rw [hws]; exact hneg, rfl, HS.out.tail.tail.tail⟩
      · clear HF; have HF := HF1; clear HF1
        obtain ⟨i, hi, hi64⟩ : ∃ i : Nat, freeR st.fSpace = i ∧ i < 64 := (atOr_cases _).resolve_left (of_decide_eq_false cc8)
        replace HF : Fr 70 a [(1, .string text), (2, .int .i64 level), (3, .pointer (some ⟨b1, 0, none⟩)), (6, .pointer (some ⟨b2, 0, none⟩)), (7, .pointer (some ⟨b3, 0, none⟩)), (8, .bool false), (9, .int .i64 (i : Int)), (22, .bool true), (28, .bool false)] := by
          rw [← hi]; exact HF.less _ ⟨rfl, rfl, rfl, rfl, rfl, rfl, rfl, rfl, rfl, trivial⟩
        rw [hi] at hws
        refine wc_false HF rfl ?_
        refine wp_skip ?_
        refine ex_then ?_
        refine wp_seq ?_
        refine wp_region_lit ?_
        refine wl_y rfl HF rfl rfl (yl_move rfl (HF.ev rfl)) ?_; clear HF; clear a; intro a HF
        refine wl_y rfl HF rfl rfl (yl_fieldAddr (j := 3) rfl (HF.ev rfl) (by kernel_rfl)) ?_; clear HF; clear a; intro a HF
        refine wl_y rfl HF rfl rfl (yl_load (v := .int .i64 st.fTxg) rfl (HF.ev rfl) (((HS.out.box 2 rfl).cell 3).trans rfl) (by kernel_rfl)) ?_; clear HF; clear a; intro a HF
        refine wl_y rfl HF rfl rfl (yl_move rfl (HF.ev rfl)) ?_; clear HF; clear a; intro a HF
        refine wl_y rfl HF rfl rfl (yl_move rfl (HF.ev rfl)) ?_; clear HF; clear a; intro a HF
        refine wl_callB rfl HF rfl (enter_of Try.func112 (by kernel_rfl) rfl) (args := #[.int .i64 (i : Int), .int .i64 st.fTxg, .int .i64 level, .string text]) rfl (v := .tuple #[.agg #[.int .i64 ((ptrOf (i : Int) st.fTxg level text).fAt), .int .i64 ((ptrOf (i : Int) st.fTxg level text).fBirth), .int .i64 ((ptrOf (i : Int) st.fTxg level text).fSize), .int .i64 ((ptrOf (i : Int) st.fTxg level text).fSum), .int .i64 ((ptrOf (i : Int) st.fTxg level text).fLevel)], .bool (ptrOk (i : Int) st.fTxg level text)]) (ptrOfS_any (i : Int) st.fTxg level text _ (by omega)) rfl rfl HS.out ?_; clear HF HS; clear a; intro w37 a HS HF; replace HS := Bx.mk HS
        refine wl_y rfl HF rfl rfl (yl_move rfl (HF.ev rfl)) ?_; clear HF; clear a; intro a HF
        refine wl_y rfl HF rfl rfl (yl_extract rfl (HF.ev rfl) rfl) ?_; clear HF; clear a; intro a HF
        refine wl_y rfl HF rfl rfl (yl_extract rfl (HF.ev rfl) rfl) ?_; clear HF; clear a; intro a HF
        refine wl_alloc rfl HF rfl rfl rfl (Z := [.int .i64 0, .int .i64 0, .int .i64 0, .int .i64 0, .int .i64 0]) (by kernel_rfl) rfl HS.out ?_; clear HF HS; clear a; intro a w38 b8 HF HS; replace HS := Bx.mk HS
        refine wl_storeBox rfl HF rfl rfl (HF.ev rfl) (HF.ev rfl) HS.out 0 rfl (cells_lit [.int .i64 ((ptrOf (i : Int) st.fTxg level text).fAt), .int .i64 ((ptrOf (i : Int) st.fTxg level text).fBirth), .int .i64 ((ptrOf (i : Int) st.fTxg level text).fSize), .int .i64 ((ptrOf (i : Int) st.fTxg level text).fSum), .int .i64 ((ptrOf (i : Int) st.fTxg level text).fLevel)] rfl rfl) (by kernel_rfl) ?_; clear HS; intro w39 HS; replace HS := Bx.mk HS
        have HS : Bx (St w0 (boxA b8 5 33 (.agg #[.int .i64 ((ptrOf (i : Int) st.fTxg level text).fAt), .int .i64 ((ptrOf (i : Int) st.fTxg level text).fBirth), .int .i64 ((ptrOf (i : Int) st.fTxg level text).fSize), .int .i64 ((ptrOf (i : Int) st.fTxg level text).fSum), .int .i64 ((ptrOf (i : Int) st.fTxg level text).fLevel)]) :: boxA b3 5 33 (.agg #[.int .i64 0, .int .i64 0, .int .i64 0, .int .i64 0, .int .i64 0]) :: boxA b2 8 65 (.agg #[.slice none 0 0, .slice none 0 0, .slice none 0 0, .int .i64 0, .slice none 0 0, .int .i64 0, .slice none 0 0, .bool false]) :: boxA b1 8 65 (.agg #[.slice (some ⟨g0, 0, none⟩) st.fRows.length c0, .slice (some ⟨g1, 0, none⟩) st.fSpace.fRefs.length c1, .slice (some ⟨g2, 0, none⟩) st.fSpace.fLast.length c2, .int .i64 st.fTxg, .slice a4 st.fGone.length c4, .int .i64 st.fKeep, .slice a6 st.fDead.length c6, .bool st.fSame]) :: rowA encS 1 9 (.slice (some ⟨g0, 0, none⟩) st.fRows.length c0) st.fRows :: rowA encI 1 3 (.slice (some ⟨g1, 0, none⟩) st.fSpace.fRefs.length c1) st.fSpace.fRefs :: rowA encI 1 3 (.slice (some ⟨g2, 0, none⟩) st.fSpace.fLast.length c2) st.fSpace.fLast :: rowA PtrD.cells 5 33 (.slice a4 st.fGone.length c4) st.fGone :: rowA PtrD.cells 5 33 (.slice a6 st.fDead.length c6) st.fDead :: F) _) := HS
        refine wl_y rfl HF rfl rfl (yl_assign rfl (HF.ev rfl)) ?_; clear HF; clear a; intro a HF
        refine wpList_nil ?_
        refine ex_then ?_
        refine wp_seq ?_
        refine wp_seq ?_
        refine wp_region_lit ?_
        refine wl_y rfl HF rfl rfl (yl_move rfl (HF.ev rfl)) ?_; clear HF; clear a; intro a HF
        refine wl_y rfl HF rfl rfl (yl_not rfl (HF.ev rfl)) ?_; clear HF; clear a; intro a HF
        refine wpList_nil ?_
        refine ex_then ?_
        refine HF.cases 41 rfl (fun cc9 HF1 => ?_) (fun cc9 HF1 => ?_)
        · clear HF; have HF := HF1; clear HF1
          have hpk : ptrOk (i : Int) st.fTxg level text = false := by simpa using cc9
          refine wc_true HF rfl ?_
          refine wp_seq ?_
          refine wp_region_lit ?_
          refine wl_y rfl HF rfl rfl (yl_loadR (cs := [.slice (some ⟨g0, 0, none⟩) st.fRows.length c0, .slice (some ⟨g1, 0, none⟩) st.fSpace.fRefs.length c1, .slice (some ⟨g2, 0, none⟩) st.fSpace.fLast.length c2, .int .i64 st.fTxg, .slice a4 st.fGone.length c4, .int .i64 st.fKeep, .slice a6 st.fDead.length c6, .bool st.fSame]) rfl (HF.ev rfl) ((HS.out.box 3 rfl).sub 0 8) (by kernel_rfl)) ?_; clear HF; clear a; intro a HF
          refine wl_y rfl HF rfl rfl (yl_build HF rfl (ps := []) rfl (cs := #[.int .i64 0, .int .i64 0, .int .i64 0, .int .i64 0, .int .i64 0]) (by kernel_rfl)) ?_; clear HF; clear a; intro a HF
          refine wl_storeBox rfl HF rfl rfl (HF.ev rfl) (HF.ev rfl) HS.out 2 rfl (cells_lit [.slice (some ⟨g0, 0, none⟩) st.fRows.length c0, .slice (some ⟨g1, 0, none⟩) st.fSpace.fRefs.length c1, .slice (some ⟨g2, 0, none⟩) st.fSpace.fLast.length c2, .int .i64 st.fTxg, .slice a4 st.fGone.length c4, .int .i64 st.fKeep, .slice a6 st.fDead.length c6, .bool st.fSame] rfl rfl) (by kernel_rfl) ?_; clear HS; intro w40 HS; replace HS := Bx.mk HS
          have HS : Bx (St w0 (boxA b8 5 33 (.agg #[.int .i64 ((ptrOf (i : Int) st.fTxg level text).fAt), .int .i64 ((ptrOf (i : Int) st.fTxg level text).fBirth), .int .i64 ((ptrOf (i : Int) st.fTxg level text).fSize), .int .i64 ((ptrOf (i : Int) st.fTxg level text).fSum), .int .i64 ((ptrOf (i : Int) st.fTxg level text).fLevel)]) :: boxA b3 5 33 (.agg #[.int .i64 0, .int .i64 0, .int .i64 0, .int .i64 0, .int .i64 0]) :: boxA b2 8 65 (.agg #[.slice (some ⟨g0, 0, none⟩) st.fRows.length c0, .slice (some ⟨g1, 0, none⟩) st.fSpace.fRefs.length c1, .slice (some ⟨g2, 0, none⟩) st.fSpace.fLast.length c2, .int .i64 st.fTxg, .slice a4 st.fGone.length c4, .int .i64 st.fKeep, .slice a6 st.fDead.length c6, .bool st.fSame]) :: boxA b1 8 65 (.agg #[.slice (some ⟨g0, 0, none⟩) st.fRows.length c0, .slice (some ⟨g1, 0, none⟩) st.fSpace.fRefs.length c1, .slice (some ⟨g2, 0, none⟩) st.fSpace.fLast.length c2, .int .i64 st.fTxg, .slice a4 st.fGone.length c4, .int .i64 st.fKeep, .slice a6 st.fDead.length c6, .bool st.fSame]) :: rowA encS 1 9 (.slice (some ⟨g0, 0, none⟩) st.fRows.length c0) st.fRows :: rowA encI 1 3 (.slice (some ⟨g1, 0, none⟩) st.fSpace.fRefs.length c1) st.fSpace.fRefs :: rowA encI 1 3 (.slice (some ⟨g2, 0, none⟩) st.fSpace.fLast.length c2) st.fSpace.fLast :: rowA PtrD.cells 5 33 (.slice a4 st.fGone.length c4) st.fGone :: rowA PtrD.cells 5 33 (.slice a6 st.fDead.length c6) st.fDead :: F) _) := HS
          refine wl_storeBox rfl HF rfl rfl (HF.ev rfl) (HF.ev rfl) HS.out 1 rfl (cells_lit [.int .i64 0, .int .i64 0, .int .i64 0, .int .i64 0, .int .i64 0] rfl rfl) (by kernel_rfl) ?_; clear HS; intro w41 HS; replace HS := Bx.mk HS
          have HS : Bx (St w0 (boxA b8 5 33 (.agg #[.int .i64 ((ptrOf (i : Int) st.fTxg level text).fAt), .int .i64 ((ptrOf (i : Int) st.fTxg level text).fBirth), .int .i64 ((ptrOf (i : Int) st.fTxg level text).fSize), .int .i64 ((ptrOf (i : Int) st.fTxg level text).fSum), .int .i64 ((ptrOf (i : Int) st.fTxg level text).fLevel)]) :: boxA b3 5 33 (.agg #[.int .i64 0, .int .i64 0, .int .i64 0, .int .i64 0, .int .i64 0]) :: boxA b2 8 65 (.agg #[.slice (some ⟨g0, 0, none⟩) st.fRows.length c0, .slice (some ⟨g1, 0, none⟩) st.fSpace.fRefs.length c1, .slice (some ⟨g2, 0, none⟩) st.fSpace.fLast.length c2, .int .i64 st.fTxg, .slice a4 st.fGone.length c4, .int .i64 st.fKeep, .slice a6 st.fDead.length c6, .bool st.fSame]) :: boxA b1 8 65 (.agg #[.slice (some ⟨g0, 0, none⟩) st.fRows.length c0, .slice (some ⟨g1, 0, none⟩) st.fSpace.fRefs.length c1, .slice (some ⟨g2, 0, none⟩) st.fSpace.fLast.length c2, .int .i64 st.fTxg, .slice a4 st.fGone.length c4, .int .i64 st.fKeep, .slice a6 st.fDead.length c6, .bool st.fSame]) :: rowA encS 1 9 (.slice (some ⟨g0, 0, none⟩) st.fRows.length c0) st.fRows :: rowA encI 1 3 (.slice (some ⟨g1, 0, none⟩) st.fSpace.fRefs.length c1) st.fSpace.fRefs :: rowA encI 1 3 (.slice (some ⟨g2, 0, none⟩) st.fSpace.fLast.length c2) st.fSpace.fLast :: rowA PtrD.cells 5 33 (.slice a4 st.fGone.length c4) st.fGone :: rowA PtrD.cells 5 33 (.slice a6 st.fDead.length c6) st.fDead :: F) _) := HS
          refine wl_y rfl HF rfl rfl (yl_assign rfl (HF.ev rfl)) ?_; clear HF; clear a; intro a HF
          refine wpList_nil ?_
          refine ex_then ?_
          refine wp_ret ?_
          refine ex_then_ret ?_
          refine bp_ret3 HF Try.results83 (HF.resBox rfl (HS.out.box 2 rfl) (by kernel_rfl)) (HF.resBox rfl (HS.out.box 1 rfl) (by kernel_rfl)) (HF.res rfl) ?_
          exact .inr ⟨i, hi64, hws, .inl ⟨hpk, rfl, HS.out.tail.tail.tail.tail⟩⟩
        · clear HF; have HF := HF1; clear HF1
          have hpk : ptrOk (i : Int) st.fTxg level text = true := by simpa using cc9
          refine wc_false HF rfl ?_
          refine wp_skip ?_
          refine ex_then ?_
          refine wp_seq ?_
          refine wp_region_lit ?_
          refine wl_y rfl HF rfl rfl (yl_fieldAddr (j := 0) rfl (HF.ev rfl) (by kernel_rfl)) ?_; clear HF; clear a; intro a HF
          refine wl_y rfl HF rfl rfl (yl_load (v := .slice (some ⟨g0, 0, none⟩) st.fRows.length c0) rfl (HF.ev rfl) (((HS.out.box 3 rfl).cell 0).trans rfl) (by kernel_rfl)) ?_; clear HF; clear a; intro a HF
          refine wl_y rfl HF rfl rfl (yl_move rfl (HF.ev rfl)) ?_; clear HF; clear a; intro a HF
          refine wl_y rfl HF rfl rfl (yl_move rfl (HF.ev rfl)) ?_; clear HF; clear a; intro a HF
          refine wl_y rfl HF rfl rfl (yl_indexAddr (e := 9) (i := i) (size := 1) rfl (HF.ev rfl) (HF.ev rfl) (by kernel_rfl) rfl (by omega)) ?_; clear HF; clear a; intro a HF
          refine wl_storeE encS_len rfl rfl rfl (HF.ev rfl) (HF.ev rfl) (by kernel_rfl) HS.out 4 rfl (by omega) (z := text) rfl rfl ?_; clear HS; intro w42 HS; replace HS := Bx.mk HS
          refine wpList_nil ?_
          refine ex_then ?_
          refine wp_seq ?_
          have hrb := hr i
          refine wr_tail 12 (by kernel_rfl) (by kernel_rfl) HS.out ?_
          simp only [List.take_succ_cons, List.take_zero, List.drop_succ_cons, List.drop_zero]
          intro w43 HS
          replace HS := Bx.mk HS
          refine ws_y rfl HF rfl rfl (yl_fieldAddr (j := 1) rfl (HF.ev rfl) (by kernel_rfl)) ?_; clear HF; clear a; intro a HF
          refine ws_y rfl HF rfl rfl (yl_fieldAddr (j := 0) rfl (HF.ev rfl) (by kernel_rfl)) ?_; clear HF; clear a; intro a HF
          refine ws_y rfl HF rfl rfl (yl_load (v := .slice (some ⟨g1, 0, none⟩) st.fSpace.fRefs.length c1) rfl (HF.ev rfl) (((HS.out.box 3 rfl).cell 1).trans rfl) (by kernel_rfl)) ?_; clear HF; clear a; intro a HF
          refine ws_y rfl HF rfl rfl (yl_move rfl (HF.ev rfl)) ?_; clear HF; clear a; intro a HF
          refine ws_y rfl HF rfl rfl (yl_fieldAddr (j := 1) rfl (HF.ev rfl) (by kernel_rfl)) ?_; clear HF; clear a; intro a HF
          refine ws_y rfl HF rfl rfl (yl_fieldAddr (j := 0) rfl (HF.ev rfl) (by kernel_rfl)) ?_; clear HF; clear a; intro a HF
          refine ws_y rfl HF rfl rfl (yl_load (v := .slice (some ⟨g1, 0, none⟩) st.fSpace.fRefs.length c1) rfl (HF.ev rfl) (((HS.out.box 3 rfl).cell 1).trans rfl) (by kernel_rfl)) ?_; clear HF; clear a; intro a HF
          refine ws_y rfl HF rfl rfl (yl_move rfl (HF.ev rfl)) ?_; clear HF; clear a; intro a HF
          refine ws_y rfl HF rfl rfl (yl_indexAddr (e := 3) (i := i) (size := 1) rfl (HF.ev rfl) (HF.ev rfl) (by kernel_rfl) rfl (by omega)) ?_; clear HF; clear a; intro a HF
          refine ws_y rfl HF rfl rfl (yl_load (v := .int .i64 (st.fSpace.fRefs.getD i 0)) rfl (HF.ev rfl) (HS.out.elem1 encI_len 5 rfl (get_getD (xs := st.fSpace.fRefs) (j := i) (d := 0) (by omega)) rfl) (by kernel_rfl)) ?_; clear HF; clear a; intro a HF
          refine ws_y rfl HF rfl rfl (yl_addI rfl (HF.ev rfl) (HF.ev rfl) (i64w (by omega))) ?_; clear HF; clear a; intro a HF
          refine ws_y rfl HF rfl rfl (yl_indexAddr (e := 3) (i := i) (size := 1) rfl (HF.ev rfl) (HF.ev rfl) (by kernel_rfl) rfl (by omega)) ?_; clear HF; clear a; intro a HF
          refine wpStill_nil ?_
          refine wl_storeE encI_len rfl rfl rfl (HF.ev rfl) (HF.ev rfl) (by kernel_rfl) HS.out 5 rfl (by omega) (z := ((st.fSpace.fRefs.getD i 0) + 1)) rfl rfl ?_; clear HS; intro w44 HS; replace HS := Bx.mk HS
          refine wpList_nil ?_
          refine ex_then ?_
          refine wp_seq ?_
          refine wp_region_lit ?_
          refine wl_y rfl HF rfl rfl (yl_fieldAddr (j := 1) rfl (HF.ev rfl) (by kernel_rfl)) ?_; clear HF; clear a; intro a HF
          refine wl_y rfl HF rfl rfl (yl_fieldAddr (j := 1) rfl (HF.ev rfl) (by kernel_rfl)) ?_; clear HF; clear a; intro a HF
          refine wl_y rfl HF rfl rfl (yl_load (v := .slice (some ⟨g2, 0, none⟩) st.fSpace.fLast.length c2) rfl (HF.ev rfl) (((HS.out.box 3 rfl).cell 2).trans rfl) (by kernel_rfl)) ?_; clear HF; clear a; intro a HF
          refine wl_y rfl HF rfl rfl (yl_move rfl (HF.ev rfl)) ?_; clear HF; clear a; intro a HF
          refine wl_y rfl HF rfl rfl (yl_fieldAddr (j := 3) rfl (HF.ev rfl) (by kernel_rfl)) ?_; clear HF; clear a; intro a HF
          refine wl_y rfl HF rfl rfl (yl_load (v := .int .i64 st.fTxg) rfl (HF.ev rfl) (((HS.out.box 3 rfl).cell 3).trans rfl) (by kernel_rfl)) ?_; clear HF; clear a; intro a HF
          refine wl_y rfl HF rfl rfl (yl_indexAddr (e := 3) (i := i) (size := 1) rfl (HF.ev rfl) (HF.ev rfl) (by kernel_rfl) rfl (by omega)) ?_; clear HF; clear a; intro a HF
          refine wl_storeE encI_len rfl rfl rfl (HF.ev rfl) (HF.ev rfl) (by kernel_rfl) HS.out 6 rfl (by omega) (z := st.fTxg) rfl rfl ?_; clear HS; intro w45 HS; replace HS := Bx.mk HS
          refine wpList_nil ?_
          refine ex_then ?_
          refine wp_seq ?_
          refine wr_heldS (s := boxA b8 5 33 (.agg #[.int .i64 ((ptrOf (i : Int) st.fTxg level text).fAt), .int .i64 ((ptrOf (i : Int) st.fTxg level text).fBirth), .int .i64 ((ptrOf (i : Int) st.fTxg level text).fSize), .int .i64 ((ptrOf (i : Int) st.fTxg level text).fSum), .int .i64 ((ptrOf (i : Int) st.fTxg level text).fLevel)]) :: boxA b1 8 65 (.agg #[.slice (some ⟨g0, 0, none⟩) st.fRows.length c0, .slice (some ⟨g1, 0, none⟩) st.fSpace.fRefs.length c1, .slice (some ⟨g2, 0, none⟩) st.fSpace.fLast.length c2, .int .i64 st.fTxg, .slice a4 st.fGone.length c4, .int .i64 st.fKeep, .slice a6 st.fDead.length c6, .bool st.fSame]) :: rowA encS 1 9 (.slice (some ⟨g0, 0, none⟩) st.fRows.length c0) (st.fRows.set i text) :: rowA encI 1 3 (.slice (some ⟨g1, 0, none⟩) st.fSpace.fRefs.length c1) (st.fSpace.fRefs.set i ((st.fSpace.fRefs.getD i 0) + 1)) :: rowA encI 1 3 (.slice (some ⟨g2, 0, none⟩) st.fSpace.fLast.length c2) (st.fSpace.fLast.set i st.fTxg) :: rowA PtrD.cells 5 33 (.slice a4 st.fGone.length c4) st.fGone :: rowA PtrD.cells 5 33 (.slice a6 st.fDead.length c6) st.fDead :: F) (by kernel_rfl) (St.drew (((HS.out.erase 2).erase 1))) ?_
          have HS2 := Bx.mk HS.out.drew; replace HS := Bx.mk (show St w0 (boxA b8 5 33 (.agg #[.int .i64 ((ptrOf (i : Int) st.fTxg level text).fAt), .int .i64 ((ptrOf (i : Int) st.fTxg level text).fBirth), .int .i64 ((ptrOf (i : Int) st.fTxg level text).fSize), .int .i64 ((ptrOf (i : Int) st.fTxg level text).fSum), .int .i64 ((ptrOf (i : Int) st.fTxg level text).fLevel)]) :: boxA b1 8 65 (.agg #[.slice (some ⟨g0, 0, none⟩) st.fRows.length c0, .slice (some ⟨g1, 0, none⟩) st.fSpace.fRefs.length c1, .slice (some ⟨g2, 0, none⟩) st.fSpace.fLast.length c2, .int .i64 st.fTxg, .slice a4 st.fGone.length c4, .int .i64 st.fKeep, .slice a6 st.fDead.length c6, .bool st.fSame]) :: rowA encS 1 9 (.slice (some ⟨g0, 0, none⟩) st.fRows.length c0) (st.fRows.set i text) :: rowA encI 1 3 (.slice (some ⟨g1, 0, none⟩) st.fSpace.fRefs.length c1) (st.fSpace.fRefs.set i ((st.fSpace.fRefs.getD i 0) + 1)) :: rowA encI 1 3 (.slice (some ⟨g2, 0, none⟩) st.fSpace.fLast.length c2) (st.fSpace.fLast.set i st.fTxg) :: rowA PtrD.cells 5 33 (.slice a4 st.fGone.length c4) st.fGone :: rowA PtrD.cells 5 33 (.slice a6 st.fDead.length c6) st.fDead :: F) _ from ((HS.out.drew.erase 2).erase 1))
          generalize World.drew _ = w46 at HS HS2 ⊢
          refine wh_y 0 rfl (by kernel_rfl) (by kernel_rfl) (by kernel_rfl) (fun _ _ _ h => h) rfl HF rfl rfl (fun _ HS => (yl_loadR (cs := [.slice (some ⟨g0, 0, none⟩) st.fRows.length c0, .slice (some ⟨g1, 0, none⟩) st.fSpace.fRefs.length c1, .slice (some ⟨g2, 0, none⟩) st.fSpace.fLast.length c2, .int .i64 st.fTxg, .slice a4 st.fGone.length c4, .int .i64 st.fKeep, .slice a6 st.fDead.length c6, .bool st.fSame]) rfl (HF.ev rfl) ((HS.box 1 rfl).sub 0 8) (by kernel_rfl))) HS.out ?_; clear HF; clear a; intro a HF
          refine wh_y 1 rfl (by kernel_rfl) (by kernel_rfl) (by kernel_rfl) (fun _ _ _ h => h) rfl HF rfl rfl (fun _ HS => (yl_loadR (cs := [.int .i64 ((ptrOf (i : Int) st.fTxg level text).fAt), .int .i64 ((ptrOf (i : Int) st.fTxg level text).fBirth), .int .i64 ((ptrOf (i : Int) st.fTxg level text).fSize), .int .i64 ((ptrOf (i : Int) st.fTxg level text).fSum), .int .i64 ((ptrOf (i : Int) st.fTxg level text).fLevel)]) rfl (HF.ev rfl) ((HS.box 0 rfl).sub 0 5) (by kernel_rfl))) HS.out ?_; clear HF; clear a; intro a HF
          refine wh_one 2 (by kernel_rfl) ?_
          refine wo_storeBox rfl rfl rfl rfl (HF.ev rfl) (HF.ev rfl) HS2.out 2 rfl (cells_lit [.slice (some ⟨g0, 0, none⟩) st.fRows.length c0, .slice (some ⟨g1, 0, none⟩) st.fSpace.fRefs.length c1, .slice (some ⟨g2, 0, none⟩) st.fSpace.fLast.length c2, .int .i64 st.fTxg, .slice a4 st.fGone.length c4, .int .i64 st.fKeep, .slice a6 st.fDead.length c6, .bool st.fSame] rfl rfl) (by kernel_rfl) ?_
          clear HS HS2; intro w47 HS2; replace HS2 : Bx (St w0 (boxA b8 5 33 (.agg #[.int .i64 ((ptrOf (i : Int) st.fTxg level text).fAt), .int .i64 ((ptrOf (i : Int) st.fTxg level text).fBirth), .int .i64 ((ptrOf (i : Int) st.fTxg level text).fSize), .int .i64 ((ptrOf (i : Int) st.fTxg level text).fSum), .int .i64 ((ptrOf (i : Int) st.fTxg level text).fLevel)]) :: boxA b3 5 33 (.agg #[.int .i64 0, .int .i64 0, .int .i64 0, .int .i64 0, .int .i64 0]) :: boxA b2 8 65 (.agg #[.slice (some ⟨g0, 0, none⟩) st.fRows.length c0, .slice (some ⟨g1, 0, none⟩) st.fSpace.fRefs.length c1, .slice (some ⟨g2, 0, none⟩) st.fSpace.fLast.length c2, .int .i64 st.fTxg, .slice a4 st.fGone.length c4, .int .i64 st.fKeep, .slice a6 st.fDead.length c6, .bool st.fSame]) :: boxA b1 8 65 (.agg #[.slice (some ⟨g0, 0, none⟩) st.fRows.length c0, .slice (some ⟨g1, 0, none⟩) st.fSpace.fRefs.length c1, .slice (some ⟨g2, 0, none⟩) st.fSpace.fLast.length c2, .int .i64 st.fTxg, .slice a4 st.fGone.length c4, .int .i64 st.fKeep, .slice a6 st.fDead.length c6, .bool st.fSame]) :: rowA encS 1 9 (.slice (some ⟨g0, 0, none⟩) st.fRows.length c0) (st.fRows.set i text) :: rowA encI 1 3 (.slice (some ⟨g1, 0, none⟩) st.fSpace.fRefs.length c1) (st.fSpace.fRefs.set i ((st.fSpace.fRefs.getD i 0) + 1)) :: rowA encI 1 3 (.slice (some ⟨g2, 0, none⟩) st.fSpace.fLast.length c2) (st.fSpace.fLast.set i st.fTxg) :: rowA PtrD.cells 5 33 (.slice a4 st.fGone.length c4) st.fGone :: rowA PtrD.cells 5 33 (.slice a6 st.fDead.length c6) st.fDead :: F) _) := ⟨HS2⟩
          have HS : Bx (St w0 (boxA b8 5 33 (.agg #[.int .i64 ((ptrOf (i : Int) st.fTxg level text).fAt), .int .i64 ((ptrOf (i : Int) st.fTxg level text).fBirth), .int .i64 ((ptrOf (i : Int) st.fTxg level text).fSize), .int .i64 ((ptrOf (i : Int) st.fTxg level text).fSum), .int .i64 ((ptrOf (i : Int) st.fTxg level text).fLevel)]) :: boxA b1 8 65 (.agg #[.slice (some ⟨g0, 0, none⟩) st.fRows.length c0, .slice (some ⟨g1, 0, none⟩) st.fSpace.fRefs.length c1, .slice (some ⟨g2, 0, none⟩) st.fSpace.fLast.length c2, .int .i64 st.fTxg, .slice a4 st.fGone.length c4, .int .i64 st.fKeep, .slice a6 st.fDead.length c6, .bool st.fSame]) :: rowA encS 1 9 (.slice (some ⟨g0, 0, none⟩) st.fRows.length c0) (st.fRows.set i text) :: rowA encI 1 3 (.slice (some ⟨g1, 0, none⟩) st.fSpace.fRefs.length c1) (st.fSpace.fRefs.set i ((st.fSpace.fRefs.getD i 0) + 1)) :: rowA encI 1 3 (.slice (some ⟨g2, 0, none⟩) st.fSpace.fLast.length c2) (st.fSpace.fLast.set i st.fTxg) :: rowA PtrD.cells 5 33 (.slice a4 st.fGone.length c4) st.fGone :: rowA PtrD.cells 5 33 (.slice a6 st.fDead.length c6) st.fDead :: F) _) := ⟨((HS2.out.erase 2).erase 1)⟩; refine ⟨HS.out, ?_⟩
          refine wh_one 3 (by kernel_rfl) ?_
          refine wo_storeBox rfl rfl rfl rfl (HF.ev rfl) (HF.ev rfl) HS2.out 1 rfl (cells_lit [.int .i64 ((ptrOf (i : Int) st.fTxg level text).fAt), .int .i64 ((ptrOf (i : Int) st.fTxg level text).fBirth), .int .i64 ((ptrOf (i : Int) st.fTxg level text).fSize), .int .i64 ((ptrOf (i : Int) st.fTxg level text).fSum), .int .i64 ((ptrOf (i : Int) st.fTxg level text).fLevel)] rfl rfl) (by kernel_rfl) ?_
          clear HS HS2; intro w48 HS2; replace HS2 : Bx (St w0 (boxA b8 5 33 (.agg #[.int .i64 ((ptrOf (i : Int) st.fTxg level text).fAt), .int .i64 ((ptrOf (i : Int) st.fTxg level text).fBirth), .int .i64 ((ptrOf (i : Int) st.fTxg level text).fSize), .int .i64 ((ptrOf (i : Int) st.fTxg level text).fSum), .int .i64 ((ptrOf (i : Int) st.fTxg level text).fLevel)]) :: boxA b3 5 33 (.agg #[.int .i64 ((ptrOf (i : Int) st.fTxg level text).fAt), .int .i64 ((ptrOf (i : Int) st.fTxg level text).fBirth), .int .i64 ((ptrOf (i : Int) st.fTxg level text).fSize), .int .i64 ((ptrOf (i : Int) st.fTxg level text).fSum), .int .i64 ((ptrOf (i : Int) st.fTxg level text).fLevel)]) :: boxA b2 8 65 (.agg #[.slice (some ⟨g0, 0, none⟩) st.fRows.length c0, .slice (some ⟨g1, 0, none⟩) st.fSpace.fRefs.length c1, .slice (some ⟨g2, 0, none⟩) st.fSpace.fLast.length c2, .int .i64 st.fTxg, .slice a4 st.fGone.length c4, .int .i64 st.fKeep, .slice a6 st.fDead.length c6, .bool st.fSame]) :: boxA b1 8 65 (.agg #[.slice (some ⟨g0, 0, none⟩) st.fRows.length c0, .slice (some ⟨g1, 0, none⟩) st.fSpace.fRefs.length c1, .slice (some ⟨g2, 0, none⟩) st.fSpace.fLast.length c2, .int .i64 st.fTxg, .slice a4 st.fGone.length c4, .int .i64 st.fKeep, .slice a6 st.fDead.length c6, .bool st.fSame]) :: rowA encS 1 9 (.slice (some ⟨g0, 0, none⟩) st.fRows.length c0) (st.fRows.set i text) :: rowA encI 1 3 (.slice (some ⟨g1, 0, none⟩) st.fSpace.fRefs.length c1) (st.fSpace.fRefs.set i ((st.fSpace.fRefs.getD i 0) + 1)) :: rowA encI 1 3 (.slice (some ⟨g2, 0, none⟩) st.fSpace.fLast.length c2) (st.fSpace.fLast.set i st.fTxg) :: rowA PtrD.cells 5 33 (.slice a4 st.fGone.length c4) st.fGone :: rowA PtrD.cells 5 33 (.slice a6 st.fDead.length c6) st.fDead :: F) _) := ⟨HS2⟩
          have HS : Bx (St w0 (boxA b8 5 33 (.agg #[.int .i64 ((ptrOf (i : Int) st.fTxg level text).fAt), .int .i64 ((ptrOf (i : Int) st.fTxg level text).fBirth), .int .i64 ((ptrOf (i : Int) st.fTxg level text).fSize), .int .i64 ((ptrOf (i : Int) st.fTxg level text).fSum), .int .i64 ((ptrOf (i : Int) st.fTxg level text).fLevel)]) :: boxA b1 8 65 (.agg #[.slice (some ⟨g0, 0, none⟩) st.fRows.length c0, .slice (some ⟨g1, 0, none⟩) st.fSpace.fRefs.length c1, .slice (some ⟨g2, 0, none⟩) st.fSpace.fLast.length c2, .int .i64 st.fTxg, .slice a4 st.fGone.length c4, .int .i64 st.fKeep, .slice a6 st.fDead.length c6, .bool st.fSame]) :: rowA encS 1 9 (.slice (some ⟨g0, 0, none⟩) st.fRows.length c0) (st.fRows.set i text) :: rowA encI 1 3 (.slice (some ⟨g1, 0, none⟩) st.fSpace.fRefs.length c1) (st.fSpace.fRefs.set i ((st.fSpace.fRefs.getD i 0) + 1)) :: rowA encI 1 3 (.slice (some ⟨g2, 0, none⟩) st.fSpace.fLast.length c2) (st.fSpace.fLast.set i st.fTxg) :: rowA PtrD.cells 5 33 (.slice a4 st.fGone.length c4) st.fGone :: rowA PtrD.cells 5 33 (.slice a6 st.fDead.length c6) st.fDead :: F) _) := ⟨((HS2.out.erase 2).erase 1)⟩; refine ⟨HS.out, ?_⟩
          refine wh_y 4 rfl (by kernel_rfl) (by kernel_rfl) (by kernel_rfl) (fun _ _ _ h => h) rfl HF rfl rfl (fun _ HS => (yl_assign rfl (HF.ev rfl))) HS.out ?_; clear HF; clear a; intro a HF
          refine wh_done (by kernel_rfl) ?_
          replace HS := HS2; clear HS2
          refine ex_then ?_
          refine wp_ret ?_
          refine bp_ret3 HF Try.results83 (HF.resBox rfl (HS.out.box 2 rfl) (by kernel_rfl)) (HF.resBox rfl (HS.out.box 1 rfl) (by kernel_rfl)) (HF.res rfl) ?_
          exact .inr ⟨i, hi64, hws, .inr ⟨hpk, rfl, HS.out.tail.tail.tail.tail⟩⟩
  · clear HF; have HF := HF1; clear HF1
    have hls : likeS st text level = -1 := by unfold likeS; rw [cc1]; rfl
    refine wl_skip HF rfl rfl rfl rfl rfl rfl ?_; clear HF; clear a; intro a HF
    refine wl_skip HF rfl rfl rfl rfl rfl rfl ?_; clear HF; clear a; intro a HF
    refine wl_y rfl HF rfl rfl (yl_pick_f rfl (HF.ev rfl) (HF.ev rfl)) ?_; clear HF; clear a; intro a HF
    refine wpList_nil ?_
    refine ex_then ?_
    refine wc_false HF rfl ?_
    refine wp_skip ?_
    refine ex_then ?_
    refine wp_seq ?_
    refine wp_seq ?_
    refine wp_region_lit ?_
    refine wl_y rfl HF rfl rfl (yl_move rfl (HF.ev rfl)) ?_; clear HF; clear a; intro a HF
    refine wl_y rfl HF rfl rfl (yl_lssI rfl (HF.ev rfl) (HF.ev rfl)) ?_; clear HF; clear a; intro a HF
    refine wpList_nil ?_
    refine ex_then ?_
    replace HF := HF.know (k := 22) (c := true) rfl (by decide)
    refine wc_true HF rfl ?_
    have hws : writeS st text level = freeR st.fSpace := by unfold writeS; rw [if_pos (by rw [hls]; first | omega | (exact of_decide_eq_true (by assumption)))]
    refine wp_region_lit ?_
    refine wl_y rfl HF rfl rfl (yl_fieldAddr (j := 1) rfl (HF.ev rfl) (by kernel_rfl)) ?_; clear HF; clear a; intro a HF
    refine wl_y rfl HF rfl rfl (yl_loadR (cs := [.slice (some ⟨g1, 0, none⟩) st.fSpace.fRefs.length c1, .slice (some ⟨g2, 0, none⟩) st.fSpace.fLast.length c2]) rfl (HF.ev rfl) ((HS.out.box 2 rfl).sub 1 2) (by kernel_rfl)) ?_; clear HF; clear a; intro a HF
    refine wl_empty (e := 3) (size := 1) rfl HF rfl rfl rfl (by kernel_rfl) HS.out ?_; clear HF HS; clear a; intro a w49 b9 HF HS; replace HS := Bx.mk HS
    refine wl_callB rfl HF rfl (enter_of Try.func138 (by kernel_rfl) rfl) (args := #[.agg #[.slice (some ⟨g1, 0, none⟩) st.fSpace.fRefs.length c1, .slice (some ⟨g2, 0, none⟩) st.fSpace.fLast.length c2], .int .i64 8, .slice (some ⟨b9, 0, none⟩) 0 0]) rfl (v := .int .i64 (freeR st.fSpace)) (l5Find_any _ _ _ _ _ _ _ st.fSpace _ (St.rdOf HS.out encI_len 4 rfl) (by omega)) rfl rfl HS.out ?_; clear HF HS; clear a; intro w50 a HS HF; replace HS := Bx.mk HS
    refine wl_y rfl HF rfl rfl (yl_assign rfl (HF.ev rfl)) ?_; clear HF; clear a; intro a HF
    refine wpList_nil ?_
    refine ex_then ?_
    refine wp_seq ?_
    refine wp_seq ?_
    refine wp_region_lit ?_
    refine wl_y rfl HF rfl rfl (yl_move rfl (HF.ev rfl)) ?_; clear HF; clear a; intro a HF
    refine wl_y rfl HF rfl rfl (yl_lssI rfl (HF.ev rfl) (HF.ev rfl)) ?_; clear HF; clear a; intro a HF
    refine wpList_nil ?_
    refine ex_then ?_
    refine HF.cases 28 rfl (fun cc10 HF1 => ?_) (fun cc10 HF1 => ?_)
    · clear HF; have HF := HF1; clear HF1
      have hneg := of_decide_eq_true cc10
      refine wc_true HF rfl ?_
      refine wp_seq ?_
      refine wp_region_lit ?_
      refine wl_y rfl HF rfl rfl (yl_loadR (cs := [.slice (some ⟨g0, 0, none⟩) st.fRows.length c0, .slice (some ⟨g1, 0, none⟩) st.fSpace.fRefs.length c1, .slice (some ⟨g2, 0, none⟩) st.fSpace.fLast.length c2, .int .i64 st.fTxg, .slice a4 st.fGone.length c4, .int .i64 st.fKeep, .slice a6 st.fDead.length c6, .bool st.fSame]) rfl (HF.ev rfl) ((HS.out.box 2 rfl).sub 0 8) (by kernel_rfl)) ?_; clear HF; clear a; intro a HF
      refine wl_y rfl HF rfl rfl (yl_build HF rfl (ps := []) rfl (cs := #[.int .i64 0, .int .i64 0, .int .i64 0, .int .i64 0, .int .i64 0]) (by kernel_rfl)) ?_; clear HF; clear a; intro a HF
      refine wl_storeBox rfl HF rfl rfl (HF.ev rfl) (HF.ev rfl) HS.out 1 rfl (cells_lit [.slice (some ⟨g0, 0, none⟩) st.fRows.length c0, .slice (some ⟨g1, 0, none⟩) st.fSpace.fRefs.length c1, .slice (some ⟨g2, 0, none⟩) st.fSpace.fLast.length c2, .int .i64 st.fTxg, .slice a4 st.fGone.length c4, .int .i64 st.fKeep, .slice a6 st.fDead.length c6, .bool st.fSame] rfl rfl) (by kernel_rfl) ?_; clear HS; intro w51 HS; replace HS := Bx.mk HS
      have HS : Bx (St w0 (boxA b3 5 33 (.agg #[.int .i64 0, .int .i64 0, .int .i64 0, .int .i64 0, .int .i64 0]) :: boxA b2 8 65 (.agg #[.slice (some ⟨g0, 0, none⟩) st.fRows.length c0, .slice (some ⟨g1, 0, none⟩) st.fSpace.fRefs.length c1, .slice (some ⟨g2, 0, none⟩) st.fSpace.fLast.length c2, .int .i64 st.fTxg, .slice a4 st.fGone.length c4, .int .i64 st.fKeep, .slice a6 st.fDead.length c6, .bool st.fSame]) :: boxA b1 8 65 (.agg #[.slice (some ⟨g0, 0, none⟩) st.fRows.length c0, .slice (some ⟨g1, 0, none⟩) st.fSpace.fRefs.length c1, .slice (some ⟨g2, 0, none⟩) st.fSpace.fLast.length c2, .int .i64 st.fTxg, .slice a4 st.fGone.length c4, .int .i64 st.fKeep, .slice a6 st.fDead.length c6, .bool st.fSame]) :: rowA encS 1 9 (.slice (some ⟨g0, 0, none⟩) st.fRows.length c0) st.fRows :: rowA encI 1 3 (.slice (some ⟨g1, 0, none⟩) st.fSpace.fRefs.length c1) st.fSpace.fRefs :: rowA encI 1 3 (.slice (some ⟨g2, 0, none⟩) st.fSpace.fLast.length c2) st.fSpace.fLast :: rowA PtrD.cells 5 33 (.slice a4 st.fGone.length c4) st.fGone :: rowA PtrD.cells 5 33 (.slice a6 st.fDead.length c6) st.fDead :: F) _) := HS
      refine wl_storeBox rfl HF rfl rfl (HF.ev rfl) (HF.ev rfl) HS.out 0 rfl (cells_lit [.int .i64 0, .int .i64 0, .int .i64 0, .int .i64 0, .int .i64 0] rfl rfl) (by kernel_rfl) ?_; clear HS; intro w52 HS; replace HS := Bx.mk HS
      have HS : Bx (St w0 (boxA b3 5 33 (.agg #[.int .i64 0, .int .i64 0, .int .i64 0, .int .i64 0, .int .i64 0]) :: boxA b2 8 65 (.agg #[.slice (some ⟨g0, 0, none⟩) st.fRows.length c0, .slice (some ⟨g1, 0, none⟩) st.fSpace.fRefs.length c1, .slice (some ⟨g2, 0, none⟩) st.fSpace.fLast.length c2, .int .i64 st.fTxg, .slice a4 st.fGone.length c4, .int .i64 st.fKeep, .slice a6 st.fDead.length c6, .bool st.fSame]) :: boxA b1 8 65 (.agg #[.slice (some ⟨g0, 0, none⟩) st.fRows.length c0, .slice (some ⟨g1, 0, none⟩) st.fSpace.fRefs.length c1, .slice (some ⟨g2, 0, none⟩) st.fSpace.fLast.length c2, .int .i64 st.fTxg, .slice a4 st.fGone.length c4, .int .i64 st.fKeep, .slice a6 st.fDead.length c6, .bool st.fSame]) :: rowA encS 1 9 (.slice (some ⟨g0, 0, none⟩) st.fRows.length c0) st.fRows :: rowA encI 1 3 (.slice (some ⟨g1, 0, none⟩) st.fSpace.fRefs.length c1) st.fSpace.fRefs :: rowA encI 1 3 (.slice (some ⟨g2, 0, none⟩) st.fSpace.fLast.length c2) st.fSpace.fLast :: rowA PtrD.cells 5 33 (.slice a4 st.fGone.length c4) st.fGone :: rowA PtrD.cells 5 33 (.slice a6 st.fDead.length c6) st.fDead :: F) _) := HS
      refine wl_y rfl HF rfl rfl (yl_assign rfl (HF.ev rfl)) ?_; clear HF; clear a; intro a HF
      refine wpList_nil ?_
      refine ex_then ?_
      refine wp_ret ?_
      refine ex_then_ret ?_
      refine bp_ret3 HF Try.results83 (HF.resBox rfl (HS.out.box 1 rfl) (by kernel_rfl)) (HF.resBox rfl (HS.out.box 0 rfl) (by kernel_rfl)) (HF.res rfl) ?_
      exact .inl ⟨by rw [hws]; exact hneg, rfl, HS.out.tail.tail.tail⟩
    · clear HF; have HF := HF1; clear HF1
      obtain ⟨i, hi, hi64⟩ : ∃ i : Nat, freeR st.fSpace = i ∧ i < 64 := (atOr_cases _).resolve_left (of_decide_eq_false cc10)
      replace HF : Fr 70 a [(1, .string text), (2, .int .i64 level), (3, .pointer (some ⟨b1, 0, none⟩)), (6, .pointer (some ⟨b2, 0, none⟩)), (7, .pointer (some ⟨b3, 0, none⟩)), (8, .bool false), (9, .int .i64 (i : Int)), (22, .bool true), (28, .bool false)] := by
        rw [← hi]; exact HF.less _ ⟨rfl, rfl, rfl, rfl, rfl, rfl, rfl, rfl, rfl, trivial⟩
      rw [hi] at hws
      refine wc_false HF rfl ?_
      refine wp_skip ?_
      refine ex_then ?_
      refine wp_seq ?_
      refine wp_region_lit ?_
      refine wl_y rfl HF rfl rfl (yl_move rfl (HF.ev rfl)) ?_; clear HF; clear a; intro a HF
      refine wl_y rfl HF rfl rfl (yl_fieldAddr (j := 3) rfl (HF.ev rfl) (by kernel_rfl)) ?_; clear HF; clear a; intro a HF
      refine wl_y rfl HF rfl rfl (yl_load (v := .int .i64 st.fTxg) rfl (HF.ev rfl) (((HS.out.box 2 rfl).cell 3).trans rfl) (by kernel_rfl)) ?_; clear HF; clear a; intro a HF
      refine wl_y rfl HF rfl rfl (yl_move rfl (HF.ev rfl)) ?_; clear HF; clear a; intro a HF
      refine wl_y rfl HF rfl rfl (yl_move rfl (HF.ev rfl)) ?_; clear HF; clear a; intro a HF
      refine wl_callB rfl HF rfl (enter_of Try.func112 (by kernel_rfl) rfl) (args := #[.int .i64 (i : Int), .int .i64 st.fTxg, .int .i64 level, .string text]) rfl (v := .tuple #[.agg #[.int .i64 ((ptrOf (i : Int) st.fTxg level text).fAt), .int .i64 ((ptrOf (i : Int) st.fTxg level text).fBirth), .int .i64 ((ptrOf (i : Int) st.fTxg level text).fSize), .int .i64 ((ptrOf (i : Int) st.fTxg level text).fSum), .int .i64 ((ptrOf (i : Int) st.fTxg level text).fLevel)], .bool (ptrOk (i : Int) st.fTxg level text)]) (ptrOfS_any (i : Int) st.fTxg level text _ (by omega)) rfl rfl HS.out ?_; clear HF HS; clear a; intro w53 a HS HF; replace HS := Bx.mk HS
      refine wl_y rfl HF rfl rfl (yl_move rfl (HF.ev rfl)) ?_; clear HF; clear a; intro a HF
      refine wl_y rfl HF rfl rfl (yl_extract rfl (HF.ev rfl) rfl) ?_; clear HF; clear a; intro a HF
      refine wl_y rfl HF rfl rfl (yl_extract rfl (HF.ev rfl) rfl) ?_; clear HF; clear a; intro a HF
      refine wl_alloc rfl HF rfl rfl rfl (Z := [.int .i64 0, .int .i64 0, .int .i64 0, .int .i64 0, .int .i64 0]) (by kernel_rfl) rfl HS.out ?_; clear HF HS; clear a; intro a w54 b10 HF HS; replace HS := Bx.mk HS
      refine wl_storeBox rfl HF rfl rfl (HF.ev rfl) (HF.ev rfl) HS.out 0 rfl (cells_lit [.int .i64 ((ptrOf (i : Int) st.fTxg level text).fAt), .int .i64 ((ptrOf (i : Int) st.fTxg level text).fBirth), .int .i64 ((ptrOf (i : Int) st.fTxg level text).fSize), .int .i64 ((ptrOf (i : Int) st.fTxg level text).fSum), .int .i64 ((ptrOf (i : Int) st.fTxg level text).fLevel)] rfl rfl) (by kernel_rfl) ?_; clear HS; intro w55 HS; replace HS := Bx.mk HS
      have HS : Bx (St w0 (boxA b10 5 33 (.agg #[.int .i64 ((ptrOf (i : Int) st.fTxg level text).fAt), .int .i64 ((ptrOf (i : Int) st.fTxg level text).fBirth), .int .i64 ((ptrOf (i : Int) st.fTxg level text).fSize), .int .i64 ((ptrOf (i : Int) st.fTxg level text).fSum), .int .i64 ((ptrOf (i : Int) st.fTxg level text).fLevel)]) :: boxA b3 5 33 (.agg #[.int .i64 0, .int .i64 0, .int .i64 0, .int .i64 0, .int .i64 0]) :: boxA b2 8 65 (.agg #[.slice none 0 0, .slice none 0 0, .slice none 0 0, .int .i64 0, .slice none 0 0, .int .i64 0, .slice none 0 0, .bool false]) :: boxA b1 8 65 (.agg #[.slice (some ⟨g0, 0, none⟩) st.fRows.length c0, .slice (some ⟨g1, 0, none⟩) st.fSpace.fRefs.length c1, .slice (some ⟨g2, 0, none⟩) st.fSpace.fLast.length c2, .int .i64 st.fTxg, .slice a4 st.fGone.length c4, .int .i64 st.fKeep, .slice a6 st.fDead.length c6, .bool st.fSame]) :: rowA encS 1 9 (.slice (some ⟨g0, 0, none⟩) st.fRows.length c0) st.fRows :: rowA encI 1 3 (.slice (some ⟨g1, 0, none⟩) st.fSpace.fRefs.length c1) st.fSpace.fRefs :: rowA encI 1 3 (.slice (some ⟨g2, 0, none⟩) st.fSpace.fLast.length c2) st.fSpace.fLast :: rowA PtrD.cells 5 33 (.slice a4 st.fGone.length c4) st.fGone :: rowA PtrD.cells 5 33 (.slice a6 st.fDead.length c6) st.fDead :: F) _) := HS
      refine wl_y rfl HF rfl rfl (yl_assign rfl (HF.ev rfl)) ?_; clear HF; clear a; intro a HF
      refine wpList_nil ?_
      refine ex_then ?_
      refine wp_seq ?_
      refine wp_seq ?_
      refine wp_region_lit ?_
      refine wl_y rfl HF rfl rfl (yl_move rfl (HF.ev rfl)) ?_; clear HF; clear a; intro a HF
      refine wl_y rfl HF rfl rfl (yl_not rfl (HF.ev rfl)) ?_; clear HF; clear a; intro a HF
      refine wpList_nil ?_
      refine ex_then ?_
      refine HF.cases 41 rfl (fun cc11 HF1 => ?_) (fun cc11 HF1 => ?_)
      · clear HF; have HF := HF1; clear HF1
        have hpk : ptrOk (i : Int) st.fTxg level text = false := by simpa using cc11
        refine wc_true HF rfl ?_
        refine wp_seq ?_
        refine wp_region_lit ?_
        refine wl_y rfl HF rfl rfl (yl_loadR (cs := [.slice (some ⟨g0, 0, none⟩) st.fRows.length c0, .slice (some ⟨g1, 0, none⟩) st.fSpace.fRefs.length c1, .slice (some ⟨g2, 0, none⟩) st.fSpace.fLast.length c2, .int .i64 st.fTxg, .slice a4 st.fGone.length c4, .int .i64 st.fKeep, .slice a6 st.fDead.length c6, .bool st.fSame]) rfl (HF.ev rfl) ((HS.out.box 3 rfl).sub 0 8) (by kernel_rfl)) ?_; clear HF; clear a; intro a HF
        refine wl_y rfl HF rfl rfl (yl_build HF rfl (ps := []) rfl (cs := #[.int .i64 0, .int .i64 0, .int .i64 0, .int .i64 0, .int .i64 0]) (by kernel_rfl)) ?_; clear HF; clear a; intro a HF
        refine wl_storeBox rfl HF rfl rfl (HF.ev rfl) (HF.ev rfl) HS.out 2 rfl (cells_lit [.slice (some ⟨g0, 0, none⟩) st.fRows.length c0, .slice (some ⟨g1, 0, none⟩) st.fSpace.fRefs.length c1, .slice (some ⟨g2, 0, none⟩) st.fSpace.fLast.length c2, .int .i64 st.fTxg, .slice a4 st.fGone.length c4, .int .i64 st.fKeep, .slice a6 st.fDead.length c6, .bool st.fSame] rfl rfl) (by kernel_rfl) ?_; clear HS; intro w56 HS; replace HS := Bx.mk HS
        have HS : Bx (St w0 (boxA b10 5 33 (.agg #[.int .i64 ((ptrOf (i : Int) st.fTxg level text).fAt), .int .i64 ((ptrOf (i : Int) st.fTxg level text).fBirth), .int .i64 ((ptrOf (i : Int) st.fTxg level text).fSize), .int .i64 ((ptrOf (i : Int) st.fTxg level text).fSum), .int .i64 ((ptrOf (i : Int) st.fTxg level text).fLevel)]) :: boxA b3 5 33 (.agg #[.int .i64 0, .int .i64 0, .int .i64 0, .int .i64 0, .int .i64 0]) :: boxA b2 8 65 (.agg #[.slice (some ⟨g0, 0, none⟩) st.fRows.length c0, .slice (some ⟨g1, 0, none⟩) st.fSpace.fRefs.length c1, .slice (some ⟨g2, 0, none⟩) st.fSpace.fLast.length c2, .int .i64 st.fTxg, .slice a4 st.fGone.length c4, .int .i64 st.fKeep, .slice a6 st.fDead.length c6, .bool st.fSame]) :: boxA b1 8 65 (.agg #[.slice (some ⟨g0, 0, none⟩) st.fRows.length c0, .slice (some ⟨g1, 0, none⟩) st.fSpace.fRefs.length c1, .slice (some ⟨g2, 0, none⟩) st.fSpace.fLast.length c2, .int .i64 st.fTxg, .slice a4 st.fGone.length c4, .int .i64 st.fKeep, .slice a6 st.fDead.length c6, .bool st.fSame]) :: rowA encS 1 9 (.slice (some ⟨g0, 0, none⟩) st.fRows.length c0) st.fRows :: rowA encI 1 3 (.slice (some ⟨g1, 0, none⟩) st.fSpace.fRefs.length c1) st.fSpace.fRefs :: rowA encI 1 3 (.slice (some ⟨g2, 0, none⟩) st.fSpace.fLast.length c2) st.fSpace.fLast :: rowA PtrD.cells 5 33 (.slice a4 st.fGone.length c4) st.fGone :: rowA PtrD.cells 5 33 (.slice a6 st.fDead.length c6) st.fDead :: F) _) := HS
        refine wl_storeBox rfl HF rfl rfl (HF.ev rfl) (HF.ev rfl) HS.out 1 rfl (cells_lit [.int .i64 0, .int .i64 0, .int .i64 0, .int .i64 0, .int .i64 0] rfl rfl) (by kernel_rfl) ?_; clear HS; intro w57 HS; replace HS := Bx.mk HS
        have HS : Bx (St w0 (boxA b10 5 33 (.agg #[.int .i64 ((ptrOf (i : Int) st.fTxg level text).fAt), .int .i64 ((ptrOf (i : Int) st.fTxg level text).fBirth), .int .i64 ((ptrOf (i : Int) st.fTxg level text).fSize), .int .i64 ((ptrOf (i : Int) st.fTxg level text).fSum), .int .i64 ((ptrOf (i : Int) st.fTxg level text).fLevel)]) :: boxA b3 5 33 (.agg #[.int .i64 0, .int .i64 0, .int .i64 0, .int .i64 0, .int .i64 0]) :: boxA b2 8 65 (.agg #[.slice (some ⟨g0, 0, none⟩) st.fRows.length c0, .slice (some ⟨g1, 0, none⟩) st.fSpace.fRefs.length c1, .slice (some ⟨g2, 0, none⟩) st.fSpace.fLast.length c2, .int .i64 st.fTxg, .slice a4 st.fGone.length c4, .int .i64 st.fKeep, .slice a6 st.fDead.length c6, .bool st.fSame]) :: boxA b1 8 65 (.agg #[.slice (some ⟨g0, 0, none⟩) st.fRows.length c0, .slice (some ⟨g1, 0, none⟩) st.fSpace.fRefs.length c1, .slice (some ⟨g2, 0, none⟩) st.fSpace.fLast.length c2, .int .i64 st.fTxg, .slice a4 st.fGone.length c4, .int .i64 st.fKeep, .slice a6 st.fDead.length c6, .bool st.fSame]) :: rowA encS 1 9 (.slice (some ⟨g0, 0, none⟩) st.fRows.length c0) st.fRows :: rowA encI 1 3 (.slice (some ⟨g1, 0, none⟩) st.fSpace.fRefs.length c1) st.fSpace.fRefs :: rowA encI 1 3 (.slice (some ⟨g2, 0, none⟩) st.fSpace.fLast.length c2) st.fSpace.fLast :: rowA PtrD.cells 5 33 (.slice a4 st.fGone.length c4) st.fGone :: rowA PtrD.cells 5 33 (.slice a6 st.fDead.length c6) st.fDead :: F) _) := HS
        refine wl_y rfl HF rfl rfl (yl_assign rfl (HF.ev rfl)) ?_; clear HF; clear a; intro a HF
        refine wpList_nil ?_
        refine ex_then ?_
        refine wp_ret ?_
        refine ex_then_ret ?_
        refine bp_ret3 HF Try.results83 (HF.resBox rfl (HS.out.box 2 rfl) (by kernel_rfl)) (HF.resBox rfl (HS.out.box 1 rfl) (by kernel_rfl)) (HF.res rfl) ?_
        exact .inr ⟨i, hi64, hws, .inl ⟨hpk, rfl, HS.out.tail.tail.tail.tail⟩⟩
      · clear HF; have HF := HF1; clear HF1
        have hpk : ptrOk (i : Int) st.fTxg level text = true := by simpa using cc11
        refine wc_false HF rfl ?_
        refine wp_skip ?_
        refine ex_then ?_
        refine wp_seq ?_
        refine wp_region_lit ?_
        refine wl_y rfl HF rfl rfl (yl_fieldAddr (j := 0) rfl (HF.ev rfl) (by kernel_rfl)) ?_; clear HF; clear a; intro a HF
        refine wl_y rfl HF rfl rfl (yl_load (v := .slice (some ⟨g0, 0, none⟩) st.fRows.length c0) rfl (HF.ev rfl) (((HS.out.box 3 rfl).cell 0).trans rfl) (by kernel_rfl)) ?_; clear HF; clear a; intro a HF
        refine wl_y rfl HF rfl rfl (yl_move rfl (HF.ev rfl)) ?_; clear HF; clear a; intro a HF
        refine wl_y rfl HF rfl rfl (yl_move rfl (HF.ev rfl)) ?_; clear HF; clear a; intro a HF
        refine wl_y rfl HF rfl rfl (yl_indexAddr (e := 9) (i := i) (size := 1) rfl (HF.ev rfl) (HF.ev rfl) (by kernel_rfl) rfl (by omega)) ?_; clear HF; clear a; intro a HF
        refine wl_storeE encS_len rfl rfl rfl (HF.ev rfl) (HF.ev rfl) (by kernel_rfl) HS.out 4 rfl (by omega) (z := text) rfl rfl ?_; clear HS; intro w58 HS; replace HS := Bx.mk HS
        refine wpList_nil ?_
        refine ex_then ?_
        refine wp_seq ?_
        have hrb := hr i
        refine wr_tail 12 (by kernel_rfl) (by kernel_rfl) HS.out ?_
        simp only [List.take_succ_cons, List.take_zero, List.drop_succ_cons, List.drop_zero]
        intro w59 HS
        replace HS := Bx.mk HS
        refine ws_y rfl HF rfl rfl (yl_fieldAddr (j := 1) rfl (HF.ev rfl) (by kernel_rfl)) ?_; clear HF; clear a; intro a HF
        refine ws_y rfl HF rfl rfl (yl_fieldAddr (j := 0) rfl (HF.ev rfl) (by kernel_rfl)) ?_; clear HF; clear a; intro a HF
        refine ws_y rfl HF rfl rfl (yl_load (v := .slice (some ⟨g1, 0, none⟩) st.fSpace.fRefs.length c1) rfl (HF.ev rfl) (((HS.out.box 3 rfl).cell 1).trans rfl) (by kernel_rfl)) ?_; clear HF; clear a; intro a HF
        refine ws_y rfl HF rfl rfl (yl_move rfl (HF.ev rfl)) ?_; clear HF; clear a; intro a HF
        refine ws_y rfl HF rfl rfl (yl_fieldAddr (j := 1) rfl (HF.ev rfl) (by kernel_rfl)) ?_; clear HF; clear a; intro a HF
        refine ws_y rfl HF rfl rfl (yl_fieldAddr (j := 0) rfl (HF.ev rfl) (by kernel_rfl)) ?_; clear HF; clear a; intro a HF
        refine ws_y rfl HF rfl rfl (yl_load (v := .slice (some ⟨g1, 0, none⟩) st.fSpace.fRefs.length c1) rfl (HF.ev rfl) (((HS.out.box 3 rfl).cell 1).trans rfl) (by kernel_rfl)) ?_; clear HF; clear a; intro a HF
        refine ws_y rfl HF rfl rfl (yl_move rfl (HF.ev rfl)) ?_; clear HF; clear a; intro a HF
        refine ws_y rfl HF rfl rfl (yl_indexAddr (e := 3) (i := i) (size := 1) rfl (HF.ev rfl) (HF.ev rfl) (by kernel_rfl) rfl (by omega)) ?_; clear HF; clear a; intro a HF
        refine ws_y rfl HF rfl rfl (yl_load (v := .int .i64 (st.fSpace.fRefs.getD i 0)) rfl (HF.ev rfl) (HS.out.elem1 encI_len 5 rfl (get_getD (xs := st.fSpace.fRefs) (j := i) (d := 0) (by omega)) rfl) (by kernel_rfl)) ?_; clear HF; clear a; intro a HF
        refine ws_y rfl HF rfl rfl (yl_addI rfl (HF.ev rfl) (HF.ev rfl) (i64w (by omega))) ?_; clear HF; clear a; intro a HF
        refine ws_y rfl HF rfl rfl (yl_indexAddr (e := 3) (i := i) (size := 1) rfl (HF.ev rfl) (HF.ev rfl) (by kernel_rfl) rfl (by omega)) ?_; clear HF; clear a; intro a HF
        refine wpStill_nil ?_
        refine wl_storeE encI_len rfl rfl rfl (HF.ev rfl) (HF.ev rfl) (by kernel_rfl) HS.out 5 rfl (by omega) (z := ((st.fSpace.fRefs.getD i 0) + 1)) rfl rfl ?_; clear HS; intro w60 HS; replace HS := Bx.mk HS
        refine wpList_nil ?_
        refine ex_then ?_
        refine wp_seq ?_
        refine wp_region_lit ?_
        refine wl_y rfl HF rfl rfl (yl_fieldAddr (j := 1) rfl (HF.ev rfl) (by kernel_rfl)) ?_; clear HF; clear a; intro a HF
        refine wl_y rfl HF rfl rfl (yl_fieldAddr (j := 1) rfl (HF.ev rfl) (by kernel_rfl)) ?_; clear HF; clear a; intro a HF
        refine wl_y rfl HF rfl rfl (yl_load (v := .slice (some ⟨g2, 0, none⟩) st.fSpace.fLast.length c2) rfl (HF.ev rfl) (((HS.out.box 3 rfl).cell 2).trans rfl) (by kernel_rfl)) ?_; clear HF; clear a; intro a HF
        refine wl_y rfl HF rfl rfl (yl_move rfl (HF.ev rfl)) ?_; clear HF; clear a; intro a HF
        refine wl_y rfl HF rfl rfl (yl_fieldAddr (j := 3) rfl (HF.ev rfl) (by kernel_rfl)) ?_; clear HF; clear a; intro a HF
        refine wl_y rfl HF rfl rfl (yl_load (v := .int .i64 st.fTxg) rfl (HF.ev rfl) (((HS.out.box 3 rfl).cell 3).trans rfl) (by kernel_rfl)) ?_; clear HF; clear a; intro a HF
        refine wl_y rfl HF rfl rfl (yl_indexAddr (e := 3) (i := i) (size := 1) rfl (HF.ev rfl) (HF.ev rfl) (by kernel_rfl) rfl (by omega)) ?_; clear HF; clear a; intro a HF
        refine wl_storeE encI_len rfl rfl rfl (HF.ev rfl) (HF.ev rfl) (by kernel_rfl) HS.out 6 rfl (by omega) (z := st.fTxg) rfl rfl ?_; clear HS; intro w61 HS; replace HS := Bx.mk HS
        refine wpList_nil ?_
        refine ex_then ?_
        refine wp_seq ?_
        refine wr_heldS (s := boxA b10 5 33 (.agg #[.int .i64 ((ptrOf (i : Int) st.fTxg level text).fAt), .int .i64 ((ptrOf (i : Int) st.fTxg level text).fBirth), .int .i64 ((ptrOf (i : Int) st.fTxg level text).fSize), .int .i64 ((ptrOf (i : Int) st.fTxg level text).fSum), .int .i64 ((ptrOf (i : Int) st.fTxg level text).fLevel)]) :: boxA b1 8 65 (.agg #[.slice (some ⟨g0, 0, none⟩) st.fRows.length c0, .slice (some ⟨g1, 0, none⟩) st.fSpace.fRefs.length c1, .slice (some ⟨g2, 0, none⟩) st.fSpace.fLast.length c2, .int .i64 st.fTxg, .slice a4 st.fGone.length c4, .int .i64 st.fKeep, .slice a6 st.fDead.length c6, .bool st.fSame]) :: rowA encS 1 9 (.slice (some ⟨g0, 0, none⟩) st.fRows.length c0) (st.fRows.set i text) :: rowA encI 1 3 (.slice (some ⟨g1, 0, none⟩) st.fSpace.fRefs.length c1) (st.fSpace.fRefs.set i ((st.fSpace.fRefs.getD i 0) + 1)) :: rowA encI 1 3 (.slice (some ⟨g2, 0, none⟩) st.fSpace.fLast.length c2) (st.fSpace.fLast.set i st.fTxg) :: rowA PtrD.cells 5 33 (.slice a4 st.fGone.length c4) st.fGone :: rowA PtrD.cells 5 33 (.slice a6 st.fDead.length c6) st.fDead :: F) (by kernel_rfl) (St.drew (((HS.out.erase 2).erase 1))) ?_
        have HS2 := Bx.mk HS.out.drew; replace HS := Bx.mk (show St w0 (boxA b10 5 33 (.agg #[.int .i64 ((ptrOf (i : Int) st.fTxg level text).fAt), .int .i64 ((ptrOf (i : Int) st.fTxg level text).fBirth), .int .i64 ((ptrOf (i : Int) st.fTxg level text).fSize), .int .i64 ((ptrOf (i : Int) st.fTxg level text).fSum), .int .i64 ((ptrOf (i : Int) st.fTxg level text).fLevel)]) :: boxA b1 8 65 (.agg #[.slice (some ⟨g0, 0, none⟩) st.fRows.length c0, .slice (some ⟨g1, 0, none⟩) st.fSpace.fRefs.length c1, .slice (some ⟨g2, 0, none⟩) st.fSpace.fLast.length c2, .int .i64 st.fTxg, .slice a4 st.fGone.length c4, .int .i64 st.fKeep, .slice a6 st.fDead.length c6, .bool st.fSame]) :: rowA encS 1 9 (.slice (some ⟨g0, 0, none⟩) st.fRows.length c0) (st.fRows.set i text) :: rowA encI 1 3 (.slice (some ⟨g1, 0, none⟩) st.fSpace.fRefs.length c1) (st.fSpace.fRefs.set i ((st.fSpace.fRefs.getD i 0) + 1)) :: rowA encI 1 3 (.slice (some ⟨g2, 0, none⟩) st.fSpace.fLast.length c2) (st.fSpace.fLast.set i st.fTxg) :: rowA PtrD.cells 5 33 (.slice a4 st.fGone.length c4) st.fGone :: rowA PtrD.cells 5 33 (.slice a6 st.fDead.length c6) st.fDead :: F) _ from ((HS.out.drew.erase 2).erase 1))
        generalize World.drew _ = w62 at HS HS2 ⊢
        refine wh_y 0 rfl (by kernel_rfl) (by kernel_rfl) (by kernel_rfl) (fun _ _ _ h => h) rfl HF rfl rfl (fun _ HS => (yl_loadR (cs := [.slice (some ⟨g0, 0, none⟩) st.fRows.length c0, .slice (some ⟨g1, 0, none⟩) st.fSpace.fRefs.length c1, .slice (some ⟨g2, 0, none⟩) st.fSpace.fLast.length c2, .int .i64 st.fTxg, .slice a4 st.fGone.length c4, .int .i64 st.fKeep, .slice a6 st.fDead.length c6, .bool st.fSame]) rfl (HF.ev rfl) ((HS.box 1 rfl).sub 0 8) (by kernel_rfl))) HS.out ?_; clear HF; clear a; intro a HF
        refine wh_y 1 rfl (by kernel_rfl) (by kernel_rfl) (by kernel_rfl) (fun _ _ _ h => h) rfl HF rfl rfl (fun _ HS => (yl_loadR (cs := [.int .i64 ((ptrOf (i : Int) st.fTxg level text).fAt), .int .i64 ((ptrOf (i : Int) st.fTxg level text).fBirth), .int .i64 ((ptrOf (i : Int) st.fTxg level text).fSize), .int .i64 ((ptrOf (i : Int) st.fTxg level text).fSum), .int .i64 ((ptrOf (i : Int) st.fTxg level text).fLevel)]) rfl (HF.ev rfl) ((HS.box 0 rfl).sub 0 5) (by kernel_rfl))) HS.out ?_; clear HF; clear a; intro a HF
        refine wh_one 2 (by kernel_rfl) ?_
        refine wo_storeBox rfl rfl rfl rfl (HF.ev rfl) (HF.ev rfl) HS2.out 2 rfl (cells_lit [.slice (some ⟨g0, 0, none⟩) st.fRows.length c0, .slice (some ⟨g1, 0, none⟩) st.fSpace.fRefs.length c1, .slice (some ⟨g2, 0, none⟩) st.fSpace.fLast.length c2, .int .i64 st.fTxg, .slice a4 st.fGone.length c4, .int .i64 st.fKeep, .slice a6 st.fDead.length c6, .bool st.fSame] rfl rfl) (by kernel_rfl) ?_
        clear HS HS2; intro w63 HS2; replace HS2 : Bx (St w0 (boxA b10 5 33 (.agg #[.int .i64 ((ptrOf (i : Int) st.fTxg level text).fAt), .int .i64 ((ptrOf (i : Int) st.fTxg level text).fBirth), .int .i64 ((ptrOf (i : Int) st.fTxg level text).fSize), .int .i64 ((ptrOf (i : Int) st.fTxg level text).fSum), .int .i64 ((ptrOf (i : Int) st.fTxg level text).fLevel)]) :: boxA b3 5 33 (.agg #[.int .i64 0, .int .i64 0, .int .i64 0, .int .i64 0, .int .i64 0]) :: boxA b2 8 65 (.agg #[.slice (some ⟨g0, 0, none⟩) st.fRows.length c0, .slice (some ⟨g1, 0, none⟩) st.fSpace.fRefs.length c1, .slice (some ⟨g2, 0, none⟩) st.fSpace.fLast.length c2, .int .i64 st.fTxg, .slice a4 st.fGone.length c4, .int .i64 st.fKeep, .slice a6 st.fDead.length c6, .bool st.fSame]) :: boxA b1 8 65 (.agg #[.slice (some ⟨g0, 0, none⟩) st.fRows.length c0, .slice (some ⟨g1, 0, none⟩) st.fSpace.fRefs.length c1, .slice (some ⟨g2, 0, none⟩) st.fSpace.fLast.length c2, .int .i64 st.fTxg, .slice a4 st.fGone.length c4, .int .i64 st.fKeep, .slice a6 st.fDead.length c6, .bool st.fSame]) :: rowA encS 1 9 (.slice (some ⟨g0, 0, none⟩) st.fRows.length c0) (st.fRows.set i text) :: rowA encI 1 3 (.slice (some ⟨g1, 0, none⟩) st.fSpace.fRefs.length c1) (st.fSpace.fRefs.set i ((st.fSpace.fRefs.getD i 0) + 1)) :: rowA encI 1 3 (.slice (some ⟨g2, 0, none⟩) st.fSpace.fLast.length c2) (st.fSpace.fLast.set i st.fTxg) :: rowA PtrD.cells 5 33 (.slice a4 st.fGone.length c4) st.fGone :: rowA PtrD.cells 5 33 (.slice a6 st.fDead.length c6) st.fDead :: F) _) := ⟨HS2⟩
        have HS : Bx (St w0 (boxA b10 5 33 (.agg #[.int .i64 ((ptrOf (i : Int) st.fTxg level text).fAt), .int .i64 ((ptrOf (i : Int) st.fTxg level text).fBirth), .int .i64 ((ptrOf (i : Int) st.fTxg level text).fSize), .int .i64 ((ptrOf (i : Int) st.fTxg level text).fSum), .int .i64 ((ptrOf (i : Int) st.fTxg level text).fLevel)]) :: boxA b1 8 65 (.agg #[.slice (some ⟨g0, 0, none⟩) st.fRows.length c0, .slice (some ⟨g1, 0, none⟩) st.fSpace.fRefs.length c1, .slice (some ⟨g2, 0, none⟩) st.fSpace.fLast.length c2, .int .i64 st.fTxg, .slice a4 st.fGone.length c4, .int .i64 st.fKeep, .slice a6 st.fDead.length c6, .bool st.fSame]) :: rowA encS 1 9 (.slice (some ⟨g0, 0, none⟩) st.fRows.length c0) (st.fRows.set i text) :: rowA encI 1 3 (.slice (some ⟨g1, 0, none⟩) st.fSpace.fRefs.length c1) (st.fSpace.fRefs.set i ((st.fSpace.fRefs.getD i 0) + 1)) :: rowA encI 1 3 (.slice (some ⟨g2, 0, none⟩) st.fSpace.fLast.length c2) (st.fSpace.fLast.set i st.fTxg) :: rowA PtrD.cells 5 33 (.slice a4 st.fGone.length c4) st.fGone :: rowA PtrD.cells 5 33 (.slice a6 st.fDead.length c6) st.fDead :: F) _) := ⟨((HS2.out.erase 2).erase 1)⟩; refine ⟨HS.out, ?_⟩
        refine wh_one 3 (by kernel_rfl) ?_
        refine wo_storeBox rfl rfl rfl rfl (HF.ev rfl) (HF.ev rfl) HS2.out 1 rfl (cells_lit [.int .i64 ((ptrOf (i : Int) st.fTxg level text).fAt), .int .i64 ((ptrOf (i : Int) st.fTxg level text).fBirth), .int .i64 ((ptrOf (i : Int) st.fTxg level text).fSize), .int .i64 ((ptrOf (i : Int) st.fTxg level text).fSum), .int .i64 ((ptrOf (i : Int) st.fTxg level text).fLevel)] rfl rfl) (by kernel_rfl) ?_
        clear HS HS2; intro w64 HS2; replace HS2 : Bx (St w0 (boxA b10 5 33 (.agg #[.int .i64 ((ptrOf (i : Int) st.fTxg level text).fAt), .int .i64 ((ptrOf (i : Int) st.fTxg level text).fBirth), .int .i64 ((ptrOf (i : Int) st.fTxg level text).fSize), .int .i64 ((ptrOf (i : Int) st.fTxg level text).fSum), .int .i64 ((ptrOf (i : Int) st.fTxg level text).fLevel)]) :: boxA b3 5 33 (.agg #[.int .i64 ((ptrOf (i : Int) st.fTxg level text).fAt), .int .i64 ((ptrOf (i : Int) st.fTxg level text).fBirth), .int .i64 ((ptrOf (i : Int) st.fTxg level text).fSize), .int .i64 ((ptrOf (i : Int) st.fTxg level text).fSum), .int .i64 ((ptrOf (i : Int) st.fTxg level text).fLevel)]) :: boxA b2 8 65 (.agg #[.slice (some ⟨g0, 0, none⟩) st.fRows.length c0, .slice (some ⟨g1, 0, none⟩) st.fSpace.fRefs.length c1, .slice (some ⟨g2, 0, none⟩) st.fSpace.fLast.length c2, .int .i64 st.fTxg, .slice a4 st.fGone.length c4, .int .i64 st.fKeep, .slice a6 st.fDead.length c6, .bool st.fSame]) :: boxA b1 8 65 (.agg #[.slice (some ⟨g0, 0, none⟩) st.fRows.length c0, .slice (some ⟨g1, 0, none⟩) st.fSpace.fRefs.length c1, .slice (some ⟨g2, 0, none⟩) st.fSpace.fLast.length c2, .int .i64 st.fTxg, .slice a4 st.fGone.length c4, .int .i64 st.fKeep, .slice a6 st.fDead.length c6, .bool st.fSame]) :: rowA encS 1 9 (.slice (some ⟨g0, 0, none⟩) st.fRows.length c0) (st.fRows.set i text) :: rowA encI 1 3 (.slice (some ⟨g1, 0, none⟩) st.fSpace.fRefs.length c1) (st.fSpace.fRefs.set i ((st.fSpace.fRefs.getD i 0) + 1)) :: rowA encI 1 3 (.slice (some ⟨g2, 0, none⟩) st.fSpace.fLast.length c2) (st.fSpace.fLast.set i st.fTxg) :: rowA PtrD.cells 5 33 (.slice a4 st.fGone.length c4) st.fGone :: rowA PtrD.cells 5 33 (.slice a6 st.fDead.length c6) st.fDead :: F) _) := ⟨HS2⟩
        have HS : Bx (St w0 (boxA b10 5 33 (.agg #[.int .i64 ((ptrOf (i : Int) st.fTxg level text).fAt), .int .i64 ((ptrOf (i : Int) st.fTxg level text).fBirth), .int .i64 ((ptrOf (i : Int) st.fTxg level text).fSize), .int .i64 ((ptrOf (i : Int) st.fTxg level text).fSum), .int .i64 ((ptrOf (i : Int) st.fTxg level text).fLevel)]) :: boxA b1 8 65 (.agg #[.slice (some ⟨g0, 0, none⟩) st.fRows.length c0, .slice (some ⟨g1, 0, none⟩) st.fSpace.fRefs.length c1, .slice (some ⟨g2, 0, none⟩) st.fSpace.fLast.length c2, .int .i64 st.fTxg, .slice a4 st.fGone.length c4, .int .i64 st.fKeep, .slice a6 st.fDead.length c6, .bool st.fSame]) :: rowA encS 1 9 (.slice (some ⟨g0, 0, none⟩) st.fRows.length c0) (st.fRows.set i text) :: rowA encI 1 3 (.slice (some ⟨g1, 0, none⟩) st.fSpace.fRefs.length c1) (st.fSpace.fRefs.set i ((st.fSpace.fRefs.getD i 0) + 1)) :: rowA encI 1 3 (.slice (some ⟨g2, 0, none⟩) st.fSpace.fLast.length c2) (st.fSpace.fLast.set i st.fTxg) :: rowA PtrD.cells 5 33 (.slice a4 st.fGone.length c4) st.fGone :: rowA PtrD.cells 5 33 (.slice a6 st.fDead.length c6) st.fDead :: F) _) := ⟨((HS2.out.erase 2).erase 1)⟩; refine ⟨HS.out, ?_⟩
        refine wh_y 4 rfl (by kernel_rfl) (by kernel_rfl) (by kernel_rfl) (fun _ _ _ h => h) rfl HF rfl rfl (fun _ HS => (yl_assign rfl (HF.ev rfl))) HS.out ?_; clear HF; clear a; intro a HF
        refine wh_done (by kernel_rfl) ?_
        replace HS := HS2; clear HS2
        refine ex_then ?_
        refine wp_ret ?_
        refine bp_ret3 HF Try.results83 (HF.resBox rfl (HS.out.box 2 rfl) (by kernel_rfl)) (HF.resBox rfl (HS.out.box 1 rfl) (by kernel_rfl)) (HF.res rfl) ?_
        exact .inr ⟨i, hi64, hws, .inr ⟨hpk, rfl, HS.out.tail.tail.tail.tail⟩⟩

end Go.Proofs.Ytfijfjjleelphaa
