/- StoreWrite of both: walked. -/
import Derived.Test.YtfijfjjleelphaaSwC
import Derived.Test.YtfijfjjleelphaaStoreN
import Derived.Test.YtfijfjjleelphaaStoreOkI
import Derived.Test.YtfijfjjleelphaaStoreOkT
namespace Go.Proofs.Ytfijfjjleelphaa
open Go.RowKit

/-- A store of which a row was written. -/
theorem own_put {W w : World} {st : StoreD} {i : Nat} {rows : List ByteArray} {a0 : Option Addr} {c0 : Nat} {a1 : Option Addr} {c1 : Nat} {a2 : Option Addr} {c2 : Nat} {a4 : Option Addr} {c4 : Nat} {a6 : Option Addr} {c6 : Nat} {F : List Asr} (hl : rows.length = st.fRows.length)
    (h : St W (rowA encS 1 9 (.slice a0 st.fRows.length c0) rows :: rowA encI 1 3 (.slice a1 st.fSpace.fRefs.length c1) (st.fSpace.fRefs.set i (st.fSpace.fRefs.getD i 0 + 1)) :: rowA encI 1 3 (.slice a2 st.fSpace.fLast.length c2) (st.fSpace.fLast.set i st.fTxg) :: rowA PtrD.cells 5 33 (.slice a4 st.fGone.length c4) st.fGone :: rowA PtrD.cells 5 33 (.slice a6 st.fDead.length c6) st.fDead :: F) w) :
    StoreD.Own w W.heap.size w.heap.size (.agg #[.slice a0 st.fRows.length c0, .slice a1 st.fSpace.fRefs.length c1, .slice a2 st.fSpace.fLast.length c2, .int .i64 st.fTxg, .slice a4 st.fGone.length c4, .int .i64 st.fKeep, .slice a6 st.fDead.length c6, .bool st.fSame]) (st.putAt i rows) := by
  have e1 : (st.putAt i rows).fSpace.fRefs.length = st.fSpace.fRefs.length := by simp [StoreD.putAt]
  have e2 : (st.putAt i rows).fSpace.fLast.length = st.fSpace.fLast.length := by simp [StoreD.putAt]
  have e0 : (st.putAt i rows).fRows.length = st.fRows.length := hl
  have := StoreD.st_own (x := st.putAt i rows) (W := W) (w := w) (a0 := a0) (c0 := c0) (a1 := a1) (c1 := c1) (a2 := a2) (c2 := c2) (a4 := a4) (c4 := c4) (a6 := a6) (c6 := c6) (F := F) (by rw [e0, e1, e2]; exact h)
  rw [e0, e1, e2] at this
  exact this
theorem OkSp.all {s : SpaceD} (h : OkSp s) (i : Nat) : 0 ≤ s.fRefs.getD i 0 ∧ s.fRefs.getD i 0 ≤ 900 := by
  by_cases hi : i < 64
  · have := h.each i hi; omega
  · rw [show s.fRefs.getD i 0 = 0 by simp [List.getD, List.getElem?_eq_none (show s.fRefs.length ≤ i by rw [h.refs]; omega)]]; omega

set_option maxHeartbeats 2000000 in
set_option maxRecDepth 100000 in
theorem implStoreWrite_any (v : Value) (st : StoreD) (text : ByteArray) (level : Int) (B B1 : Nat) (w0 : World) (hf : st.Fit) (hi64 : -9223372036854775808 ≤ st.fTxg) (hs : text.size ≤ 9223372036854775806) (ho : StoreD.Own w0 B B1 v st) : Calls Try.prog 27 #[v, .string text, .int .i64 level] w0 fun e w' => ∃ v', e = .returned (.tuple #[v', .agg #[.int .i64 (st.wptr text level).fAt, .int .i64 (st.wptr text level).fBirth, .int .i64 (st.wptr text level).fSize, .int .i64 (st.wptr text level).fSum, .int .i64 (st.wptr text level).fLevel], .bool (st.mayW text level)]) ∧ StoreD.Own w' w0.heap.size w'.heap.size v' (st.wrote text level) ∧ Below w0.heap.size w0 w' := by
  have HR := Bx.mk ho.rd
  have HO := Bx.mk ho
  obtain ⟨a0, c0, a1, c1, a2, c2, a4, c4, a6, c6, rfl, _⟩ := ho
  have HS := Bx.mk (St.start w0)
  refine wc_enter Try.func27 rfl Try.ntmps27 [(0, .agg #[.slice a0 st.fRows.length c0, .slice a1 st.fSpace.fRefs.length c1, .slice a2 st.fSpace.fLast.length c2, .int .i64 st.fTxg, .slice a4 st.fGone.length c4, .int .i64 st.fKeep, .slice a6 st.fDead.length c6, .bool st.fSame]), (1, .string text), (2, .int .i64 level)] ⟨rfl, rfl, rfl, trivial⟩ rfl ?_; intro a HF
  refine wp_seq ?_
  refine wp_region_lit ?_
  refine wl_box rfl HF rfl (HF.ev rfl) (Z := [.slice a0 st.fRows.length c0, .slice a1 st.fSpace.fRefs.length c1, .slice a2 st.fSpace.fLast.length c2, .int .i64 st.fTxg, .slice a4 st.fGone.length c4, .int .i64 st.fKeep, .slice a6 st.fDead.length c6, .bool st.fSame]) rfl rfl rfl rfl HS.out ?_; clear HF HS; clear a; intro a w1 b1 HF HS; replace HS := Bx.mk HS
  refine wl_alloc rfl HF rfl rfl rfl (Z := [.slice none 0 0, .slice none 0 0, .slice none 0 0, .int .i64 0, .slice none 0 0, .int .i64 0, .slice none 0 0, .bool false]) (by kernel_rfl) rfl HS.out ?_; clear HF HS; clear a; intro a w2 b2 HF HS; replace HS := Bx.mk HS
  refine wl_alloc rfl HF rfl rfl rfl (Z := [.int .i64 0, .int .i64 0, .int .i64 0, .int .i64 0, .int .i64 0]) (by kernel_rfl) rfl HS.out ?_; clear HF HS; clear a; intro a w3 b3 HF HS; replace HS := Bx.mk HS
  refine wl_y rfl HF rfl rfl (yl_assign rfl (HF.ev rfl)) ?_; clear HF; clear a; intro a HF
  refine wpList_nil ?_
  refine ex_then ?_
  refine wp_seq ?_
  refine wp_seq ?_
  refine wp_region_lit ?_
  refine wl_y rfl HF rfl rfl (yl_loadR (cs := [.slice a0 st.fRows.length c0, .slice a1 st.fSpace.fRefs.length c1, .slice a2 st.fSpace.fLast.length c2, .int .i64 st.fTxg, .slice a4 st.fGone.length c4, .int .i64 st.fKeep, .slice a6 st.fDead.length c6, .bool st.fSame]) rfl (HF.ev rfl) ((HS.out.box 2 rfl).sub 0 8) (by kernel_rfl)) ?_; clear HF; clear a; intro a HF
  refine wl_callB rfl HF rfl (enter_of Try.func88 (by kernel_rfl) rfl) (args := #[.agg #[.slice a0 st.fRows.length c0, .slice a1 st.fSpace.fRefs.length c1, .slice a2 st.fSpace.fLast.length c2, .int .i64 st.fTxg, .slice a4 st.fGone.length c4, .int .i64 st.fKeep, .slice a6 st.fDead.length c6, .bool st.fSame]]) rfl (v := .bool st.ok) (implStoreOk_any _ st _ (HR.out.below HS.out.bel) hf) rfl rfl HS.out ?_; clear HF HS; clear a; intro w4 a HS HF; replace HS := Bx.mk HS
  refine wl_y rfl HF rfl rfl (yl_not rfl (HF.ev rfl)) ?_; clear HF; clear a; intro a HF
  refine wl_y rfl HF rfl rfl (yl_move rfl (HF.ev rfl)) ?_; clear HF; clear a; intro a HF
  refine HF.cases 15 rfl (fun cc1 HF1 => ?_) (fun cc1 HF1 => ?_)
  · clear HF; have HF := HF1; clear HF1
    have hok : st.ok = false := by simpa using cc1
    refine wl_skip HF rfl rfl rfl rfl rfl rfl ?_; clear HF; clear a; intro a HF
    refine wl_skip HF rfl rfl rfl rfl rfl rfl ?_; clear HF; clear a; intro a HF
    refine wl_skip HF rfl rfl rfl rfl rfl rfl ?_; clear HF; clear a; intro a HF
    refine wl_y rfl HF rfl rfl (yl_pick_t rfl (HF.ev rfl) (HF.ev rfl)) ?_; clear HF; clear a; intro a HF
    refine wl_y rfl HF rfl rfl (yl_move rfl (HF.ev rfl)) ?_; clear HF; clear a; intro a HF
    refine wl_skip HF rfl rfl rfl rfl rfl rfl ?_; clear HF; clear a; intro a HF
    refine wl_skip HF rfl rfl rfl rfl rfl rfl ?_; clear HF; clear a; intro a HF
    refine wl_skip HF rfl rfl rfl rfl rfl rfl ?_; clear HF; clear a; intro a HF
    refine wl_y rfl HF rfl rfl (yl_pick_t rfl (HF.ev rfl) (HF.ev rfl)) ?_; clear HF; clear a; intro a HF
    refine wpList_nil ?_
    refine ex_then ?_
    refine wc_true HF rfl ?_
    refine wp_seq ?_
    refine wp_region_lit ?_
    refine wl_y rfl HF rfl rfl (yl_build HF rfl (ps := []) rfl (cs := #[.slice none 0 0, .slice none 0 0, .slice none 0 0, .int .i64 0, .slice none 0 0, .int .i64 0, .slice none 0 0, .bool false]) (by kernel_rfl)) ?_; clear HF; clear a; intro a HF
    refine wl_y rfl HF rfl rfl (yl_build HF rfl (ps := []) rfl (cs := #[.int .i64 0, .int .i64 0, .int .i64 0, .int .i64 0, .int .i64 0]) (by kernel_rfl)) ?_; clear HF; clear a; intro a HF
    refine wl_storeBox rfl HF rfl rfl (HF.ev rfl) (HF.ev rfl) HS.out 1 rfl (cells_lit [.slice none 0 0, .slice none 0 0, .slice none 0 0, .int .i64 0, .slice none 0 0, .int .i64 0, .slice none 0 0, .bool false] rfl rfl) (by kernel_rfl) ?_; clear HS; intro w5 HS; replace HS := Bx.mk HS
    have HS : Bx (St w0 ([boxA b3 5 33 (.agg #[.int .i64 0, .int .i64 0, .int .i64 0, .int .i64 0, .int .i64 0]), boxA b2 8 65 (.agg #[.slice none 0 0, .slice none 0 0, .slice none 0 0, .int .i64 0, .slice none 0 0, .int .i64 0, .slice none 0 0, .bool false]), boxA b1 8 65 (.agg #[.slice a0 st.fRows.length c0, .slice a1 st.fSpace.fRefs.length c1, .slice a2 st.fSpace.fLast.length c2, .int .i64 st.fTxg, .slice a4 st.fGone.length c4, .int .i64 st.fKeep, .slice a6 st.fDead.length c6, .bool st.fSame])]) _) := HS
    refine wl_storeBox rfl HF rfl rfl (HF.ev rfl) (HF.ev rfl) HS.out 0 rfl (cells_lit [.int .i64 0, .int .i64 0, .int .i64 0, .int .i64 0, .int .i64 0] rfl rfl) (by kernel_rfl) ?_; clear HS; intro w6 HS; replace HS := Bx.mk HS
    have HS : Bx (St w0 ([boxA b3 5 33 (.agg #[.int .i64 0, .int .i64 0, .int .i64 0, .int .i64 0, .int .i64 0]), boxA b2 8 65 (.agg #[.slice none 0 0, .slice none 0 0, .slice none 0 0, .int .i64 0, .slice none 0 0, .int .i64 0, .slice none 0 0, .bool false]), boxA b1 8 65 (.agg #[.slice a0 st.fRows.length c0, .slice a1 st.fSpace.fRefs.length c1, .slice a2 st.fSpace.fLast.length c2, .int .i64 st.fTxg, .slice a4 st.fGone.length c4, .int .i64 st.fKeep, .slice a6 st.fDead.length c6, .bool st.fSame])]) _) := HS
    refine wl_y rfl HF rfl rfl (yl_assign rfl (HF.ev rfl)) ?_; clear HF; clear a; intro a HF
    refine wpList_nil ?_
    refine ex_then ?_
    refine wp_ret ?_
    refine ex_then_ret ?_
    refine bp_ret3 HF Try.results27 (HF.resBox rfl (HS.out.box 1 rfl) (by kernel_rfl)) (HF.resBox rfl (HS.out.box 0 rfl) (by kernel_rfl)) (HF.res rfl) ?_
    obtain ⟨hm, hwr, hwp⟩ := W_not (st := st) (text := text) (level := level) (by rw [hok]; rfl)
    exact ⟨_, by rw [hm, hwp]; rfl, by rw [hwr]; exact own_zero _ _ _, HS.out.bel⟩
  · clear HF; have HF := HF1; clear HF1
    have hok : st.ok = true := by simpa using cc1
    refine wl_yg HF rfl rfl rfl rfl rfl (yl_move rfl (HF.ev rfl)) ?_; clear HF; clear a; intro a HF
    refine wl_callBg HF rfl rfl rfl rfl (enter_of Try.func59 (by kernel_rfl) rfl) (args := #[.string text]) rfl (v := .bool (inB (text.size : Int) 1 128)) (isBlock_any text _ (by omega)) rfl rfl HS.out ?_; clear HF HS; clear a; intro w7 a HS HF; replace HS := Bx.mk HS
    refine wl_yg HF rfl rfl rfl rfl rfl (yl_not rfl (HF.ev rfl)) ?_; clear HF; clear a; intro a HF
    refine wl_y rfl HF rfl rfl (yl_pick_f rfl (HF.ev rfl) (HF.ev rfl)) ?_; clear HF; clear a; intro a HF
    refine wl_y rfl HF rfl rfl (yl_move rfl (HF.ev rfl)) ?_; clear HF; clear a; intro a HF
    refine HF.cases 20 rfl (fun cc2 HF1 => ?_) (fun cc2 HF1 => ?_)
    · clear HF; have HF := HF1; clear HF1
      have hsz : inB (text.size : Int) 1 128 = false := by simpa using cc2
      refine wl_skip HF rfl rfl rfl rfl rfl rfl ?_; clear HF; clear a; intro a HF
      refine wl_skip HF rfl rfl rfl rfl rfl rfl ?_; clear HF; clear a; intro a HF
      refine wl_skip HF rfl rfl rfl rfl rfl rfl ?_; clear HF; clear a; intro a HF
      refine wl_y rfl HF rfl rfl (yl_pick_t rfl (HF.ev rfl) (HF.ev rfl)) ?_; clear HF; clear a; intro a HF
      refine wpList_nil ?_
      refine ex_then ?_
      refine wc_true HF rfl ?_
      refine wp_seq ?_
      refine wp_region_lit ?_
      refine wl_y rfl HF rfl rfl (yl_build HF rfl (ps := []) rfl (cs := #[.slice none 0 0, .slice none 0 0, .slice none 0 0, .int .i64 0, .slice none 0 0, .int .i64 0, .slice none 0 0, .bool false]) (by kernel_rfl)) ?_; clear HF; clear a; intro a HF
      refine wl_y rfl HF rfl rfl (yl_build HF rfl (ps := []) rfl (cs := #[.int .i64 0, .int .i64 0, .int .i64 0, .int .i64 0, .int .i64 0]) (by kernel_rfl)) ?_; clear HF; clear a; intro a HF
      refine wl_storeBox rfl HF rfl rfl (HF.ev rfl) (HF.ev rfl) HS.out 1 rfl (cells_lit [.slice none 0 0, .slice none 0 0, .slice none 0 0, .int .i64 0, .slice none 0 0, .int .i64 0, .slice none 0 0, .bool false] rfl rfl) (by kernel_rfl) ?_; clear HS; intro w8 HS; replace HS := Bx.mk HS
      have HS : Bx (St w0 ([boxA b3 5 33 (.agg #[.int .i64 0, .int .i64 0, .int .i64 0, .int .i64 0, .int .i64 0]), boxA b2 8 65 (.agg #[.slice none 0 0, .slice none 0 0, .slice none 0 0, .int .i64 0, .slice none 0 0, .int .i64 0, .slice none 0 0, .bool false]), boxA b1 8 65 (.agg #[.slice a0 st.fRows.length c0, .slice a1 st.fSpace.fRefs.length c1, .slice a2 st.fSpace.fLast.length c2, .int .i64 st.fTxg, .slice a4 st.fGone.length c4, .int .i64 st.fKeep, .slice a6 st.fDead.length c6, .bool st.fSame])]) _) := HS
      refine wl_storeBox rfl HF rfl rfl (HF.ev rfl) (HF.ev rfl) HS.out 0 rfl (cells_lit [.int .i64 0, .int .i64 0, .int .i64 0, .int .i64 0, .int .i64 0] rfl rfl) (by kernel_rfl) ?_; clear HS; intro w9 HS; replace HS := Bx.mk HS
      have HS : Bx (St w0 ([boxA b3 5 33 (.agg #[.int .i64 0, .int .i64 0, .int .i64 0, .int .i64 0, .int .i64 0]), boxA b2 8 65 (.agg #[.slice none 0 0, .slice none 0 0, .slice none 0 0, .int .i64 0, .slice none 0 0, .int .i64 0, .slice none 0 0, .bool false]), boxA b1 8 65 (.agg #[.slice a0 st.fRows.length c0, .slice a1 st.fSpace.fRefs.length c1, .slice a2 st.fSpace.fLast.length c2, .int .i64 st.fTxg, .slice a4 st.fGone.length c4, .int .i64 st.fKeep, .slice a6 st.fDead.length c6, .bool st.fSame])]) _) := HS
      refine wl_y rfl HF rfl rfl (yl_assign rfl (HF.ev rfl)) ?_; clear HF; clear a; intro a HF
      refine wpList_nil ?_
      refine ex_then ?_
      refine wp_ret ?_
      refine ex_then_ret ?_
      refine bp_ret3 HF Try.results27 (HF.resBox rfl (HS.out.box 1 rfl) (by kernel_rfl)) (HF.resBox rfl (HS.out.box 0 rfl) (by kernel_rfl)) (HF.res rfl) ?_
      obtain ⟨hm, hwr, hwp⟩ := W_not (st := st) (text := text) (level := level) (by rw [hok, hsz]; rfl)
      exact ⟨_, by rw [hm, hwp]; rfl, by rw [hwr]; exact own_zero _ _ _, HS.out.bel⟩
    · clear HF; have HF := HF1; clear HF1
      have hsz : inB (text.size : Int) 1 128 = true := by simpa using cc2
      refine wl_yg HF rfl rfl rfl rfl rfl (yl_move rfl (HF.ev rfl)) ?_; clear HF; clear a; intro a HF
      refine wl_callBg HF rfl rfl rfl rfl (enter_of Try.func65 (by kernel_rfl) rfl) (args := #[.int .i64 level, .int .i64 0, .int .i64 2]) rfl (v := .bool (inB level 0 2)) (((within_any level 0 2 _).mono fun _ _ h => ⟨h.1, h.2 ▸ Below.refl _ _⟩)) rfl rfl HS.out ?_; clear HF HS; clear a; intro w10 a HS HF; replace HS := Bx.mk HS
      refine wl_yg HF rfl rfl rfl rfl rfl (yl_not rfl (HF.ev rfl)) ?_; clear HF; clear a; intro a HF
      refine wl_y rfl HF rfl rfl (yl_pick_f rfl (HF.ev rfl) (HF.ev rfl)) ?_; clear HF; clear a; intro a HF
      refine wpList_nil ?_
      refine ex_then ?_
      refine HF.cases 24 rfl (fun cc3 HF1 => ?_) (fun cc3 HF1 => ?_)
      · clear HF; have HF := HF1; clear HF1
        have hlv : inB level 0 2 = false := by simpa using cc3
        refine wc_true HF rfl ?_
        refine wp_seq ?_
        refine wp_region_lit ?_
        refine wl_y rfl HF rfl rfl (yl_build HF rfl (ps := []) rfl (cs := #[.slice none 0 0, .slice none 0 0, .slice none 0 0, .int .i64 0, .slice none 0 0, .int .i64 0, .slice none 0 0, .bool false]) (by kernel_rfl)) ?_; clear HF; clear a; intro a HF
        refine wl_y rfl HF rfl rfl (yl_build HF rfl (ps := []) rfl (cs := #[.int .i64 0, .int .i64 0, .int .i64 0, .int .i64 0, .int .i64 0]) (by kernel_rfl)) ?_; clear HF; clear a; intro a HF
        refine wl_storeBox rfl HF rfl rfl (HF.ev rfl) (HF.ev rfl) HS.out 1 rfl (cells_lit [.slice none 0 0, .slice none 0 0, .slice none 0 0, .int .i64 0, .slice none 0 0, .int .i64 0, .slice none 0 0, .bool false] rfl rfl) (by kernel_rfl) ?_; clear HS; intro w11 HS; replace HS := Bx.mk HS
        have HS : Bx (St w0 ([boxA b3 5 33 (.agg #[.int .i64 0, .int .i64 0, .int .i64 0, .int .i64 0, .int .i64 0]), boxA b2 8 65 (.agg #[.slice none 0 0, .slice none 0 0, .slice none 0 0, .int .i64 0, .slice none 0 0, .int .i64 0, .slice none 0 0, .bool false]), boxA b1 8 65 (.agg #[.slice a0 st.fRows.length c0, .slice a1 st.fSpace.fRefs.length c1, .slice a2 st.fSpace.fLast.length c2, .int .i64 st.fTxg, .slice a4 st.fGone.length c4, .int .i64 st.fKeep, .slice a6 st.fDead.length c6, .bool st.fSame])]) _) := HS
        refine wl_storeBox rfl HF rfl rfl (HF.ev rfl) (HF.ev rfl) HS.out 0 rfl (cells_lit [.int .i64 0, .int .i64 0, .int .i64 0, .int .i64 0, .int .i64 0] rfl rfl) (by kernel_rfl) ?_; clear HS; intro w12 HS; replace HS := Bx.mk HS
        have HS : Bx (St w0 ([boxA b3 5 33 (.agg #[.int .i64 0, .int .i64 0, .int .i64 0, .int .i64 0, .int .i64 0]), boxA b2 8 65 (.agg #[.slice none 0 0, .slice none 0 0, .slice none 0 0, .int .i64 0, .slice none 0 0, .int .i64 0, .slice none 0 0, .bool false]), boxA b1 8 65 (.agg #[.slice a0 st.fRows.length c0, .slice a1 st.fSpace.fRefs.length c1, .slice a2 st.fSpace.fLast.length c2, .int .i64 st.fTxg, .slice a4 st.fGone.length c4, .int .i64 st.fKeep, .slice a6 st.fDead.length c6, .bool st.fSame])]) _) := HS
        refine wl_y rfl HF rfl rfl (yl_assign rfl (HF.ev rfl)) ?_; clear HF; clear a; intro a HF
        refine wpList_nil ?_
        refine ex_then ?_
        refine wp_ret ?_
        refine ex_then_ret ?_
        refine bp_ret3 HF Try.results27 (HF.resBox rfl (HS.out.box 1 rfl) (by kernel_rfl)) (HF.resBox rfl (HS.out.box 0 rfl) (by kernel_rfl)) (HF.res rfl) ?_
        obtain ⟨hm, hwr, hwp⟩ := W_not (st := st) (text := text) (level := level) (by rw [hok, hsz, hlv]; rfl)
        exact ⟨_, by rw [hm, hwp]; rfl, by rw [hwr]; exact own_zero _ _ _, HS.out.bel⟩
      · clear HF; have HF := HF1; clear HF1
        have hlv : inB level 0 2 = true := by simpa using cc3
        refine wc_false HF rfl ?_
        refine wp_skip ?_
        refine ex_then ?_
        refine wp_seq ?_
        refine wp_region_lit ?_
        refine wl_y rfl HF rfl rfl (yl_loadR (cs := [.slice a0 st.fRows.length c0, .slice a1 st.fSpace.fRefs.length c1, .slice a2 st.fSpace.fLast.length c2, .int .i64 st.fTxg, .slice a4 st.fGone.length c4, .int .i64 st.fKeep, .slice a6 st.fDead.length c6, .bool st.fSame]) rfl (HF.ev rfl) ((HS.out.box 2 rfl).sub 0 8) (by kernel_rfl)) ?_; clear HF; clear a; intro a HF
        refine wl_call rfl HF rfl (enter_of Try.func89 (by kernel_rfl) rfl) (args := #[.agg #[.slice a0 st.fRows.length c0, .slice a1 st.fSpace.fRefs.length c1, .slice a2 st.fSpace.fLast.length c2, .int .i64 st.fTxg, .slice a4 st.fGone.length c4, .int .i64 st.fKeep, .slice a6 st.fDead.length c6, .bool st.fSame]]) rfl (storeClone_any _ st _ hf (HR.out.below HS.out.bel)) rfl rfl ?_
        rintro _ w13 ⟨_, rfl, ho, hb⟩
        obtain ⟨d0, f0, d1, f1, d2, f2, d4, f4, d6, f6, rfl, hn⟩ := StoreD.own_st ho hb
        refine ⟨_, rfl, ?_⟩; replace HS := Bx.mk (HS.out.add hn); clear ho hb hn HF; clear a; intro a HF
        have HS : Bx (St w0 ([rowA encS 1 9 (.slice d0 st.fRows.length f0) st.fRows, rowA encI 1 3 (.slice d1 st.fSpace.fRefs.length f1) st.fSpace.fRefs, rowA encI 1 3 (.slice d2 st.fSpace.fLast.length f2) st.fSpace.fLast, rowA PtrD.cells 5 33 (.slice d4 st.fGone.length f4) st.fGone, rowA PtrD.cells 5 33 (.slice d6 st.fDead.length f6) st.fDead, boxA b3 5 33 (.agg #[.int .i64 0, .int .i64 0, .int .i64 0, .int .i64 0, .int .i64 0]), boxA b2 8 65 (.agg #[.slice none 0 0, .slice none 0 0, .slice none 0 0, .int .i64 0, .slice none 0 0, .int .i64 0, .slice none 0 0, .bool false]), boxA b1 8 65 (.agg #[.slice a0 st.fRows.length c0, .slice a1 st.fSpace.fRefs.length c1, .slice a2 st.fSpace.fLast.length c2, .int .i64 st.fTxg, .slice a4 st.fGone.length c4, .int .i64 st.fKeep, .slice a6 st.fDead.length c6, .bool st.fSame])]) _) := HS
        have hOK := StoreD.ok_spec hok
        have hSP := SpaceD.ok_spec hOK.space
        refine wl_alloc rfl HF rfl rfl rfl (Z := [.slice none 0 0, .slice none 0 0, .slice none 0 0, .int .i64 0, .slice none 0 0, .int .i64 0, .slice none 0 0, .bool false]) (by kernel_rfl) rfl HS.out ?_; clear HF HS; clear a; intro a w14 b4 HF HS; replace HS := Bx.mk HS
        refine wl_storeBox rfl HF rfl rfl (HF.ev rfl) (HF.ev rfl) HS.out 0 rfl (cells_lit [.slice d0 st.fRows.length f0, .slice d1 st.fSpace.fRefs.length f1, .slice d2 st.fSpace.fLast.length f2, .int .i64 st.fTxg, .slice d4 st.fGone.length f4, .int .i64 st.fKeep, .slice d6 st.fDead.length f6, .bool st.fSame] rfl rfl) (by kernel_rfl) ?_; clear HS; intro w15 HS; replace HS := Bx.mk HS
        have HS : Bx (St w0 ([boxA b4 8 65 (.agg #[.slice d0 st.fRows.length f0, .slice d1 st.fSpace.fRefs.length f1, .slice d2 st.fSpace.fLast.length f2, .int .i64 st.fTxg, .slice d4 st.fGone.length f4, .int .i64 st.fKeep, .slice d6 st.fDead.length f6, .bool st.fSame]), rowA encS 1 9 (.slice d0 st.fRows.length f0) st.fRows, rowA encI 1 3 (.slice d1 st.fSpace.fRefs.length f1) st.fSpace.fRefs, rowA encI 1 3 (.slice d2 st.fSpace.fLast.length f2) st.fSpace.fLast, rowA PtrD.cells 5 33 (.slice d4 st.fGone.length f4) st.fGone, rowA PtrD.cells 5 33 (.slice d6 st.fDead.length f6) st.fDead, boxA b3 5 33 (.agg #[.int .i64 0, .int .i64 0, .int .i64 0, .int .i64 0, .int .i64 0]), boxA b2 8 65 (.agg #[.slice none 0 0, .slice none 0 0, .slice none 0 0, .int .i64 0, .slice none 0 0, .int .i64 0, .slice none 0 0, .bool false]), boxA b1 8 65 (.agg #[.slice a0 st.fRows.length c0, .slice a1 st.fSpace.fRefs.length c1, .slice a2 st.fSpace.fLast.length c2, .int .i64 st.fTxg, .slice a4 st.fGone.length c4, .int .i64 st.fKeep, .slice a6 st.fDead.length c6, .bool st.fSame])]) _) := HS
        refine wpList_nil ?_
        refine ex_then ?_
        refine wp_seq ?_
        refine wp_region_lit ?_
        refine wl_y rfl HF rfl rfl (yl_move rfl (HF.ev rfl)) ?_; clear HF; clear a; intro a HF
        refine wl_y rfl HF rfl rfl (yl_move rfl (HF.ev rfl)) ?_; clear HF; clear a; intro a HF
        refine wl_call rfl HF rfl (enter_of Try.func90 (by kernel_rfl) rfl) (args := #[.pointer (some ⟨b4, 0, none⟩), .string text, .int .i64 level]) rfl (write_any w0 _ b4 d0 f0 d1 f1 d2 f2 d4 f4 d6 f6 st text level _ HS.out hOK.rows hSP.refs hSP.last (by omega) hSP.all) rfl rfl ?_
        rintro _ w16 (⟨hwa, rfl, hs1⟩ | ⟨i, hi6, hwa, rfl, ⟨hlk, hs1⟩ | ⟨hlk, hs1⟩⟩)
        · skip
          obtain ⟨hm, hwr, hwp⟩ := W_none hwa
          refine ⟨_, rfl, ?_⟩; replace HS := Bx.mk hs1; clear hs1 HF; clear a; intro a HF
          have HS : Bx (St w0 ([boxA b4 8 65 (.agg #[.slice d0 st.fRows.length f0, .slice d1 st.fSpace.fRefs.length f1, .slice d2 st.fSpace.fLast.length f2, .int .i64 st.fTxg, .slice d4 st.fGone.length f4, .int .i64 st.fKeep, .slice d6 st.fDead.length f6, .bool st.fSame]), rowA encS 1 9 (.slice d0 st.fRows.length f0) st.fRows, rowA encI 1 3 (.slice d1 st.fSpace.fRefs.length f1) st.fSpace.fRefs, rowA encI 1 3 (.slice d2 st.fSpace.fLast.length f2) st.fSpace.fLast, rowA PtrD.cells 5 33 (.slice d4 st.fGone.length f4) st.fGone, rowA PtrD.cells 5 33 (.slice d6 st.fDead.length f6) st.fDead, boxA b3 5 33 (.agg #[.int .i64 0, .int .i64 0, .int .i64 0, .int .i64 0, .int .i64 0]), boxA b2 8 65 (.agg #[.slice none 0 0, .slice none 0 0, .slice none 0 0, .int .i64 0, .slice none 0 0, .int .i64 0, .slice none 0 0, .bool false]), boxA b1 8 65 (.agg #[.slice a0 st.fRows.length c0, .slice a1 st.fSpace.fRefs.length c1, .slice a2 st.fSpace.fLast.length c2, .int .i64 st.fTxg, .slice a4 st.fGone.length c4, .int .i64 st.fKeep, .slice a6 st.fDead.length c6, .bool st.fSame])]) _) := HS
          refine wl_y rfl HF rfl rfl (yl_move rfl (HF.ev rfl)) ?_; clear HF; clear a; intro a HF
          refine wl_y rfl HF rfl rfl (yl_extract rfl (HF.ev rfl) rfl) ?_; clear HF; clear a; intro a HF
          refine wl_y rfl HF rfl rfl (yl_extract rfl (HF.ev rfl) rfl) ?_; clear HF; clear a; intro a HF
          refine wl_alloc rfl HF rfl rfl rfl (Z := [.int .i64 0, .int .i64 0, .int .i64 0, .int .i64 0, .int .i64 0]) (by kernel_rfl) rfl HS.out ?_; clear HF HS; clear a; intro a w17 b5 HF HS; replace HS := Bx.mk HS
          refine wl_storeBox rfl HF rfl rfl (HF.ev rfl) (HF.ev rfl) HS.out 0 rfl (cells_lit [.int .i64 0, .int .i64 0, .int .i64 0, .int .i64 0, .int .i64 0] rfl rfl) (by kernel_rfl) ?_; clear HS; intro w18 HS; replace HS := Bx.mk HS
          have HS : Bx (St w0 ([boxA b5 5 33 (.agg #[.int .i64 0, .int .i64 0, .int .i64 0, .int .i64 0, .int .i64 0]), boxA b4 8 65 (.agg #[.slice d0 st.fRows.length f0, .slice d1 st.fSpace.fRefs.length f1, .slice d2 st.fSpace.fLast.length f2, .int .i64 st.fTxg, .slice d4 st.fGone.length f4, .int .i64 st.fKeep, .slice d6 st.fDead.length f6, .bool st.fSame]), rowA encS 1 9 (.slice d0 st.fRows.length f0) st.fRows, rowA encI 1 3 (.slice d1 st.fSpace.fRefs.length f1) st.fSpace.fRefs, rowA encI 1 3 (.slice d2 st.fSpace.fLast.length f2) st.fSpace.fLast, rowA PtrD.cells 5 33 (.slice d4 st.fGone.length f4) st.fGone, rowA PtrD.cells 5 33 (.slice d6 st.fDead.length f6) st.fDead, boxA b3 5 33 (.agg #[.int .i64 0, .int .i64 0, .int .i64 0, .int .i64 0, .int .i64 0]), boxA b2 8 65 (.agg #[.slice none 0 0, .slice none 0 0, .slice none 0 0, .int .i64 0, .slice none 0 0, .int .i64 0, .slice none 0 0, .bool false]), boxA b1 8 65 (.agg #[.slice a0 st.fRows.length c0, .slice a1 st.fSpace.fRefs.length c1, .slice a2 st.fSpace.fLast.length c2, .int .i64 st.fTxg, .slice a4 st.fGone.length c4, .int .i64 st.fKeep, .slice a6 st.fDead.length c6, .bool st.fSame])]) _) := HS
          refine wl_y rfl HF rfl rfl (yl_assign rfl (HF.ev rfl)) ?_; clear HF; clear a; intro a HF
          refine wpList_nil ?_
          refine ex_then ?_
          refine wp_seq ?_
          refine wp_seq ?_
          refine wp_region_lit ?_
          refine wl_y rfl HF rfl rfl (yl_move rfl (HF.ev rfl)) ?_; clear HF; clear a; intro a HF
          refine wl_y rfl HF rfl rfl (yl_not rfl (HF.ev rfl)) ?_; clear HF; clear a; intro a HF
          refine wpList_nil ?_
          refine ex_then ?_
          refine wc_true HF rfl ?_
          refine wp_seq ?_
          refine wp_region_lit ?_
          refine wl_y rfl HF rfl rfl (yl_build HF rfl (ps := []) rfl (cs := #[.slice none 0 0, .slice none 0 0, .slice none 0 0, .int .i64 0, .slice none 0 0, .int .i64 0, .slice none 0 0, .bool false]) (by kernel_rfl)) ?_; clear HF; clear a; intro a HF
          refine wl_y rfl HF rfl rfl (yl_build HF rfl (ps := []) rfl (cs := #[.int .i64 0, .int .i64 0, .int .i64 0, .int .i64 0, .int .i64 0]) (by kernel_rfl)) ?_; clear HF; clear a; intro a HF
          refine wl_storeBox rfl HF rfl rfl (HF.ev rfl) (HF.ev rfl) HS.out 8 rfl (cells_lit [.slice none 0 0, .slice none 0 0, .slice none 0 0, .int .i64 0, .slice none 0 0, .int .i64 0, .slice none 0 0, .bool false] rfl rfl) (by kernel_rfl) ?_; clear HS; intro w19 HS; replace HS := Bx.mk HS
          have HS : Bx (St w0 ([boxA b5 5 33 (.agg #[.int .i64 0, .int .i64 0, .int .i64 0, .int .i64 0, .int .i64 0]), boxA b4 8 65 (.agg #[.slice d0 st.fRows.length f0, .slice d1 st.fSpace.fRefs.length f1, .slice d2 st.fSpace.fLast.length f2, .int .i64 st.fTxg, .slice d4 st.fGone.length f4, .int .i64 st.fKeep, .slice d6 st.fDead.length f6, .bool st.fSame]), rowA encS 1 9 (.slice d0 st.fRows.length f0) st.fRows, rowA encI 1 3 (.slice d1 st.fSpace.fRefs.length f1) st.fSpace.fRefs, rowA encI 1 3 (.slice d2 st.fSpace.fLast.length f2) st.fSpace.fLast, rowA PtrD.cells 5 33 (.slice d4 st.fGone.length f4) st.fGone, rowA PtrD.cells 5 33 (.slice d6 st.fDead.length f6) st.fDead, boxA b3 5 33 (.agg #[.int .i64 0, .int .i64 0, .int .i64 0, .int .i64 0, .int .i64 0]), boxA b2 8 65 (.agg #[.slice none 0 0, .slice none 0 0, .slice none 0 0, .int .i64 0, .slice none 0 0, .int .i64 0, .slice none 0 0, .bool false]), boxA b1 8 65 (.agg #[.slice a0 st.fRows.length c0, .slice a1 st.fSpace.fRefs.length c1, .slice a2 st.fSpace.fLast.length c2, .int .i64 st.fTxg, .slice a4 st.fGone.length c4, .int .i64 st.fKeep, .slice a6 st.fDead.length c6, .bool st.fSame])]) _) := HS
          refine wl_storeBox rfl HF rfl rfl (HF.ev rfl) (HF.ev rfl) HS.out 7 rfl (cells_lit [.int .i64 0, .int .i64 0, .int .i64 0, .int .i64 0, .int .i64 0] rfl rfl) (by kernel_rfl) ?_; clear HS; intro w20 HS; replace HS := Bx.mk HS
          have HS : Bx (St w0 ([boxA b5 5 33 (.agg #[.int .i64 0, .int .i64 0, .int .i64 0, .int .i64 0, .int .i64 0]), boxA b4 8 65 (.agg #[.slice d0 st.fRows.length f0, .slice d1 st.fSpace.fRefs.length f1, .slice d2 st.fSpace.fLast.length f2, .int .i64 st.fTxg, .slice d4 st.fGone.length f4, .int .i64 st.fKeep, .slice d6 st.fDead.length f6, .bool st.fSame]), rowA encS 1 9 (.slice d0 st.fRows.length f0) st.fRows, rowA encI 1 3 (.slice d1 st.fSpace.fRefs.length f1) st.fSpace.fRefs, rowA encI 1 3 (.slice d2 st.fSpace.fLast.length f2) st.fSpace.fLast, rowA PtrD.cells 5 33 (.slice d4 st.fGone.length f4) st.fGone, rowA PtrD.cells 5 33 (.slice d6 st.fDead.length f6) st.fDead, boxA b3 5 33 (.agg #[.int .i64 0, .int .i64 0, .int .i64 0, .int .i64 0, .int .i64 0]), boxA b2 8 65 (.agg #[.slice none 0 0, .slice none 0 0, .slice none 0 0, .int .i64 0, .slice none 0 0, .int .i64 0, .slice none 0 0, .bool false]), boxA b1 8 65 (.agg #[.slice a0 st.fRows.length c0, .slice a1 st.fSpace.fRefs.length c1, .slice a2 st.fSpace.fLast.length c2, .int .i64 st.fTxg, .slice a4 st.fGone.length c4, .int .i64 st.fKeep, .slice a6 st.fDead.length c6, .bool st.fSame])]) _) := HS
          refine wl_y rfl HF rfl rfl (yl_assign rfl (HF.ev rfl)) ?_; clear HF; clear a; intro a HF
          refine wpList_nil ?_
          refine ex_then ?_
          refine wp_ret ?_
          refine ex_then_ret ?_
          refine bp_ret3 HF Try.results27 (HF.resBox rfl (HS.out.box 8 rfl) (by kernel_rfl)) (HF.resBox rfl (HS.out.box 7 rfl) (by kernel_rfl)) (HF.res rfl) ?_
          exact ⟨_, by rw [hm, hwp]; rfl, by rw [hwr]; exact own_zero _ _ _, HS.out.bel⟩
        · skip
          obtain ⟨hm, hwr, hwp, hpk, hsame⟩ := W_yes hok hsz hlv hi6 hwa
          refine ⟨_, rfl, ?_⟩; replace HS := Bx.mk hs1; clear hs1 HF; clear a; intro a HF
          have HS : Bx (St w0 ([boxA b4 8 65 (.agg #[.slice d0 st.fRows.length f0, .slice d1 st.fSpace.fRefs.length f1, .slice d2 st.fSpace.fLast.length f2, .int .i64 st.fTxg, .slice d4 st.fGone.length f4, .int .i64 st.fKeep, .slice d6 st.fDead.length f6, .bool st.fSame]), rowA encS 1 9 (.slice d0 st.fRows.length f0) st.fRows, rowA encI 1 3 (.slice d1 st.fSpace.fRefs.length f1) (st.fSpace.fRefs.set i ((st.fSpace.fRefs.getD i 0) + 1)), rowA encI 1 3 (.slice d2 st.fSpace.fLast.length f2) (st.fSpace.fLast.set i st.fTxg), rowA PtrD.cells 5 33 (.slice d4 st.fGone.length f4) st.fGone, rowA PtrD.cells 5 33 (.slice d6 st.fDead.length f6) st.fDead, boxA b3 5 33 (.agg #[.int .i64 0, .int .i64 0, .int .i64 0, .int .i64 0, .int .i64 0]), boxA b2 8 65 (.agg #[.slice none 0 0, .slice none 0 0, .slice none 0 0, .int .i64 0, .slice none 0 0, .int .i64 0, .slice none 0 0, .bool false]), boxA b1 8 65 (.agg #[.slice a0 st.fRows.length c0, .slice a1 st.fSpace.fRefs.length c1, .slice a2 st.fSpace.fLast.length c2, .int .i64 st.fTxg, .slice a4 st.fGone.length c4, .int .i64 st.fKeep, .slice a6 st.fDead.length c6, .bool st.fSame])]) _) := HS
          refine wl_y rfl HF rfl rfl (yl_move rfl (HF.ev rfl)) ?_; clear HF; clear a; intro a HF
          refine wl_y rfl HF rfl rfl (yl_extract rfl (HF.ev rfl) rfl) ?_; clear HF; clear a; intro a HF
          refine wl_y rfl HF rfl rfl (yl_extract rfl (HF.ev rfl) rfl) ?_; clear HF; clear a; intro a HF
          refine wl_alloc rfl HF rfl rfl rfl (Z := [.int .i64 0, .int .i64 0, .int .i64 0, .int .i64 0, .int .i64 0]) (by kernel_rfl) rfl HS.out ?_; clear HF HS; clear a; intro a w21 b6 HF HS; replace HS := Bx.mk HS
          refine wl_storeBox rfl HF rfl rfl (HF.ev rfl) (HF.ev rfl) HS.out 0 rfl (cells_lit [.int .i64 ((ptrOf (i : Int) st.fTxg level text).fAt), .int .i64 ((ptrOf (i : Int) st.fTxg level text).fBirth), .int .i64 ((ptrOf (i : Int) st.fTxg level text).fSize), .int .i64 ((ptrOf (i : Int) st.fTxg level text).fSum), .int .i64 ((ptrOf (i : Int) st.fTxg level text).fLevel)] rfl rfl) (by kernel_rfl) ?_; clear HS; intro w22 HS; replace HS := Bx.mk HS
          have HS : Bx (St w0 ([boxA b6 5 33 (.agg #[.int .i64 ((ptrOf (i : Int) st.fTxg level text).fAt), .int .i64 ((ptrOf (i : Int) st.fTxg level text).fBirth), .int .i64 ((ptrOf (i : Int) st.fTxg level text).fSize), .int .i64 ((ptrOf (i : Int) st.fTxg level text).fSum), .int .i64 ((ptrOf (i : Int) st.fTxg level text).fLevel)]), boxA b4 8 65 (.agg #[.slice d0 st.fRows.length f0, .slice d1 st.fSpace.fRefs.length f1, .slice d2 st.fSpace.fLast.length f2, .int .i64 st.fTxg, .slice d4 st.fGone.length f4, .int .i64 st.fKeep, .slice d6 st.fDead.length f6, .bool st.fSame]), rowA encS 1 9 (.slice d0 st.fRows.length f0) st.fRows, rowA encI 1 3 (.slice d1 st.fSpace.fRefs.length f1) (st.fSpace.fRefs.set i ((st.fSpace.fRefs.getD i 0) + 1)), rowA encI 1 3 (.slice d2 st.fSpace.fLast.length f2) (st.fSpace.fLast.set i st.fTxg), rowA PtrD.cells 5 33 (.slice d4 st.fGone.length f4) st.fGone, rowA PtrD.cells 5 33 (.slice d6 st.fDead.length f6) st.fDead, boxA b3 5 33 (.agg #[.int .i64 0, .int .i64 0, .int .i64 0, .int .i64 0, .int .i64 0]), boxA b2 8 65 (.agg #[.slice none 0 0, .slice none 0 0, .slice none 0 0, .int .i64 0, .slice none 0 0, .int .i64 0, .slice none 0 0, .bool false]), boxA b1 8 65 (.agg #[.slice a0 st.fRows.length c0, .slice a1 st.fSpace.fRefs.length c1, .slice a2 st.fSpace.fLast.length c2, .int .i64 st.fTxg, .slice a4 st.fGone.length c4, .int .i64 st.fKeep, .slice a6 st.fDead.length c6, .bool st.fSame])]) _) := HS
          refine wl_y rfl HF rfl rfl (yl_assign rfl (HF.ev rfl)) ?_; clear HF; clear a; intro a HF
          refine wpList_nil ?_
          refine ex_then ?_
          refine wp_seq ?_
          refine wp_seq ?_
          refine wp_region_lit ?_
          refine wl_y rfl HF rfl rfl (yl_move rfl (HF.ev rfl)) ?_; clear HF; clear a; intro a HF
          refine wl_y rfl HF rfl rfl (yl_not rfl (HF.ev rfl)) ?_; clear HF; clear a; intro a HF
          refine wpList_nil ?_
          refine ex_then ?_
          refine HF.cases 36 rfl (fun cc4 HF1 => ?_) (fun cc4 HF1 => ?_)
          · clear HF; have HF := HF1; clear HF1
            rw [hpk] at cc4; cases cc4
          · clear HF; have HF := HF1; clear HF1
            refine wc_false HF rfl ?_
            refine wp_skip ?_
            refine ex_then ?_
            refine wp_seq ?_
            refine wr_heldS (s := [boxA b6 5 33 (.agg #[.int .i64 ((ptrOf (i : Int) st.fTxg level text).fAt), .int .i64 ((ptrOf (i : Int) st.fTxg level text).fBirth), .int .i64 ((ptrOf (i : Int) st.fTxg level text).fSize), .int .i64 ((ptrOf (i : Int) st.fTxg level text).fSum), .int .i64 ((ptrOf (i : Int) st.fTxg level text).fLevel)]), boxA b4 8 65 (.agg #[.slice d0 st.fRows.length f0, .slice d1 st.fSpace.fRefs.length f1, .slice d2 st.fSpace.fLast.length f2, .int .i64 st.fTxg, .slice d4 st.fGone.length f4, .int .i64 st.fKeep, .slice d6 st.fDead.length f6, .bool st.fSame]), rowA encS 1 9 (.slice d0 st.fRows.length f0) st.fRows, rowA encI 1 3 (.slice d1 st.fSpace.fRefs.length f1) (st.fSpace.fRefs.set i ((st.fSpace.fRefs.getD i 0) + 1)), rowA encI 1 3 (.slice d2 st.fSpace.fLast.length f2) (st.fSpace.fLast.set i st.fTxg), rowA PtrD.cells 5 33 (.slice d4 st.fGone.length f4) st.fGone, rowA PtrD.cells 5 33 (.slice d6 st.fDead.length f6) st.fDead, boxA b1 8 65 (.agg #[.slice a0 st.fRows.length c0, .slice a1 st.fSpace.fRefs.length c1, .slice a2 st.fSpace.fLast.length c2, .int .i64 st.fTxg, .slice a4 st.fGone.length c4, .int .i64 st.fKeep, .slice a6 st.fDead.length c6, .bool st.fSame])]) (by kernel_rfl) (St.drew (((HS.out.erase 8).erase 7))) ?_
            have HS2 := Bx.mk HS.out.drew; replace HS := Bx.mk (show St w0 ([boxA b6 5 33 (.agg #[.int .i64 ((ptrOf (i : Int) st.fTxg level text).fAt), .int .i64 ((ptrOf (i : Int) st.fTxg level text).fBirth), .int .i64 ((ptrOf (i : Int) st.fTxg level text).fSize), .int .i64 ((ptrOf (i : Int) st.fTxg level text).fSum), .int .i64 ((ptrOf (i : Int) st.fTxg level text).fLevel)]), boxA b4 8 65 (.agg #[.slice d0 st.fRows.length f0, .slice d1 st.fSpace.fRefs.length f1, .slice d2 st.fSpace.fLast.length f2, .int .i64 st.fTxg, .slice d4 st.fGone.length f4, .int .i64 st.fKeep, .slice d6 st.fDead.length f6, .bool st.fSame]), rowA encS 1 9 (.slice d0 st.fRows.length f0) st.fRows, rowA encI 1 3 (.slice d1 st.fSpace.fRefs.length f1) (st.fSpace.fRefs.set i ((st.fSpace.fRefs.getD i 0) + 1)), rowA encI 1 3 (.slice d2 st.fSpace.fLast.length f2) (st.fSpace.fLast.set i st.fTxg), rowA PtrD.cells 5 33 (.slice d4 st.fGone.length f4) st.fGone, rowA PtrD.cells 5 33 (.slice d6 st.fDead.length f6) st.fDead, boxA b1 8 65 (.agg #[.slice a0 st.fRows.length c0, .slice a1 st.fSpace.fRefs.length c1, .slice a2 st.fSpace.fLast.length c2, .int .i64 st.fTxg, .slice a4 st.fGone.length c4, .int .i64 st.fKeep, .slice a6 st.fDead.length c6, .bool st.fSame])]) _ from ((HS.out.drew.erase 8).erase 7))
            generalize World.drew _ = w23 at HS HS2 ⊢
            refine wh_y 0 rfl (by kernel_rfl) (by kernel_rfl) (by kernel_rfl) (fun _ _ _ h => h) rfl HF rfl rfl (fun _ HS => (yl_loadR (cs := [.slice d0 st.fRows.length f0, .slice d1 st.fSpace.fRefs.length f1, .slice d2 st.fSpace.fLast.length f2, .int .i64 st.fTxg, .slice d4 st.fGone.length f4, .int .i64 st.fKeep, .slice d6 st.fDead.length f6, .bool st.fSame]) rfl (HF.ev rfl) ((HS.box 1 rfl).sub 0 8) (by kernel_rfl))) HS.out ?_; clear HF; clear a; intro a HF
            refine wh_y 1 rfl (by kernel_rfl) (by kernel_rfl) (by kernel_rfl) (fun _ _ _ h => h) rfl HF rfl rfl (fun _ HS => (yl_loadR (cs := [.int .i64 ((ptrOf (i : Int) st.fTxg level text).fAt), .int .i64 ((ptrOf (i : Int) st.fTxg level text).fBirth), .int .i64 ((ptrOf (i : Int) st.fTxg level text).fSize), .int .i64 ((ptrOf (i : Int) st.fTxg level text).fSum), .int .i64 ((ptrOf (i : Int) st.fTxg level text).fLevel)]) rfl (HF.ev rfl) ((HS.box 0 rfl).sub 0 5) (by kernel_rfl))) HS.out ?_; clear HF; clear a; intro a HF
            refine wh_one 2 (by kernel_rfl) ?_
            refine wo_storeBox rfl rfl rfl rfl (HF.ev rfl) (HF.ev rfl) HS2.out 8 rfl (cells_lit [.slice d0 st.fRows.length f0, .slice d1 st.fSpace.fRefs.length f1, .slice d2 st.fSpace.fLast.length f2, .int .i64 st.fTxg, .slice d4 st.fGone.length f4, .int .i64 st.fKeep, .slice d6 st.fDead.length f6, .bool st.fSame] rfl rfl) (by kernel_rfl) ?_
            clear HS HS2; intro w24 HS2; replace HS2 : Bx (St w0 ([boxA b6 5 33 (.agg #[.int .i64 ((ptrOf (i : Int) st.fTxg level text).fAt), .int .i64 ((ptrOf (i : Int) st.fTxg level text).fBirth), .int .i64 ((ptrOf (i : Int) st.fTxg level text).fSize), .int .i64 ((ptrOf (i : Int) st.fTxg level text).fSum), .int .i64 ((ptrOf (i : Int) st.fTxg level text).fLevel)]), boxA b4 8 65 (.agg #[.slice d0 st.fRows.length f0, .slice d1 st.fSpace.fRefs.length f1, .slice d2 st.fSpace.fLast.length f2, .int .i64 st.fTxg, .slice d4 st.fGone.length f4, .int .i64 st.fKeep, .slice d6 st.fDead.length f6, .bool st.fSame]), rowA encS 1 9 (.slice d0 st.fRows.length f0) st.fRows, rowA encI 1 3 (.slice d1 st.fSpace.fRefs.length f1) (st.fSpace.fRefs.set i ((st.fSpace.fRefs.getD i 0) + 1)), rowA encI 1 3 (.slice d2 st.fSpace.fLast.length f2) (st.fSpace.fLast.set i st.fTxg), rowA PtrD.cells 5 33 (.slice d4 st.fGone.length f4) st.fGone, rowA PtrD.cells 5 33 (.slice d6 st.fDead.length f6) st.fDead, boxA b3 5 33 (.agg #[.int .i64 0, .int .i64 0, .int .i64 0, .int .i64 0, .int .i64 0]), boxA b2 8 65 (.agg #[.slice d0 st.fRows.length f0, .slice d1 st.fSpace.fRefs.length f1, .slice d2 st.fSpace.fLast.length f2, .int .i64 st.fTxg, .slice d4 st.fGone.length f4, .int .i64 st.fKeep, .slice d6 st.fDead.length f6, .bool st.fSame]), boxA b1 8 65 (.agg #[.slice a0 st.fRows.length c0, .slice a1 st.fSpace.fRefs.length c1, .slice a2 st.fSpace.fLast.length c2, .int .i64 st.fTxg, .slice a4 st.fGone.length c4, .int .i64 st.fKeep, .slice a6 st.fDead.length c6, .bool st.fSame])]) _) := ⟨HS2⟩
            have HS : Bx (St w0 ([boxA b6 5 33 (.agg #[.int .i64 ((ptrOf (i : Int) st.fTxg level text).fAt), .int .i64 ((ptrOf (i : Int) st.fTxg level text).fBirth), .int .i64 ((ptrOf (i : Int) st.fTxg level text).fSize), .int .i64 ((ptrOf (i : Int) st.fTxg level text).fSum), .int .i64 ((ptrOf (i : Int) st.fTxg level text).fLevel)]), boxA b4 8 65 (.agg #[.slice d0 st.fRows.length f0, .slice d1 st.fSpace.fRefs.length f1, .slice d2 st.fSpace.fLast.length f2, .int .i64 st.fTxg, .slice d4 st.fGone.length f4, .int .i64 st.fKeep, .slice d6 st.fDead.length f6, .bool st.fSame]), rowA encS 1 9 (.slice d0 st.fRows.length f0) st.fRows, rowA encI 1 3 (.slice d1 st.fSpace.fRefs.length f1) (st.fSpace.fRefs.set i ((st.fSpace.fRefs.getD i 0) + 1)), rowA encI 1 3 (.slice d2 st.fSpace.fLast.length f2) (st.fSpace.fLast.set i st.fTxg), rowA PtrD.cells 5 33 (.slice d4 st.fGone.length f4) st.fGone, rowA PtrD.cells 5 33 (.slice d6 st.fDead.length f6) st.fDead, boxA b1 8 65 (.agg #[.slice a0 st.fRows.length c0, .slice a1 st.fSpace.fRefs.length c1, .slice a2 st.fSpace.fLast.length c2, .int .i64 st.fTxg, .slice a4 st.fGone.length c4, .int .i64 st.fKeep, .slice a6 st.fDead.length c6, .bool st.fSame])]) _) := ⟨((HS2.out.erase 8).erase 7)⟩; refine ⟨HS.out, ?_⟩
            refine wh_one 3 (by kernel_rfl) ?_
            refine wo_storeBox rfl rfl rfl rfl (HF.ev rfl) (HF.ev rfl) HS2.out 7 rfl (cells_lit [.int .i64 ((ptrOf (i : Int) st.fTxg level text).fAt), .int .i64 ((ptrOf (i : Int) st.fTxg level text).fBirth), .int .i64 ((ptrOf (i : Int) st.fTxg level text).fSize), .int .i64 ((ptrOf (i : Int) st.fTxg level text).fSum), .int .i64 ((ptrOf (i : Int) st.fTxg level text).fLevel)] rfl rfl) (by kernel_rfl) ?_
            clear HS HS2; intro w25 HS2; replace HS2 : Bx (St w0 ([boxA b6 5 33 (.agg #[.int .i64 ((ptrOf (i : Int) st.fTxg level text).fAt), .int .i64 ((ptrOf (i : Int) st.fTxg level text).fBirth), .int .i64 ((ptrOf (i : Int) st.fTxg level text).fSize), .int .i64 ((ptrOf (i : Int) st.fTxg level text).fSum), .int .i64 ((ptrOf (i : Int) st.fTxg level text).fLevel)]), boxA b4 8 65 (.agg #[.slice d0 st.fRows.length f0, .slice d1 st.fSpace.fRefs.length f1, .slice d2 st.fSpace.fLast.length f2, .int .i64 st.fTxg, .slice d4 st.fGone.length f4, .int .i64 st.fKeep, .slice d6 st.fDead.length f6, .bool st.fSame]), rowA encS 1 9 (.slice d0 st.fRows.length f0) st.fRows, rowA encI 1 3 (.slice d1 st.fSpace.fRefs.length f1) (st.fSpace.fRefs.set i ((st.fSpace.fRefs.getD i 0) + 1)), rowA encI 1 3 (.slice d2 st.fSpace.fLast.length f2) (st.fSpace.fLast.set i st.fTxg), rowA PtrD.cells 5 33 (.slice d4 st.fGone.length f4) st.fGone, rowA PtrD.cells 5 33 (.slice d6 st.fDead.length f6) st.fDead, boxA b3 5 33 (.agg #[.int .i64 ((ptrOf (i : Int) st.fTxg level text).fAt), .int .i64 ((ptrOf (i : Int) st.fTxg level text).fBirth), .int .i64 ((ptrOf (i : Int) st.fTxg level text).fSize), .int .i64 ((ptrOf (i : Int) st.fTxg level text).fSum), .int .i64 ((ptrOf (i : Int) st.fTxg level text).fLevel)]), boxA b2 8 65 (.agg #[.slice d0 st.fRows.length f0, .slice d1 st.fSpace.fRefs.length f1, .slice d2 st.fSpace.fLast.length f2, .int .i64 st.fTxg, .slice d4 st.fGone.length f4, .int .i64 st.fKeep, .slice d6 st.fDead.length f6, .bool st.fSame]), boxA b1 8 65 (.agg #[.slice a0 st.fRows.length c0, .slice a1 st.fSpace.fRefs.length c1, .slice a2 st.fSpace.fLast.length c2, .int .i64 st.fTxg, .slice a4 st.fGone.length c4, .int .i64 st.fKeep, .slice a6 st.fDead.length c6, .bool st.fSame])]) _) := ⟨HS2⟩
            have HS : Bx (St w0 ([boxA b6 5 33 (.agg #[.int .i64 ((ptrOf (i : Int) st.fTxg level text).fAt), .int .i64 ((ptrOf (i : Int) st.fTxg level text).fBirth), .int .i64 ((ptrOf (i : Int) st.fTxg level text).fSize), .int .i64 ((ptrOf (i : Int) st.fTxg level text).fSum), .int .i64 ((ptrOf (i : Int) st.fTxg level text).fLevel)]), boxA b4 8 65 (.agg #[.slice d0 st.fRows.length f0, .slice d1 st.fSpace.fRefs.length f1, .slice d2 st.fSpace.fLast.length f2, .int .i64 st.fTxg, .slice d4 st.fGone.length f4, .int .i64 st.fKeep, .slice d6 st.fDead.length f6, .bool st.fSame]), rowA encS 1 9 (.slice d0 st.fRows.length f0) st.fRows, rowA encI 1 3 (.slice d1 st.fSpace.fRefs.length f1) (st.fSpace.fRefs.set i ((st.fSpace.fRefs.getD i 0) + 1)), rowA encI 1 3 (.slice d2 st.fSpace.fLast.length f2) (st.fSpace.fLast.set i st.fTxg), rowA PtrD.cells 5 33 (.slice d4 st.fGone.length f4) st.fGone, rowA PtrD.cells 5 33 (.slice d6 st.fDead.length f6) st.fDead, boxA b1 8 65 (.agg #[.slice a0 st.fRows.length c0, .slice a1 st.fSpace.fRefs.length c1, .slice a2 st.fSpace.fLast.length c2, .int .i64 st.fTxg, .slice a4 st.fGone.length c4, .int .i64 st.fKeep, .slice a6 st.fDead.length c6, .bool st.fSame])]) _) := ⟨((HS2.out.erase 8).erase 7)⟩; refine ⟨HS.out, ?_⟩
            refine wh_y 4 rfl (by kernel_rfl) (by kernel_rfl) (by kernel_rfl) (fun _ _ _ h => h) rfl HF rfl rfl (fun _ HS => (yl_assign rfl (HF.ev rfl))) HS.out ?_; clear HF; clear a; intro a HF
            refine wh_done (by kernel_rfl) ?_
            replace HS := HS2; clear HS2
            refine ex_then ?_
            refine wp_ret ?_
            refine bp_ret3 HF Try.results27 (HF.resBox rfl (HS.out.box 8 rfl) (by kernel_rfl)) (HF.resBox rfl (HS.out.box 7 rfl) (by kernel_rfl)) (HF.res rfl) ?_
            refine ⟨.agg #[.slice d0 st.fRows.length f0, .slice d1 st.fSpace.fRefs.length f1, .slice d2 st.fSpace.fLast.length f2, .int .i64 st.fTxg, .slice d4 st.fGone.length f4, .int .i64 st.fKeep, .slice d6 st.fDead.length f6, .bool st.fSame], ?_, ?_, HS.out.bel⟩
            · rw [hm, hwp, ← ptrOf_yes hpk]
            · rw [hwr]; rw [hsame (by omega)]; exact own_put rfl HS.out.tail.tail
        · skip
          obtain ⟨hm, hwr, hwp, hpk, hsame⟩ := W_yes hok hsz hlv hi6 hwa
          refine ⟨_, rfl, ?_⟩; replace HS := Bx.mk hs1; clear hs1 HF; clear a; intro a HF
          have HS : Bx (St w0 ([boxA b4 8 65 (.agg #[.slice d0 st.fRows.length f0, .slice d1 st.fSpace.fRefs.length f1, .slice d2 st.fSpace.fLast.length f2, .int .i64 st.fTxg, .slice d4 st.fGone.length f4, .int .i64 st.fKeep, .slice d6 st.fDead.length f6, .bool st.fSame]), rowA encS 1 9 (.slice d0 st.fRows.length f0) (st.fRows.set i text), rowA encI 1 3 (.slice d1 st.fSpace.fRefs.length f1) (st.fSpace.fRefs.set i ((st.fSpace.fRefs.getD i 0) + 1)), rowA encI 1 3 (.slice d2 st.fSpace.fLast.length f2) (st.fSpace.fLast.set i st.fTxg), rowA PtrD.cells 5 33 (.slice d4 st.fGone.length f4) st.fGone, rowA PtrD.cells 5 33 (.slice d6 st.fDead.length f6) st.fDead, boxA b3 5 33 (.agg #[.int .i64 0, .int .i64 0, .int .i64 0, .int .i64 0, .int .i64 0]), boxA b2 8 65 (.agg #[.slice none 0 0, .slice none 0 0, .slice none 0 0, .int .i64 0, .slice none 0 0, .int .i64 0, .slice none 0 0, .bool false]), boxA b1 8 65 (.agg #[.slice a0 st.fRows.length c0, .slice a1 st.fSpace.fRefs.length c1, .slice a2 st.fSpace.fLast.length c2, .int .i64 st.fTxg, .slice a4 st.fGone.length c4, .int .i64 st.fKeep, .slice a6 st.fDead.length c6, .bool st.fSame])]) _) := HS
          refine wl_y rfl HF rfl rfl (yl_move rfl (HF.ev rfl)) ?_; clear HF; clear a; intro a HF
          refine wl_y rfl HF rfl rfl (yl_extract rfl (HF.ev rfl) rfl) ?_; clear HF; clear a; intro a HF
          refine wl_y rfl HF rfl rfl (yl_extract rfl (HF.ev rfl) rfl) ?_; clear HF; clear a; intro a HF
          refine wl_alloc rfl HF rfl rfl rfl (Z := [.int .i64 0, .int .i64 0, .int .i64 0, .int .i64 0, .int .i64 0]) (by kernel_rfl) rfl HS.out ?_; clear HF HS; clear a; intro a w26 b7 HF HS; replace HS := Bx.mk HS
          refine wl_storeBox rfl HF rfl rfl (HF.ev rfl) (HF.ev rfl) HS.out 0 rfl (cells_lit [.int .i64 ((ptrOf (i : Int) st.fTxg level text).fAt), .int .i64 ((ptrOf (i : Int) st.fTxg level text).fBirth), .int .i64 ((ptrOf (i : Int) st.fTxg level text).fSize), .int .i64 ((ptrOf (i : Int) st.fTxg level text).fSum), .int .i64 ((ptrOf (i : Int) st.fTxg level text).fLevel)] rfl rfl) (by kernel_rfl) ?_; clear HS; intro w27 HS; replace HS := Bx.mk HS
          have HS : Bx (St w0 ([boxA b7 5 33 (.agg #[.int .i64 ((ptrOf (i : Int) st.fTxg level text).fAt), .int .i64 ((ptrOf (i : Int) st.fTxg level text).fBirth), .int .i64 ((ptrOf (i : Int) st.fTxg level text).fSize), .int .i64 ((ptrOf (i : Int) st.fTxg level text).fSum), .int .i64 ((ptrOf (i : Int) st.fTxg level text).fLevel)]), boxA b4 8 65 (.agg #[.slice d0 st.fRows.length f0, .slice d1 st.fSpace.fRefs.length f1, .slice d2 st.fSpace.fLast.length f2, .int .i64 st.fTxg, .slice d4 st.fGone.length f4, .int .i64 st.fKeep, .slice d6 st.fDead.length f6, .bool st.fSame]), rowA encS 1 9 (.slice d0 st.fRows.length f0) (st.fRows.set i text), rowA encI 1 3 (.slice d1 st.fSpace.fRefs.length f1) (st.fSpace.fRefs.set i ((st.fSpace.fRefs.getD i 0) + 1)), rowA encI 1 3 (.slice d2 st.fSpace.fLast.length f2) (st.fSpace.fLast.set i st.fTxg), rowA PtrD.cells 5 33 (.slice d4 st.fGone.length f4) st.fGone, rowA PtrD.cells 5 33 (.slice d6 st.fDead.length f6) st.fDead, boxA b3 5 33 (.agg #[.int .i64 0, .int .i64 0, .int .i64 0, .int .i64 0, .int .i64 0]), boxA b2 8 65 (.agg #[.slice none 0 0, .slice none 0 0, .slice none 0 0, .int .i64 0, .slice none 0 0, .int .i64 0, .slice none 0 0, .bool false]), boxA b1 8 65 (.agg #[.slice a0 st.fRows.length c0, .slice a1 st.fSpace.fRefs.length c1, .slice a2 st.fSpace.fLast.length c2, .int .i64 st.fTxg, .slice a4 st.fGone.length c4, .int .i64 st.fKeep, .slice a6 st.fDead.length c6, .bool st.fSame])]) _) := HS
          refine wl_y rfl HF rfl rfl (yl_assign rfl (HF.ev rfl)) ?_; clear HF; clear a; intro a HF
          refine wpList_nil ?_
          refine ex_then ?_
          refine wp_seq ?_
          refine wp_seq ?_
          refine wp_region_lit ?_
          refine wl_y rfl HF rfl rfl (yl_move rfl (HF.ev rfl)) ?_; clear HF; clear a; intro a HF
          refine wl_y rfl HF rfl rfl (yl_not rfl (HF.ev rfl)) ?_; clear HF; clear a; intro a HF
          refine wpList_nil ?_
          refine ex_then ?_
          refine HF.cases 36 rfl (fun cc5 HF1 => ?_) (fun cc5 HF1 => ?_)
          · clear HF; have HF := HF1; clear HF1
            rw [hpk] at cc5; cases cc5
          · clear HF; have HF := HF1; clear HF1
            refine wc_false HF rfl ?_
            refine wp_skip ?_
            refine ex_then ?_
            refine wp_seq ?_
            refine wr_heldS (s := [boxA b7 5 33 (.agg #[.int .i64 ((ptrOf (i : Int) st.fTxg level text).fAt), .int .i64 ((ptrOf (i : Int) st.fTxg level text).fBirth), .int .i64 ((ptrOf (i : Int) st.fTxg level text).fSize), .int .i64 ((ptrOf (i : Int) st.fTxg level text).fSum), .int .i64 ((ptrOf (i : Int) st.fTxg level text).fLevel)]), boxA b4 8 65 (.agg #[.slice d0 st.fRows.length f0, .slice d1 st.fSpace.fRefs.length f1, .slice d2 st.fSpace.fLast.length f2, .int .i64 st.fTxg, .slice d4 st.fGone.length f4, .int .i64 st.fKeep, .slice d6 st.fDead.length f6, .bool st.fSame]), rowA encS 1 9 (.slice d0 st.fRows.length f0) (st.fRows.set i text), rowA encI 1 3 (.slice d1 st.fSpace.fRefs.length f1) (st.fSpace.fRefs.set i ((st.fSpace.fRefs.getD i 0) + 1)), rowA encI 1 3 (.slice d2 st.fSpace.fLast.length f2) (st.fSpace.fLast.set i st.fTxg), rowA PtrD.cells 5 33 (.slice d4 st.fGone.length f4) st.fGone, rowA PtrD.cells 5 33 (.slice d6 st.fDead.length f6) st.fDead, boxA b1 8 65 (.agg #[.slice a0 st.fRows.length c0, .slice a1 st.fSpace.fRefs.length c1, .slice a2 st.fSpace.fLast.length c2, .int .i64 st.fTxg, .slice a4 st.fGone.length c4, .int .i64 st.fKeep, .slice a6 st.fDead.length c6, .bool st.fSame])]) (by kernel_rfl) (St.drew (((HS.out.erase 8).erase 7))) ?_
            have HS2 := Bx.mk HS.out.drew; replace HS := Bx.mk (show St w0 ([boxA b7 5 33 (.agg #[.int .i64 ((ptrOf (i : Int) st.fTxg level text).fAt), .int .i64 ((ptrOf (i : Int) st.fTxg level text).fBirth), .int .i64 ((ptrOf (i : Int) st.fTxg level text).fSize), .int .i64 ((ptrOf (i : Int) st.fTxg level text).fSum), .int .i64 ((ptrOf (i : Int) st.fTxg level text).fLevel)]), boxA b4 8 65 (.agg #[.slice d0 st.fRows.length f0, .slice d1 st.fSpace.fRefs.length f1, .slice d2 st.fSpace.fLast.length f2, .int .i64 st.fTxg, .slice d4 st.fGone.length f4, .int .i64 st.fKeep, .slice d6 st.fDead.length f6, .bool st.fSame]), rowA encS 1 9 (.slice d0 st.fRows.length f0) (st.fRows.set i text), rowA encI 1 3 (.slice d1 st.fSpace.fRefs.length f1) (st.fSpace.fRefs.set i ((st.fSpace.fRefs.getD i 0) + 1)), rowA encI 1 3 (.slice d2 st.fSpace.fLast.length f2) (st.fSpace.fLast.set i st.fTxg), rowA PtrD.cells 5 33 (.slice d4 st.fGone.length f4) st.fGone, rowA PtrD.cells 5 33 (.slice d6 st.fDead.length f6) st.fDead, boxA b1 8 65 (.agg #[.slice a0 st.fRows.length c0, .slice a1 st.fSpace.fRefs.length c1, .slice a2 st.fSpace.fLast.length c2, .int .i64 st.fTxg, .slice a4 st.fGone.length c4, .int .i64 st.fKeep, .slice a6 st.fDead.length c6, .bool st.fSame])]) _ from ((HS.out.drew.erase 8).erase 7))
            generalize World.drew _ = w28 at HS HS2 ⊢
            refine wh_y 0 rfl (by kernel_rfl) (by kernel_rfl) (by kernel_rfl) (fun _ _ _ h => h) rfl HF rfl rfl (fun _ HS => (yl_loadR (cs := [.slice d0 st.fRows.length f0, .slice d1 st.fSpace.fRefs.length f1, .slice d2 st.fSpace.fLast.length f2, .int .i64 st.fTxg, .slice d4 st.fGone.length f4, .int .i64 st.fKeep, .slice d6 st.fDead.length f6, .bool st.fSame]) rfl (HF.ev rfl) ((HS.box 1 rfl).sub 0 8) (by kernel_rfl))) HS.out ?_; clear HF; clear a; intro a HF
            refine wh_y 1 rfl (by kernel_rfl) (by kernel_rfl) (by kernel_rfl) (fun _ _ _ h => h) rfl HF rfl rfl (fun _ HS => (yl_loadR (cs := [.int .i64 ((ptrOf (i : Int) st.fTxg level text).fAt), .int .i64 ((ptrOf (i : Int) st.fTxg level text).fBirth), .int .i64 ((ptrOf (i : Int) st.fTxg level text).fSize), .int .i64 ((ptrOf (i : Int) st.fTxg level text).fSum), .int .i64 ((ptrOf (i : Int) st.fTxg level text).fLevel)]) rfl (HF.ev rfl) ((HS.box 0 rfl).sub 0 5) (by kernel_rfl))) HS.out ?_; clear HF; clear a; intro a HF
            refine wh_one 2 (by kernel_rfl) ?_
            refine wo_storeBox rfl rfl rfl rfl (HF.ev rfl) (HF.ev rfl) HS2.out 8 rfl (cells_lit [.slice d0 st.fRows.length f0, .slice d1 st.fSpace.fRefs.length f1, .slice d2 st.fSpace.fLast.length f2, .int .i64 st.fTxg, .slice d4 st.fGone.length f4, .int .i64 st.fKeep, .slice d6 st.fDead.length f6, .bool st.fSame] rfl rfl) (by kernel_rfl) ?_
            clear HS HS2; intro w29 HS2; replace HS2 : Bx (St w0 ([boxA b7 5 33 (.agg #[.int .i64 ((ptrOf (i : Int) st.fTxg level text).fAt), .int .i64 ((ptrOf (i : Int) st.fTxg level text).fBirth), .int .i64 ((ptrOf (i : Int) st.fTxg level text).fSize), .int .i64 ((ptrOf (i : Int) st.fTxg level text).fSum), .int .i64 ((ptrOf (i : Int) st.fTxg level text).fLevel)]), boxA b4 8 65 (.agg #[.slice d0 st.fRows.length f0, .slice d1 st.fSpace.fRefs.length f1, .slice d2 st.fSpace.fLast.length f2, .int .i64 st.fTxg, .slice d4 st.fGone.length f4, .int .i64 st.fKeep, .slice d6 st.fDead.length f6, .bool st.fSame]), rowA encS 1 9 (.slice d0 st.fRows.length f0) (st.fRows.set i text), rowA encI 1 3 (.slice d1 st.fSpace.fRefs.length f1) (st.fSpace.fRefs.set i ((st.fSpace.fRefs.getD i 0) + 1)), rowA encI 1 3 (.slice d2 st.fSpace.fLast.length f2) (st.fSpace.fLast.set i st.fTxg), rowA PtrD.cells 5 33 (.slice d4 st.fGone.length f4) st.fGone, rowA PtrD.cells 5 33 (.slice d6 st.fDead.length f6) st.fDead, boxA b3 5 33 (.agg #[.int .i64 0, .int .i64 0, .int .i64 0, .int .i64 0, .int .i64 0]), boxA b2 8 65 (.agg #[.slice d0 st.fRows.length f0, .slice d1 st.fSpace.fRefs.length f1, .slice d2 st.fSpace.fLast.length f2, .int .i64 st.fTxg, .slice d4 st.fGone.length f4, .int .i64 st.fKeep, .slice d6 st.fDead.length f6, .bool st.fSame]), boxA b1 8 65 (.agg #[.slice a0 st.fRows.length c0, .slice a1 st.fSpace.fRefs.length c1, .slice a2 st.fSpace.fLast.length c2, .int .i64 st.fTxg, .slice a4 st.fGone.length c4, .int .i64 st.fKeep, .slice a6 st.fDead.length c6, .bool st.fSame])]) _) := ⟨HS2⟩
            have HS : Bx (St w0 ([boxA b7 5 33 (.agg #[.int .i64 ((ptrOf (i : Int) st.fTxg level text).fAt), .int .i64 ((ptrOf (i : Int) st.fTxg level text).fBirth), .int .i64 ((ptrOf (i : Int) st.fTxg level text).fSize), .int .i64 ((ptrOf (i : Int) st.fTxg level text).fSum), .int .i64 ((ptrOf (i : Int) st.fTxg level text).fLevel)]), boxA b4 8 65 (.agg #[.slice d0 st.fRows.length f0, .slice d1 st.fSpace.fRefs.length f1, .slice d2 st.fSpace.fLast.length f2, .int .i64 st.fTxg, .slice d4 st.fGone.length f4, .int .i64 st.fKeep, .slice d6 st.fDead.length f6, .bool st.fSame]), rowA encS 1 9 (.slice d0 st.fRows.length f0) (st.fRows.set i text), rowA encI 1 3 (.slice d1 st.fSpace.fRefs.length f1) (st.fSpace.fRefs.set i ((st.fSpace.fRefs.getD i 0) + 1)), rowA encI 1 3 (.slice d2 st.fSpace.fLast.length f2) (st.fSpace.fLast.set i st.fTxg), rowA PtrD.cells 5 33 (.slice d4 st.fGone.length f4) st.fGone, rowA PtrD.cells 5 33 (.slice d6 st.fDead.length f6) st.fDead, boxA b1 8 65 (.agg #[.slice a0 st.fRows.length c0, .slice a1 st.fSpace.fRefs.length c1, .slice a2 st.fSpace.fLast.length c2, .int .i64 st.fTxg, .slice a4 st.fGone.length c4, .int .i64 st.fKeep, .slice a6 st.fDead.length c6, .bool st.fSame])]) _) := ⟨((HS2.out.erase 8).erase 7)⟩; refine ⟨HS.out, ?_⟩
            refine wh_one 3 (by kernel_rfl) ?_
            refine wo_storeBox rfl rfl rfl rfl (HF.ev rfl) (HF.ev rfl) HS2.out 7 rfl (cells_lit [.int .i64 ((ptrOf (i : Int) st.fTxg level text).fAt), .int .i64 ((ptrOf (i : Int) st.fTxg level text).fBirth), .int .i64 ((ptrOf (i : Int) st.fTxg level text).fSize), .int .i64 ((ptrOf (i : Int) st.fTxg level text).fSum), .int .i64 ((ptrOf (i : Int) st.fTxg level text).fLevel)] rfl rfl) (by kernel_rfl) ?_
            clear HS HS2; intro w30 HS2; replace HS2 : Bx (St w0 ([boxA b7 5 33 (.agg #[.int .i64 ((ptrOf (i : Int) st.fTxg level text).fAt), .int .i64 ((ptrOf (i : Int) st.fTxg level text).fBirth), .int .i64 ((ptrOf (i : Int) st.fTxg level text).fSize), .int .i64 ((ptrOf (i : Int) st.fTxg level text).fSum), .int .i64 ((ptrOf (i : Int) st.fTxg level text).fLevel)]), boxA b4 8 65 (.agg #[.slice d0 st.fRows.length f0, .slice d1 st.fSpace.fRefs.length f1, .slice d2 st.fSpace.fLast.length f2, .int .i64 st.fTxg, .slice d4 st.fGone.length f4, .int .i64 st.fKeep, .slice d6 st.fDead.length f6, .bool st.fSame]), rowA encS 1 9 (.slice d0 st.fRows.length f0) (st.fRows.set i text), rowA encI 1 3 (.slice d1 st.fSpace.fRefs.length f1) (st.fSpace.fRefs.set i ((st.fSpace.fRefs.getD i 0) + 1)), rowA encI 1 3 (.slice d2 st.fSpace.fLast.length f2) (st.fSpace.fLast.set i st.fTxg), rowA PtrD.cells 5 33 (.slice d4 st.fGone.length f4) st.fGone, rowA PtrD.cells 5 33 (.slice d6 st.fDead.length f6) st.fDead, boxA b3 5 33 (.agg #[.int .i64 ((ptrOf (i : Int) st.fTxg level text).fAt), .int .i64 ((ptrOf (i : Int) st.fTxg level text).fBirth), .int .i64 ((ptrOf (i : Int) st.fTxg level text).fSize), .int .i64 ((ptrOf (i : Int) st.fTxg level text).fSum), .int .i64 ((ptrOf (i : Int) st.fTxg level text).fLevel)]), boxA b2 8 65 (.agg #[.slice d0 st.fRows.length f0, .slice d1 st.fSpace.fRefs.length f1, .slice d2 st.fSpace.fLast.length f2, .int .i64 st.fTxg, .slice d4 st.fGone.length f4, .int .i64 st.fKeep, .slice d6 st.fDead.length f6, .bool st.fSame]), boxA b1 8 65 (.agg #[.slice a0 st.fRows.length c0, .slice a1 st.fSpace.fRefs.length c1, .slice a2 st.fSpace.fLast.length c2, .int .i64 st.fTxg, .slice a4 st.fGone.length c4, .int .i64 st.fKeep, .slice a6 st.fDead.length c6, .bool st.fSame])]) _) := ⟨HS2⟩
            have HS : Bx (St w0 ([boxA b7 5 33 (.agg #[.int .i64 ((ptrOf (i : Int) st.fTxg level text).fAt), .int .i64 ((ptrOf (i : Int) st.fTxg level text).fBirth), .int .i64 ((ptrOf (i : Int) st.fTxg level text).fSize), .int .i64 ((ptrOf (i : Int) st.fTxg level text).fSum), .int .i64 ((ptrOf (i : Int) st.fTxg level text).fLevel)]), boxA b4 8 65 (.agg #[.slice d0 st.fRows.length f0, .slice d1 st.fSpace.fRefs.length f1, .slice d2 st.fSpace.fLast.length f2, .int .i64 st.fTxg, .slice d4 st.fGone.length f4, .int .i64 st.fKeep, .slice d6 st.fDead.length f6, .bool st.fSame]), rowA encS 1 9 (.slice d0 st.fRows.length f0) (st.fRows.set i text), rowA encI 1 3 (.slice d1 st.fSpace.fRefs.length f1) (st.fSpace.fRefs.set i ((st.fSpace.fRefs.getD i 0) + 1)), rowA encI 1 3 (.slice d2 st.fSpace.fLast.length f2) (st.fSpace.fLast.set i st.fTxg), rowA PtrD.cells 5 33 (.slice d4 st.fGone.length f4) st.fGone, rowA PtrD.cells 5 33 (.slice d6 st.fDead.length f6) st.fDead, boxA b1 8 65 (.agg #[.slice a0 st.fRows.length c0, .slice a1 st.fSpace.fRefs.length c1, .slice a2 st.fSpace.fLast.length c2, .int .i64 st.fTxg, .slice a4 st.fGone.length c4, .int .i64 st.fKeep, .slice a6 st.fDead.length c6, .bool st.fSame])]) _) := ⟨((HS2.out.erase 8).erase 7)⟩; refine ⟨HS.out, ?_⟩
            refine wh_y 4 rfl (by kernel_rfl) (by kernel_rfl) (by kernel_rfl) (fun _ _ _ h => h) rfl HF rfl rfl (fun _ HS => (yl_assign rfl (HF.ev rfl))) HS.out ?_; clear HF; clear a; intro a HF
            refine wh_done (by kernel_rfl) ?_
            replace HS := HS2; clear HS2
            refine ex_then ?_
            refine wp_ret ?_
            refine bp_ret3 HF Try.results27 (HF.resBox rfl (HS.out.box 8 rfl) (by kernel_rfl)) (HF.resBox rfl (HS.out.box 7 rfl) (by kernel_rfl)) (HF.res rfl) ?_
            refine ⟨.agg #[.slice d0 st.fRows.length f0, .slice d1 st.fSpace.fRefs.length f1, .slice d2 st.fSpace.fLast.length f2, .int .i64 st.fTxg, .slice d4 st.fGone.length f4, .int .i64 st.fKeep, .slice d6 st.fDead.length f6, .bool st.fSame], ?_, ?_, HS.out.bel⟩
            · rw [hm, hwp, ← ptrOf_yes hpk]
            · rw [hwr]; exact own_put (by simp) HS.out.tail.tail

set_option maxHeartbeats 2000000 in
set_option maxRecDepth 100000 in
theorem specStoreWrite_any (v : Value) (st : StoreD) (text : ByteArray) (level : Int) (B B1 : Nat) (w0 : World) (hf : st.Fit) (hi64 : -9223372036854775808 ≤ st.fTxg) (hs : text.size ≤ 9223372036854775806) (ho : StoreD.Own w0 B B1 v st) : Calls Try.prog 25 #[v, .string text, .int .i64 level] w0 fun e w' => ∃ v', e = .returned (.tuple #[v', .agg #[.int .i64 (st.wptr text level).fAt, .int .i64 (st.wptr text level).fBirth, .int .i64 (st.wptr text level).fSize, .int .i64 (st.wptr text level).fSum, .int .i64 (st.wptr text level).fLevel], .bool (st.mayW text level)]) ∧ StoreD.Own w' w0.heap.size w'.heap.size v' (st.wrote text level) ∧ Below w0.heap.size w0 w' := by
  have HR := Bx.mk ho.rd
  have HO := Bx.mk ho
  obtain ⟨a0, c0, a1, c1, a2, c2, a4, c4, a6, c6, rfl, _⟩ := ho
  have HS := Bx.mk (St.start w0)
  refine wc_enter Try.func25 rfl Try.ntmps25 [(0, .agg #[.slice a0 st.fRows.length c0, .slice a1 st.fSpace.fRefs.length c1, .slice a2 st.fSpace.fLast.length c2, .int .i64 st.fTxg, .slice a4 st.fGone.length c4, .int .i64 st.fKeep, .slice a6 st.fDead.length c6, .bool st.fSame]), (1, .string text), (2, .int .i64 level)] ⟨rfl, rfl, rfl, trivial⟩ rfl ?_; intro a HF
  refine wp_seq ?_
  refine wp_region_lit ?_
  refine wl_box rfl HF rfl (HF.ev rfl) (Z := [.slice a0 st.fRows.length c0, .slice a1 st.fSpace.fRefs.length c1, .slice a2 st.fSpace.fLast.length c2, .int .i64 st.fTxg, .slice a4 st.fGone.length c4, .int .i64 st.fKeep, .slice a6 st.fDead.length c6, .bool st.fSame]) rfl rfl rfl rfl HS.out ?_; clear HF HS; clear a; intro a w1 b1 HF HS; replace HS := Bx.mk HS
  refine wl_alloc rfl HF rfl rfl rfl (Z := [.slice none 0 0, .slice none 0 0, .slice none 0 0, .int .i64 0, .slice none 0 0, .int .i64 0, .slice none 0 0, .bool false]) (by kernel_rfl) rfl HS.out ?_; clear HF HS; clear a; intro a w2 b2 HF HS; replace HS := Bx.mk HS
  refine wl_alloc rfl HF rfl rfl rfl (Z := [.int .i64 0, .int .i64 0, .int .i64 0, .int .i64 0, .int .i64 0]) (by kernel_rfl) rfl HS.out ?_; clear HF HS; clear a; intro a w3 b3 HF HS; replace HS := Bx.mk HS
  refine wl_y rfl HF rfl rfl (yl_assign rfl (HF.ev rfl)) ?_; clear HF; clear a; intro a HF
  refine wpList_nil ?_
  refine ex_then ?_
  refine wp_seq ?_
  refine wp_seq ?_
  refine wp_region_lit ?_
  refine wl_y rfl HF rfl rfl (yl_loadR (cs := [.slice a0 st.fRows.length c0, .slice a1 st.fSpace.fRefs.length c1, .slice a2 st.fSpace.fLast.length c2, .int .i64 st.fTxg, .slice a4 st.fGone.length c4, .int .i64 st.fKeep, .slice a6 st.fDead.length c6, .bool st.fSame]) rfl (HF.ev rfl) ((HS.out.box 2 rfl).sub 0 8) (by kernel_rfl)) ?_; clear HF; clear a; intro a HF
  refine wl_callB rfl HF rfl (enter_of Try.func81 (by kernel_rfl) rfl) (args := #[.agg #[.slice a0 st.fRows.length c0, .slice a1 st.fSpace.fRefs.length c1, .slice a2 st.fSpace.fLast.length c2, .int .i64 st.fTxg, .slice a4 st.fGone.length c4, .int .i64 st.fKeep, .slice a6 st.fDead.length c6, .bool st.fSame]]) rfl (v := .bool st.ok) (specStoreOk_any _ st _ (HR.out.below HS.out.bel) hf hi64) rfl rfl HS.out ?_; clear HF HS; clear a; intro w4 a HS HF; replace HS := Bx.mk HS
  refine wl_y rfl HF rfl rfl (yl_not rfl (HF.ev rfl)) ?_; clear HF; clear a; intro a HF
  refine wl_y rfl HF rfl rfl (yl_move rfl (HF.ev rfl)) ?_; clear HF; clear a; intro a HF
  refine HF.cases 15 rfl (fun cc1 HF1 => ?_) (fun cc1 HF1 => ?_)
  · clear HF; have HF := HF1; clear HF1
    have hok : st.ok = false := by simpa using cc1
    refine wl_skip HF rfl rfl rfl rfl rfl rfl ?_; clear HF; clear a; intro a HF
    refine wl_skip HF rfl rfl rfl rfl rfl rfl ?_; clear HF; clear a; intro a HF
    refine wl_skip HF rfl rfl rfl rfl rfl rfl ?_; clear HF; clear a; intro a HF
    refine wl_y rfl HF rfl rfl (yl_pick_t rfl (HF.ev rfl) (HF.ev rfl)) ?_; clear HF; clear a; intro a HF
    refine wl_y rfl HF rfl rfl (yl_move rfl (HF.ev rfl)) ?_; clear HF; clear a; intro a HF
    refine wl_skip HF rfl rfl rfl rfl rfl rfl ?_; clear HF; clear a; intro a HF
    refine wl_skip HF rfl rfl rfl rfl rfl rfl ?_; clear HF; clear a; intro a HF
    refine wl_skip HF rfl rfl rfl rfl rfl rfl ?_; clear HF; clear a; intro a HF
    refine wl_y rfl HF rfl rfl (yl_pick_t rfl (HF.ev rfl) (HF.ev rfl)) ?_; clear HF; clear a; intro a HF
    refine wpList_nil ?_
    refine ex_then ?_
    refine wc_true HF rfl ?_
    refine wp_seq ?_
    refine wp_region_lit ?_
    refine wl_y rfl HF rfl rfl (yl_build HF rfl (ps := []) rfl (cs := #[.slice none 0 0, .slice none 0 0, .slice none 0 0, .int .i64 0, .slice none 0 0, .int .i64 0, .slice none 0 0, .bool false]) (by kernel_rfl)) ?_; clear HF; clear a; intro a HF
    refine wl_y rfl HF rfl rfl (yl_build HF rfl (ps := []) rfl (cs := #[.int .i64 0, .int .i64 0, .int .i64 0, .int .i64 0, .int .i64 0]) (by kernel_rfl)) ?_; clear HF; clear a; intro a HF
    refine wl_storeBox rfl HF rfl rfl (HF.ev rfl) (HF.ev rfl) HS.out 1 rfl (cells_lit [.slice none 0 0, .slice none 0 0, .slice none 0 0, .int .i64 0, .slice none 0 0, .int .i64 0, .slice none 0 0, .bool false] rfl rfl) (by kernel_rfl) ?_; clear HS; intro w5 HS; replace HS := Bx.mk HS
    have HS : Bx (St w0 ([boxA b3 5 33 (.agg #[.int .i64 0, .int .i64 0, .int .i64 0, .int .i64 0, .int .i64 0]), boxA b2 8 65 (.agg #[.slice none 0 0, .slice none 0 0, .slice none 0 0, .int .i64 0, .slice none 0 0, .int .i64 0, .slice none 0 0, .bool false]), boxA b1 8 65 (.agg #[.slice a0 st.fRows.length c0, .slice a1 st.fSpace.fRefs.length c1, .slice a2 st.fSpace.fLast.length c2, .int .i64 st.fTxg, .slice a4 st.fGone.length c4, .int .i64 st.fKeep, .slice a6 st.fDead.length c6, .bool st.fSame])]) _) := HS
    refine wl_storeBox rfl HF rfl rfl (HF.ev rfl) (HF.ev rfl) HS.out 0 rfl (cells_lit [.int .i64 0, .int .i64 0, .int .i64 0, .int .i64 0, .int .i64 0] rfl rfl) (by kernel_rfl) ?_; clear HS; intro w6 HS; replace HS := Bx.mk HS
    have HS : Bx (St w0 ([boxA b3 5 33 (.agg #[.int .i64 0, .int .i64 0, .int .i64 0, .int .i64 0, .int .i64 0]), boxA b2 8 65 (.agg #[.slice none 0 0, .slice none 0 0, .slice none 0 0, .int .i64 0, .slice none 0 0, .int .i64 0, .slice none 0 0, .bool false]), boxA b1 8 65 (.agg #[.slice a0 st.fRows.length c0, .slice a1 st.fSpace.fRefs.length c1, .slice a2 st.fSpace.fLast.length c2, .int .i64 st.fTxg, .slice a4 st.fGone.length c4, .int .i64 st.fKeep, .slice a6 st.fDead.length c6, .bool st.fSame])]) _) := HS
    refine wl_y rfl HF rfl rfl (yl_assign rfl (HF.ev rfl)) ?_; clear HF; clear a; intro a HF
    refine wpList_nil ?_
    refine ex_then ?_
    refine wp_ret ?_
    refine ex_then_ret ?_
    refine bp_ret3 HF Try.results25 (HF.resBox rfl (HS.out.box 1 rfl) (by kernel_rfl)) (HF.resBox rfl (HS.out.box 0 rfl) (by kernel_rfl)) (HF.res rfl) ?_
    obtain ⟨hm, hwr, hwp⟩ := W_not (st := st) (text := text) (level := level) (by rw [hok]; rfl)
    exact ⟨_, by rw [hm, hwp]; rfl, by rw [hwr]; exact own_zero _ _ _, HS.out.bel⟩
  · clear HF; have HF := HF1; clear HF1
    have hok : st.ok = true := by simpa using cc1
    refine wl_yg HF rfl rfl rfl rfl rfl (yl_move rfl (HF.ev rfl)) ?_; clear HF; clear a; intro a HF
    refine wl_callBg HF rfl rfl rfl rfl (enter_of Try.func53 (by kernel_rfl) rfl) (args := #[.string text]) rfl (v := .bool (inB (text.size : Int) 1 128)) (l2Block_any text _ (by omega)) rfl rfl HS.out ?_; clear HF HS; clear a; intro w7 a HS HF; replace HS := Bx.mk HS
    refine wl_yg HF rfl rfl rfl rfl rfl (yl_not rfl (HF.ev rfl)) ?_; clear HF; clear a; intro a HF
    refine wl_y rfl HF rfl rfl (yl_pick_f rfl (HF.ev rfl) (HF.ev rfl)) ?_; clear HF; clear a; intro a HF
    refine wl_y rfl HF rfl rfl (yl_move rfl (HF.ev rfl)) ?_; clear HF; clear a; intro a HF
    refine HF.cases 20 rfl (fun cc2 HF1 => ?_) (fun cc2 HF1 => ?_)
    · clear HF; have HF := HF1; clear HF1
      have hsz : inB (text.size : Int) 1 128 = false := by simpa using cc2
      refine wl_skip HF rfl rfl rfl rfl rfl rfl ?_; clear HF; clear a; intro a HF
      refine wl_skip HF rfl rfl rfl rfl rfl rfl ?_; clear HF; clear a; intro a HF
      refine wl_skip HF rfl rfl rfl rfl rfl rfl ?_; clear HF; clear a; intro a HF
      refine wl_y rfl HF rfl rfl (yl_pick_t rfl (HF.ev rfl) (HF.ev rfl)) ?_; clear HF; clear a; intro a HF
      refine wpList_nil ?_
      refine ex_then ?_
      refine wc_true HF rfl ?_
      refine wp_seq ?_
      refine wp_region_lit ?_
      refine wl_y rfl HF rfl rfl (yl_build HF rfl (ps := []) rfl (cs := #[.slice none 0 0, .slice none 0 0, .slice none 0 0, .int .i64 0, .slice none 0 0, .int .i64 0, .slice none 0 0, .bool false]) (by kernel_rfl)) ?_; clear HF; clear a; intro a HF
      refine wl_y rfl HF rfl rfl (yl_build HF rfl (ps := []) rfl (cs := #[.int .i64 0, .int .i64 0, .int .i64 0, .int .i64 0, .int .i64 0]) (by kernel_rfl)) ?_; clear HF; clear a; intro a HF
      refine wl_storeBox rfl HF rfl rfl (HF.ev rfl) (HF.ev rfl) HS.out 1 rfl (cells_lit [.slice none 0 0, .slice none 0 0, .slice none 0 0, .int .i64 0, .slice none 0 0, .int .i64 0, .slice none 0 0, .bool false] rfl rfl) (by kernel_rfl) ?_; clear HS; intro w8 HS; replace HS := Bx.mk HS
      have HS : Bx (St w0 ([boxA b3 5 33 (.agg #[.int .i64 0, .int .i64 0, .int .i64 0, .int .i64 0, .int .i64 0]), boxA b2 8 65 (.agg #[.slice none 0 0, .slice none 0 0, .slice none 0 0, .int .i64 0, .slice none 0 0, .int .i64 0, .slice none 0 0, .bool false]), boxA b1 8 65 (.agg #[.slice a0 st.fRows.length c0, .slice a1 st.fSpace.fRefs.length c1, .slice a2 st.fSpace.fLast.length c2, .int .i64 st.fTxg, .slice a4 st.fGone.length c4, .int .i64 st.fKeep, .slice a6 st.fDead.length c6, .bool st.fSame])]) _) := HS
      refine wl_storeBox rfl HF rfl rfl (HF.ev rfl) (HF.ev rfl) HS.out 0 rfl (cells_lit [.int .i64 0, .int .i64 0, .int .i64 0, .int .i64 0, .int .i64 0] rfl rfl) (by kernel_rfl) ?_; clear HS; intro w9 HS; replace HS := Bx.mk HS
      have HS : Bx (St w0 ([boxA b3 5 33 (.agg #[.int .i64 0, .int .i64 0, .int .i64 0, .int .i64 0, .int .i64 0]), boxA b2 8 65 (.agg #[.slice none 0 0, .slice none 0 0, .slice none 0 0, .int .i64 0, .slice none 0 0, .int .i64 0, .slice none 0 0, .bool false]), boxA b1 8 65 (.agg #[.slice a0 st.fRows.length c0, .slice a1 st.fSpace.fRefs.length c1, .slice a2 st.fSpace.fLast.length c2, .int .i64 st.fTxg, .slice a4 st.fGone.length c4, .int .i64 st.fKeep, .slice a6 st.fDead.length c6, .bool st.fSame])]) _) := HS
      refine wl_y rfl HF rfl rfl (yl_assign rfl (HF.ev rfl)) ?_; clear HF; clear a; intro a HF
      refine wpList_nil ?_
      refine ex_then ?_
      refine wp_ret ?_
      refine ex_then_ret ?_
      refine bp_ret3 HF Try.results25 (HF.resBox rfl (HS.out.box 1 rfl) (by kernel_rfl)) (HF.resBox rfl (HS.out.box 0 rfl) (by kernel_rfl)) (HF.res rfl) ?_
      obtain ⟨hm, hwr, hwp⟩ := W_not (st := st) (text := text) (level := level) (by rw [hok, hsz]; rfl)
      exact ⟨_, by rw [hm, hwp]; rfl, by rw [hwr]; exact own_zero _ _ _, HS.out.bel⟩
    · clear HF; have HF := HF1; clear HF1
      have hsz : inB (text.size : Int) 1 128 = true := by simpa using cc2
      refine wl_yg HF rfl rfl rfl rfl rfl (yl_move rfl (HF.ev rfl)) ?_; clear HF; clear a; intro a HF
      refine wl_callBg HF rfl rfl rfl rfl (enter_of Try.func82 (by kernel_rfl) rfl) (args := #[.int .i64 level, .int .i64 0, .int .i64 2]) rfl (v := .bool (inB level 0 2)) (((l6In_any level 0 2 _).mono fun _ _ h => ⟨h.1, h.2 ▸ Below.refl _ _⟩)) rfl rfl HS.out ?_; clear HF HS; clear a; intro w10 a HS HF; replace HS := Bx.mk HS
      refine wl_yg HF rfl rfl rfl rfl rfl (yl_not rfl (HF.ev rfl)) ?_; clear HF; clear a; intro a HF
      refine wl_y rfl HF rfl rfl (yl_pick_f rfl (HF.ev rfl) (HF.ev rfl)) ?_; clear HF; clear a; intro a HF
      refine wpList_nil ?_
      refine ex_then ?_
      refine HF.cases 24 rfl (fun cc3 HF1 => ?_) (fun cc3 HF1 => ?_)
      · clear HF; have HF := HF1; clear HF1
        have hlv : inB level 0 2 = false := by simpa using cc3
        refine wc_true HF rfl ?_
        refine wp_seq ?_
        refine wp_region_lit ?_
        refine wl_y rfl HF rfl rfl (yl_build HF rfl (ps := []) rfl (cs := #[.slice none 0 0, .slice none 0 0, .slice none 0 0, .int .i64 0, .slice none 0 0, .int .i64 0, .slice none 0 0, .bool false]) (by kernel_rfl)) ?_; clear HF; clear a; intro a HF
        refine wl_y rfl HF rfl rfl (yl_build HF rfl (ps := []) rfl (cs := #[.int .i64 0, .int .i64 0, .int .i64 0, .int .i64 0, .int .i64 0]) (by kernel_rfl)) ?_; clear HF; clear a; intro a HF
        refine wl_storeBox rfl HF rfl rfl (HF.ev rfl) (HF.ev rfl) HS.out 1 rfl (cells_lit [.slice none 0 0, .slice none 0 0, .slice none 0 0, .int .i64 0, .slice none 0 0, .int .i64 0, .slice none 0 0, .bool false] rfl rfl) (by kernel_rfl) ?_; clear HS; intro w11 HS; replace HS := Bx.mk HS
        have HS : Bx (St w0 ([boxA b3 5 33 (.agg #[.int .i64 0, .int .i64 0, .int .i64 0, .int .i64 0, .int .i64 0]), boxA b2 8 65 (.agg #[.slice none 0 0, .slice none 0 0, .slice none 0 0, .int .i64 0, .slice none 0 0, .int .i64 0, .slice none 0 0, .bool false]), boxA b1 8 65 (.agg #[.slice a0 st.fRows.length c0, .slice a1 st.fSpace.fRefs.length c1, .slice a2 st.fSpace.fLast.length c2, .int .i64 st.fTxg, .slice a4 st.fGone.length c4, .int .i64 st.fKeep, .slice a6 st.fDead.length c6, .bool st.fSame])]) _) := HS
        refine wl_storeBox rfl HF rfl rfl (HF.ev rfl) (HF.ev rfl) HS.out 0 rfl (cells_lit [.int .i64 0, .int .i64 0, .int .i64 0, .int .i64 0, .int .i64 0] rfl rfl) (by kernel_rfl) ?_; clear HS; intro w12 HS; replace HS := Bx.mk HS
        have HS : Bx (St w0 ([boxA b3 5 33 (.agg #[.int .i64 0, .int .i64 0, .int .i64 0, .int .i64 0, .int .i64 0]), boxA b2 8 65 (.agg #[.slice none 0 0, .slice none 0 0, .slice none 0 0, .int .i64 0, .slice none 0 0, .int .i64 0, .slice none 0 0, .bool false]), boxA b1 8 65 (.agg #[.slice a0 st.fRows.length c0, .slice a1 st.fSpace.fRefs.length c1, .slice a2 st.fSpace.fLast.length c2, .int .i64 st.fTxg, .slice a4 st.fGone.length c4, .int .i64 st.fKeep, .slice a6 st.fDead.length c6, .bool st.fSame])]) _) := HS
        refine wl_y rfl HF rfl rfl (yl_assign rfl (HF.ev rfl)) ?_; clear HF; clear a; intro a HF
        refine wpList_nil ?_
        refine ex_then ?_
        refine wp_ret ?_
        refine ex_then_ret ?_
        refine bp_ret3 HF Try.results25 (HF.resBox rfl (HS.out.box 1 rfl) (by kernel_rfl)) (HF.resBox rfl (HS.out.box 0 rfl) (by kernel_rfl)) (HF.res rfl) ?_
        obtain ⟨hm, hwr, hwp⟩ := W_not (st := st) (text := text) (level := level) (by rw [hok, hsz, hlv]; rfl)
        exact ⟨_, by rw [hm, hwp]; rfl, by rw [hwr]; exact own_zero _ _ _, HS.out.bel⟩
      · clear HF; have HF := HF1; clear HF1
        have hlv : inB level 0 2 = true := by simpa using cc3
        refine wc_false HF rfl ?_
        refine wp_skip ?_
        refine ex_then ?_
        refine wp_seq ?_
        refine wp_region_lit ?_
        refine wl_y rfl HF rfl rfl (yl_loadR (cs := [.slice a0 st.fRows.length c0, .slice a1 st.fSpace.fRefs.length c1, .slice a2 st.fSpace.fLast.length c2, .int .i64 st.fTxg, .slice a4 st.fGone.length c4, .int .i64 st.fKeep, .slice a6 st.fDead.length c6, .bool st.fSame]) rfl (HF.ev rfl) ((HS.out.box 2 rfl).sub 0 8) (by kernel_rfl)) ?_; clear HF; clear a; intro a HF
        refine wl_call rfl HF rfl (enter_of Try.func84 (by kernel_rfl) rfl) (args := #[.agg #[.slice a0 st.fRows.length c0, .slice a1 st.fSpace.fRefs.length c1, .slice a2 st.fSpace.fLast.length c2, .int .i64 st.fTxg, .slice a4 st.fGone.length c4, .int .i64 st.fKeep, .slice a6 st.fDead.length c6, .bool st.fSame]]) rfl (l7Copy_any _ st _ hf (HO.out.below HS.out.bel (Nat.le_refl _))) rfl rfl ?_
        rintro _ w13 ⟨_, rfl, ho, hb⟩
        obtain ⟨d0, f0, d1, f1, d2, f2, d4, f4, d6, f6, rfl, hn⟩ := StoreD.own_st ho hb
        refine ⟨_, rfl, ?_⟩; replace HS := Bx.mk (HS.out.add hn); clear ho hb hn HF; clear a; intro a HF
        have HS : Bx (St w0 ([rowA encS 1 9 (.slice d0 st.fRows.length f0) st.fRows, rowA encI 1 3 (.slice d1 st.fSpace.fRefs.length f1) st.fSpace.fRefs, rowA encI 1 3 (.slice d2 st.fSpace.fLast.length f2) st.fSpace.fLast, rowA PtrD.cells 5 33 (.slice d4 st.fGone.length f4) st.fGone, rowA PtrD.cells 5 33 (.slice d6 st.fDead.length f6) st.fDead, boxA b3 5 33 (.agg #[.int .i64 0, .int .i64 0, .int .i64 0, .int .i64 0, .int .i64 0]), boxA b2 8 65 (.agg #[.slice none 0 0, .slice none 0 0, .slice none 0 0, .int .i64 0, .slice none 0 0, .int .i64 0, .slice none 0 0, .bool false]), boxA b1 8 65 (.agg #[.slice a0 st.fRows.length c0, .slice a1 st.fSpace.fRefs.length c1, .slice a2 st.fSpace.fLast.length c2, .int .i64 st.fTxg, .slice a4 st.fGone.length c4, .int .i64 st.fKeep, .slice a6 st.fDead.length c6, .bool st.fSame])]) _) := HS
        have hOK := StoreD.ok_spec hok
        have hSP := SpaceD.ok_spec hOK.space
        refine wl_y rfl HF rfl rfl (yl_move rfl (HF.ev rfl)) ?_; clear HF; clear a; intro a HF
        refine wl_y rfl HF rfl rfl (yl_move rfl (HF.ev rfl)) ?_; clear HF; clear a; intro a HF
        refine wl_call rfl HF rfl (enter_of Try.func83 (by kernel_rfl) rfl) (args := #[.agg #[.slice d0 st.fRows.length f0, .slice d1 st.fSpace.fRefs.length f1, .slice d2 st.fSpace.fLast.length f2, .int .i64 st.fTxg, .slice d4 st.fGone.length f4, .int .i64 st.fKeep, .slice d6 st.fDead.length f6, .bool st.fSame], .string text, .int .i64 level]) rfl (l7Write_any w0 _ d0 f0 d1 f1 d2 f2 d4 f4 d6 f6 st text level _ HS.out hOK.rows hSP.refs hSP.last (by omega) hSP.all) rfl rfl ?_
        have hWS := W_spec (level := level) hok hsz
        rintro _ w14 (⟨hws, rfl, hs1⟩ | ⟨i, hi6, hws, ⟨hpf, rfl, hs1⟩ | ⟨hpt, rfl, hs1⟩⟩)
        · skip
          have hwa := hWS.1 hws
          obtain ⟨hm, hwr, hwp⟩ := W_none hwa
          refine ⟨_, rfl, ?_⟩; replace HS := Bx.mk hs1; clear hs1 HF; clear a; intro a HF
          have HS : Bx (St w0 ([rowA encS 1 9 (.slice d0 st.fRows.length f0) st.fRows, rowA encI 1 3 (.slice d1 st.fSpace.fRefs.length f1) st.fSpace.fRefs, rowA encI 1 3 (.slice d2 st.fSpace.fLast.length f2) st.fSpace.fLast, rowA PtrD.cells 5 33 (.slice d4 st.fGone.length f4) st.fGone, rowA PtrD.cells 5 33 (.slice d6 st.fDead.length f6) st.fDead, boxA b3 5 33 (.agg #[.int .i64 0, .int .i64 0, .int .i64 0, .int .i64 0, .int .i64 0]), boxA b2 8 65 (.agg #[.slice none 0 0, .slice none 0 0, .slice none 0 0, .int .i64 0, .slice none 0 0, .int .i64 0, .slice none 0 0, .bool false]), boxA b1 8 65 (.agg #[.slice a0 st.fRows.length c0, .slice a1 st.fSpace.fRefs.length c1, .slice a2 st.fSpace.fLast.length c2, .int .i64 st.fTxg, .slice a4 st.fGone.length c4, .int .i64 st.fKeep, .slice a6 st.fDead.length c6, .bool st.fSame])]) _) := HS
          refine wl_y rfl HF rfl rfl (yl_move rfl (HF.ev rfl)) ?_; clear HF; clear a; intro a HF
          refine wl_y rfl HF rfl rfl (yl_extract rfl (HF.ev rfl) rfl) ?_; clear HF; clear a; intro a HF
          refine wl_y rfl HF rfl rfl (yl_extract rfl (HF.ev rfl) rfl) ?_; clear HF; clear a; intro a HF
          refine wl_y rfl HF rfl rfl (yl_extract rfl (HF.ev rfl) rfl) ?_; clear HF; clear a; intro a HF
          refine wl_alloc rfl HF rfl rfl rfl (Z := [.slice none 0 0, .slice none 0 0, .slice none 0 0, .int .i64 0, .slice none 0 0, .int .i64 0, .slice none 0 0, .bool false]) (by kernel_rfl) rfl HS.out ?_; clear HF HS; clear a; intro a w15 b4 HF HS; replace HS := Bx.mk HS
          refine wl_alloc rfl HF rfl rfl rfl (Z := [.int .i64 0, .int .i64 0, .int .i64 0, .int .i64 0, .int .i64 0]) (by kernel_rfl) rfl HS.out ?_; clear HF HS; clear a; intro a w16 b5 HF HS; replace HS := Bx.mk HS
          refine wl_storeBox rfl HF rfl rfl (HF.ev rfl) (HF.ev rfl) HS.out 1 rfl (cells_lit [.slice d0 st.fRows.length f0, .slice d1 st.fSpace.fRefs.length f1, .slice d2 st.fSpace.fLast.length f2, .int .i64 st.fTxg, .slice d4 st.fGone.length f4, .int .i64 st.fKeep, .slice d6 st.fDead.length f6, .bool st.fSame] rfl rfl) (by kernel_rfl) ?_; clear HS; intro w17 HS; replace HS := Bx.mk HS
          have HS : Bx (St w0 ([boxA b5 5 33 (.agg #[.int .i64 0, .int .i64 0, .int .i64 0, .int .i64 0, .int .i64 0]), boxA b4 8 65 (.agg #[.slice d0 st.fRows.length f0, .slice d1 st.fSpace.fRefs.length f1, .slice d2 st.fSpace.fLast.length f2, .int .i64 st.fTxg, .slice d4 st.fGone.length f4, .int .i64 st.fKeep, .slice d6 st.fDead.length f6, .bool st.fSame]), rowA encS 1 9 (.slice d0 st.fRows.length f0) st.fRows, rowA encI 1 3 (.slice d1 st.fSpace.fRefs.length f1) st.fSpace.fRefs, rowA encI 1 3 (.slice d2 st.fSpace.fLast.length f2) st.fSpace.fLast, rowA PtrD.cells 5 33 (.slice d4 st.fGone.length f4) st.fGone, rowA PtrD.cells 5 33 (.slice d6 st.fDead.length f6) st.fDead, boxA b3 5 33 (.agg #[.int .i64 0, .int .i64 0, .int .i64 0, .int .i64 0, .int .i64 0]), boxA b2 8 65 (.agg #[.slice none 0 0, .slice none 0 0, .slice none 0 0, .int .i64 0, .slice none 0 0, .int .i64 0, .slice none 0 0, .bool false]), boxA b1 8 65 (.agg #[.slice a0 st.fRows.length c0, .slice a1 st.fSpace.fRefs.length c1, .slice a2 st.fSpace.fLast.length c2, .int .i64 st.fTxg, .slice a4 st.fGone.length c4, .int .i64 st.fKeep, .slice a6 st.fDead.length c6, .bool st.fSame])]) _) := HS
          refine wl_storeBox rfl HF rfl rfl (HF.ev rfl) (HF.ev rfl) HS.out 0 rfl (cells_lit [.int .i64 0, .int .i64 0, .int .i64 0, .int .i64 0, .int .i64 0] rfl rfl) (by kernel_rfl) ?_; clear HS; intro w18 HS; replace HS := Bx.mk HS
          have HS : Bx (St w0 ([boxA b5 5 33 (.agg #[.int .i64 0, .int .i64 0, .int .i64 0, .int .i64 0, .int .i64 0]), boxA b4 8 65 (.agg #[.slice d0 st.fRows.length f0, .slice d1 st.fSpace.fRefs.length f1, .slice d2 st.fSpace.fLast.length f2, .int .i64 st.fTxg, .slice d4 st.fGone.length f4, .int .i64 st.fKeep, .slice d6 st.fDead.length f6, .bool st.fSame]), rowA encS 1 9 (.slice d0 st.fRows.length f0) st.fRows, rowA encI 1 3 (.slice d1 st.fSpace.fRefs.length f1) st.fSpace.fRefs, rowA encI 1 3 (.slice d2 st.fSpace.fLast.length f2) st.fSpace.fLast, rowA PtrD.cells 5 33 (.slice d4 st.fGone.length f4) st.fGone, rowA PtrD.cells 5 33 (.slice d6 st.fDead.length f6) st.fDead, boxA b3 5 33 (.agg #[.int .i64 0, .int .i64 0, .int .i64 0, .int .i64 0, .int .i64 0]), boxA b2 8 65 (.agg #[.slice none 0 0, .slice none 0 0, .slice none 0 0, .int .i64 0, .slice none 0 0, .int .i64 0, .slice none 0 0, .bool false]), boxA b1 8 65 (.agg #[.slice a0 st.fRows.length c0, .slice a1 st.fSpace.fRefs.length c1, .slice a2 st.fSpace.fLast.length c2, .int .i64 st.fTxg, .slice a4 st.fGone.length c4, .int .i64 st.fKeep, .slice a6 st.fDead.length c6, .bool st.fSame])]) _) := HS
          refine wl_y rfl HF rfl rfl (yl_assign rfl (HF.ev rfl)) ?_; clear HF; clear a; intro a HF
          refine wpList_nil ?_
          refine ex_then ?_
          refine wp_seq ?_
          refine wp_seq ?_
          refine wp_region_lit ?_
          refine wl_y rfl HF rfl rfl (yl_move rfl (HF.ev rfl)) ?_; clear HF; clear a; intro a HF
          refine wl_y rfl HF rfl rfl (yl_not rfl (HF.ev rfl)) ?_; clear HF; clear a; intro a HF
          refine wpList_nil ?_
          refine ex_then ?_
          refine wc_true HF rfl ?_
          refine wp_seq ?_
          refine wp_region_lit ?_
          refine wl_y rfl HF rfl rfl (yl_build HF rfl (ps := []) rfl (cs := #[.slice none 0 0, .slice none 0 0, .slice none 0 0, .int .i64 0, .slice none 0 0, .int .i64 0, .slice none 0 0, .bool false]) (by kernel_rfl)) ?_; clear HF; clear a; intro a HF
          refine wl_y rfl HF rfl rfl (yl_build HF rfl (ps := []) rfl (cs := #[.int .i64 0, .int .i64 0, .int .i64 0, .int .i64 0, .int .i64 0]) (by kernel_rfl)) ?_; clear HF; clear a; intro a HF
          refine wl_storeBox rfl HF rfl rfl (HF.ev rfl) (HF.ev rfl) HS.out 8 rfl (cells_lit [.slice none 0 0, .slice none 0 0, .slice none 0 0, .int .i64 0, .slice none 0 0, .int .i64 0, .slice none 0 0, .bool false] rfl rfl) (by kernel_rfl) ?_; clear HS; intro w19 HS; replace HS := Bx.mk HS
          have HS : Bx (St w0 ([boxA b5 5 33 (.agg #[.int .i64 0, .int .i64 0, .int .i64 0, .int .i64 0, .int .i64 0]), boxA b4 8 65 (.agg #[.slice d0 st.fRows.length f0, .slice d1 st.fSpace.fRefs.length f1, .slice d2 st.fSpace.fLast.length f2, .int .i64 st.fTxg, .slice d4 st.fGone.length f4, .int .i64 st.fKeep, .slice d6 st.fDead.length f6, .bool st.fSame]), rowA encS 1 9 (.slice d0 st.fRows.length f0) st.fRows, rowA encI 1 3 (.slice d1 st.fSpace.fRefs.length f1) st.fSpace.fRefs, rowA encI 1 3 (.slice d2 st.fSpace.fLast.length f2) st.fSpace.fLast, rowA PtrD.cells 5 33 (.slice d4 st.fGone.length f4) st.fGone, rowA PtrD.cells 5 33 (.slice d6 st.fDead.length f6) st.fDead, boxA b3 5 33 (.agg #[.int .i64 0, .int .i64 0, .int .i64 0, .int .i64 0, .int .i64 0]), boxA b2 8 65 (.agg #[.slice none 0 0, .slice none 0 0, .slice none 0 0, .int .i64 0, .slice none 0 0, .int .i64 0, .slice none 0 0, .bool false]), boxA b1 8 65 (.agg #[.slice a0 st.fRows.length c0, .slice a1 st.fSpace.fRefs.length c1, .slice a2 st.fSpace.fLast.length c2, .int .i64 st.fTxg, .slice a4 st.fGone.length c4, .int .i64 st.fKeep, .slice a6 st.fDead.length c6, .bool st.fSame])]) _) := HS
          refine wl_storeBox rfl HF rfl rfl (HF.ev rfl) (HF.ev rfl) HS.out 7 rfl (cells_lit [.int .i64 0, .int .i64 0, .int .i64 0, .int .i64 0, .int .i64 0] rfl rfl) (by kernel_rfl) ?_; clear HS; intro w20 HS; replace HS := Bx.mk HS
          have HS : Bx (St w0 ([boxA b5 5 33 (.agg #[.int .i64 0, .int .i64 0, .int .i64 0, .int .i64 0, .int .i64 0]), boxA b4 8 65 (.agg #[.slice d0 st.fRows.length f0, .slice d1 st.fSpace.fRefs.length f1, .slice d2 st.fSpace.fLast.length f2, .int .i64 st.fTxg, .slice d4 st.fGone.length f4, .int .i64 st.fKeep, .slice d6 st.fDead.length f6, .bool st.fSame]), rowA encS 1 9 (.slice d0 st.fRows.length f0) st.fRows, rowA encI 1 3 (.slice d1 st.fSpace.fRefs.length f1) st.fSpace.fRefs, rowA encI 1 3 (.slice d2 st.fSpace.fLast.length f2) st.fSpace.fLast, rowA PtrD.cells 5 33 (.slice d4 st.fGone.length f4) st.fGone, rowA PtrD.cells 5 33 (.slice d6 st.fDead.length f6) st.fDead, boxA b3 5 33 (.agg #[.int .i64 0, .int .i64 0, .int .i64 0, .int .i64 0, .int .i64 0]), boxA b2 8 65 (.agg #[.slice none 0 0, .slice none 0 0, .slice none 0 0, .int .i64 0, .slice none 0 0, .int .i64 0, .slice none 0 0, .bool false]), boxA b1 8 65 (.agg #[.slice a0 st.fRows.length c0, .slice a1 st.fSpace.fRefs.length c1, .slice a2 st.fSpace.fLast.length c2, .int .i64 st.fTxg, .slice a4 st.fGone.length c4, .int .i64 st.fKeep, .slice a6 st.fDead.length c6, .bool st.fSame])]) _) := HS
          refine wl_y rfl HF rfl rfl (yl_assign rfl (HF.ev rfl)) ?_; clear HF; clear a; intro a HF
          refine wpList_nil ?_
          refine ex_then ?_
          refine wp_ret ?_
          refine ex_then_ret ?_
          refine bp_ret3 HF Try.results25 (HF.resBox rfl (HS.out.box 8 rfl) (by kernel_rfl)) (HF.resBox rfl (HS.out.box 7 rfl) (by kernel_rfl)) (HF.res rfl) ?_
          exact ⟨_, by rw [hm, hwp]; rfl, by rw [hwr]; exact own_zero _ _ _, HS.out.bel⟩
        · skip
          have hwa := hWS.2 i hws
          obtain ⟨hm, hwr, hwp, hpk, hsame⟩ := W_yes hok hsz hlv hi6 hwa
          rw [hpk] at hpf; cases hpf
        · skip
          have hwa := hWS.2 i hws
          obtain ⟨hm, hwr, hwp, hpk, hsame⟩ := W_yes hok hsz hlv hi6 hwa
          refine ⟨_, rfl, ?_⟩; replace HS := Bx.mk hs1; clear hs1 HF; clear a; intro a HF
          have HS : Bx (St w0 ([rowA encS 1 9 (.slice d0 st.fRows.length f0) (st.fRows.set i text), rowA encI 1 3 (.slice d1 st.fSpace.fRefs.length f1) (st.fSpace.fRefs.set i ((st.fSpace.fRefs.getD i 0) + 1)), rowA encI 1 3 (.slice d2 st.fSpace.fLast.length f2) (st.fSpace.fLast.set i st.fTxg), rowA PtrD.cells 5 33 (.slice d4 st.fGone.length f4) st.fGone, rowA PtrD.cells 5 33 (.slice d6 st.fDead.length f6) st.fDead, boxA b3 5 33 (.agg #[.int .i64 0, .int .i64 0, .int .i64 0, .int .i64 0, .int .i64 0]), boxA b2 8 65 (.agg #[.slice none 0 0, .slice none 0 0, .slice none 0 0, .int .i64 0, .slice none 0 0, .int .i64 0, .slice none 0 0, .bool false]), boxA b1 8 65 (.agg #[.slice a0 st.fRows.length c0, .slice a1 st.fSpace.fRefs.length c1, .slice a2 st.fSpace.fLast.length c2, .int .i64 st.fTxg, .slice a4 st.fGone.length c4, .int .i64 st.fKeep, .slice a6 st.fDead.length c6, .bool st.fSame])]) _) := HS
          refine wl_y rfl HF rfl rfl (yl_move rfl (HF.ev rfl)) ?_; clear HF; clear a; intro a HF
          refine wl_y rfl HF rfl rfl (yl_extract rfl (HF.ev rfl) rfl) ?_; clear HF; clear a; intro a HF
          refine wl_y rfl HF rfl rfl (yl_extract rfl (HF.ev rfl) rfl) ?_; clear HF; clear a; intro a HF
          refine wl_y rfl HF rfl rfl (yl_extract rfl (HF.ev rfl) rfl) ?_; clear HF; clear a; intro a HF
          refine wl_alloc rfl HF rfl rfl rfl (Z := [.slice none 0 0, .slice none 0 0, .slice none 0 0, .int .i64 0, .slice none 0 0, .int .i64 0, .slice none 0 0, .bool false]) (by kernel_rfl) rfl HS.out ?_; clear HF HS; clear a; intro a w21 b6 HF HS; replace HS := Bx.mk HS
          refine wl_alloc rfl HF rfl rfl rfl (Z := [.int .i64 0, .int .i64 0, .int .i64 0, .int .i64 0, .int .i64 0]) (by kernel_rfl) rfl HS.out ?_; clear HF HS; clear a; intro a w22 b7 HF HS; replace HS := Bx.mk HS
          refine wl_storeBox rfl HF rfl rfl (HF.ev rfl) (HF.ev rfl) HS.out 1 rfl (cells_lit [.slice d0 st.fRows.length f0, .slice d1 st.fSpace.fRefs.length f1, .slice d2 st.fSpace.fLast.length f2, .int .i64 st.fTxg, .slice d4 st.fGone.length f4, .int .i64 st.fKeep, .slice d6 st.fDead.length f6, .bool st.fSame] rfl rfl) (by kernel_rfl) ?_; clear HS; intro w23 HS; replace HS := Bx.mk HS
          have HS : Bx (St w0 ([boxA b7 5 33 (.agg #[.int .i64 0, .int .i64 0, .int .i64 0, .int .i64 0, .int .i64 0]), boxA b6 8 65 (.agg #[.slice d0 st.fRows.length f0, .slice d1 st.fSpace.fRefs.length f1, .slice d2 st.fSpace.fLast.length f2, .int .i64 st.fTxg, .slice d4 st.fGone.length f4, .int .i64 st.fKeep, .slice d6 st.fDead.length f6, .bool st.fSame]), rowA encS 1 9 (.slice d0 st.fRows.length f0) (st.fRows.set i text), rowA encI 1 3 (.slice d1 st.fSpace.fRefs.length f1) (st.fSpace.fRefs.set i ((st.fSpace.fRefs.getD i 0) + 1)), rowA encI 1 3 (.slice d2 st.fSpace.fLast.length f2) (st.fSpace.fLast.set i st.fTxg), rowA PtrD.cells 5 33 (.slice d4 st.fGone.length f4) st.fGone, rowA PtrD.cells 5 33 (.slice d6 st.fDead.length f6) st.fDead, boxA b3 5 33 (.agg #[.int .i64 0, .int .i64 0, .int .i64 0, .int .i64 0, .int .i64 0]), boxA b2 8 65 (.agg #[.slice none 0 0, .slice none 0 0, .slice none 0 0, .int .i64 0, .slice none 0 0, .int .i64 0, .slice none 0 0, .bool false]), boxA b1 8 65 (.agg #[.slice a0 st.fRows.length c0, .slice a1 st.fSpace.fRefs.length c1, .slice a2 st.fSpace.fLast.length c2, .int .i64 st.fTxg, .slice a4 st.fGone.length c4, .int .i64 st.fKeep, .slice a6 st.fDead.length c6, .bool st.fSame])]) _) := HS
          refine wl_storeBox rfl HF rfl rfl (HF.ev rfl) (HF.ev rfl) HS.out 0 rfl (cells_lit [.int .i64 ((ptrOf (i : Int) st.fTxg level text).fAt), .int .i64 ((ptrOf (i : Int) st.fTxg level text).fBirth), .int .i64 ((ptrOf (i : Int) st.fTxg level text).fSize), .int .i64 ((ptrOf (i : Int) st.fTxg level text).fSum), .int .i64 ((ptrOf (i : Int) st.fTxg level text).fLevel)] rfl rfl) (by kernel_rfl) ?_; clear HS; intro w24 HS; replace HS := Bx.mk HS
          have HS : Bx (St w0 ([boxA b7 5 33 (.agg #[.int .i64 ((ptrOf (i : Int) st.fTxg level text).fAt), .int .i64 ((ptrOf (i : Int) st.fTxg level text).fBirth), .int .i64 ((ptrOf (i : Int) st.fTxg level text).fSize), .int .i64 ((ptrOf (i : Int) st.fTxg level text).fSum), .int .i64 ((ptrOf (i : Int) st.fTxg level text).fLevel)]), boxA b6 8 65 (.agg #[.slice d0 st.fRows.length f0, .slice d1 st.fSpace.fRefs.length f1, .slice d2 st.fSpace.fLast.length f2, .int .i64 st.fTxg, .slice d4 st.fGone.length f4, .int .i64 st.fKeep, .slice d6 st.fDead.length f6, .bool st.fSame]), rowA encS 1 9 (.slice d0 st.fRows.length f0) (st.fRows.set i text), rowA encI 1 3 (.slice d1 st.fSpace.fRefs.length f1) (st.fSpace.fRefs.set i ((st.fSpace.fRefs.getD i 0) + 1)), rowA encI 1 3 (.slice d2 st.fSpace.fLast.length f2) (st.fSpace.fLast.set i st.fTxg), rowA PtrD.cells 5 33 (.slice d4 st.fGone.length f4) st.fGone, rowA PtrD.cells 5 33 (.slice d6 st.fDead.length f6) st.fDead, boxA b3 5 33 (.agg #[.int .i64 0, .int .i64 0, .int .i64 0, .int .i64 0, .int .i64 0]), boxA b2 8 65 (.agg #[.slice none 0 0, .slice none 0 0, .slice none 0 0, .int .i64 0, .slice none 0 0, .int .i64 0, .slice none 0 0, .bool false]), boxA b1 8 65 (.agg #[.slice a0 st.fRows.length c0, .slice a1 st.fSpace.fRefs.length c1, .slice a2 st.fSpace.fLast.length c2, .int .i64 st.fTxg, .slice a4 st.fGone.length c4, .int .i64 st.fKeep, .slice a6 st.fDead.length c6, .bool st.fSame])]) _) := HS
          refine wl_y rfl HF rfl rfl (yl_assign rfl (HF.ev rfl)) ?_; clear HF; clear a; intro a HF
          refine wpList_nil ?_
          refine ex_then ?_
          refine wp_seq ?_
          refine wp_seq ?_
          refine wp_region_lit ?_
          refine wl_y rfl HF rfl rfl (yl_move rfl (HF.ev rfl)) ?_; clear HF; clear a; intro a HF
          refine wl_y rfl HF rfl rfl (yl_not rfl (HF.ev rfl)) ?_; clear HF; clear a; intro a HF
          refine wpList_nil ?_
          refine ex_then ?_
          refine wc_false HF rfl ?_
          refine wp_skip ?_
          refine ex_then ?_
          refine wp_seq ?_
          refine wr_heldS (s := [boxA b7 5 33 (.agg #[.int .i64 ((ptrOf (i : Int) st.fTxg level text).fAt), .int .i64 ((ptrOf (i : Int) st.fTxg level text).fBirth), .int .i64 ((ptrOf (i : Int) st.fTxg level text).fSize), .int .i64 ((ptrOf (i : Int) st.fTxg level text).fSum), .int .i64 ((ptrOf (i : Int) st.fTxg level text).fLevel)]), boxA b6 8 65 (.agg #[.slice d0 st.fRows.length f0, .slice d1 st.fSpace.fRefs.length f1, .slice d2 st.fSpace.fLast.length f2, .int .i64 st.fTxg, .slice d4 st.fGone.length f4, .int .i64 st.fKeep, .slice d6 st.fDead.length f6, .bool st.fSame]), rowA encS 1 9 (.slice d0 st.fRows.length f0) (st.fRows.set i text), rowA encI 1 3 (.slice d1 st.fSpace.fRefs.length f1) (st.fSpace.fRefs.set i ((st.fSpace.fRefs.getD i 0) + 1)), rowA encI 1 3 (.slice d2 st.fSpace.fLast.length f2) (st.fSpace.fLast.set i st.fTxg), rowA PtrD.cells 5 33 (.slice d4 st.fGone.length f4) st.fGone, rowA PtrD.cells 5 33 (.slice d6 st.fDead.length f6) st.fDead, boxA b1 8 65 (.agg #[.slice a0 st.fRows.length c0, .slice a1 st.fSpace.fRefs.length c1, .slice a2 st.fSpace.fLast.length c2, .int .i64 st.fTxg, .slice a4 st.fGone.length c4, .int .i64 st.fKeep, .slice a6 st.fDead.length c6, .bool st.fSame])]) (by kernel_rfl) (St.drew (((HS.out.erase 8).erase 7))) ?_
          have HS2 := Bx.mk HS.out.drew; replace HS := Bx.mk (show St w0 ([boxA b7 5 33 (.agg #[.int .i64 ((ptrOf (i : Int) st.fTxg level text).fAt), .int .i64 ((ptrOf (i : Int) st.fTxg level text).fBirth), .int .i64 ((ptrOf (i : Int) st.fTxg level text).fSize), .int .i64 ((ptrOf (i : Int) st.fTxg level text).fSum), .int .i64 ((ptrOf (i : Int) st.fTxg level text).fLevel)]), boxA b6 8 65 (.agg #[.slice d0 st.fRows.length f0, .slice d1 st.fSpace.fRefs.length f1, .slice d2 st.fSpace.fLast.length f2, .int .i64 st.fTxg, .slice d4 st.fGone.length f4, .int .i64 st.fKeep, .slice d6 st.fDead.length f6, .bool st.fSame]), rowA encS 1 9 (.slice d0 st.fRows.length f0) (st.fRows.set i text), rowA encI 1 3 (.slice d1 st.fSpace.fRefs.length f1) (st.fSpace.fRefs.set i ((st.fSpace.fRefs.getD i 0) + 1)), rowA encI 1 3 (.slice d2 st.fSpace.fLast.length f2) (st.fSpace.fLast.set i st.fTxg), rowA PtrD.cells 5 33 (.slice d4 st.fGone.length f4) st.fGone, rowA PtrD.cells 5 33 (.slice d6 st.fDead.length f6) st.fDead, boxA b1 8 65 (.agg #[.slice a0 st.fRows.length c0, .slice a1 st.fSpace.fRefs.length c1, .slice a2 st.fSpace.fLast.length c2, .int .i64 st.fTxg, .slice a4 st.fGone.length c4, .int .i64 st.fKeep, .slice a6 st.fDead.length c6, .bool st.fSame])]) _ from ((HS.out.drew.erase 8).erase 7))
          generalize World.drew _ = w25 at HS HS2 ⊢
          refine wh_y 0 rfl (by kernel_rfl) (by kernel_rfl) (by kernel_rfl) (fun _ _ _ h => h) rfl HF rfl rfl (fun _ HS => (yl_loadR (cs := [.slice d0 st.fRows.length f0, .slice d1 st.fSpace.fRefs.length f1, .slice d2 st.fSpace.fLast.length f2, .int .i64 st.fTxg, .slice d4 st.fGone.length f4, .int .i64 st.fKeep, .slice d6 st.fDead.length f6, .bool st.fSame]) rfl (HF.ev rfl) ((HS.box 1 rfl).sub 0 8) (by kernel_rfl))) HS.out ?_; clear HF; clear a; intro a HF
          refine wh_y 1 rfl (by kernel_rfl) (by kernel_rfl) (by kernel_rfl) (fun _ _ _ h => h) rfl HF rfl rfl (fun _ HS => (yl_loadR (cs := [.int .i64 ((ptrOf (i : Int) st.fTxg level text).fAt), .int .i64 ((ptrOf (i : Int) st.fTxg level text).fBirth), .int .i64 ((ptrOf (i : Int) st.fTxg level text).fSize), .int .i64 ((ptrOf (i : Int) st.fTxg level text).fSum), .int .i64 ((ptrOf (i : Int) st.fTxg level text).fLevel)]) rfl (HF.ev rfl) ((HS.box 0 rfl).sub 0 5) (by kernel_rfl))) HS.out ?_; clear HF; clear a; intro a HF
          refine wh_one 2 (by kernel_rfl) ?_
          refine wo_storeBox rfl rfl rfl rfl (HF.ev rfl) (HF.ev rfl) HS2.out 8 rfl (cells_lit [.slice d0 st.fRows.length f0, .slice d1 st.fSpace.fRefs.length f1, .slice d2 st.fSpace.fLast.length f2, .int .i64 st.fTxg, .slice d4 st.fGone.length f4, .int .i64 st.fKeep, .slice d6 st.fDead.length f6, .bool st.fSame] rfl rfl) (by kernel_rfl) ?_
          clear HS HS2; intro w26 HS2; replace HS2 : Bx (St w0 ([boxA b7 5 33 (.agg #[.int .i64 ((ptrOf (i : Int) st.fTxg level text).fAt), .int .i64 ((ptrOf (i : Int) st.fTxg level text).fBirth), .int .i64 ((ptrOf (i : Int) st.fTxg level text).fSize), .int .i64 ((ptrOf (i : Int) st.fTxg level text).fSum), .int .i64 ((ptrOf (i : Int) st.fTxg level text).fLevel)]), boxA b6 8 65 (.agg #[.slice d0 st.fRows.length f0, .slice d1 st.fSpace.fRefs.length f1, .slice d2 st.fSpace.fLast.length f2, .int .i64 st.fTxg, .slice d4 st.fGone.length f4, .int .i64 st.fKeep, .slice d6 st.fDead.length f6, .bool st.fSame]), rowA encS 1 9 (.slice d0 st.fRows.length f0) (st.fRows.set i text), rowA encI 1 3 (.slice d1 st.fSpace.fRefs.length f1) (st.fSpace.fRefs.set i ((st.fSpace.fRefs.getD i 0) + 1)), rowA encI 1 3 (.slice d2 st.fSpace.fLast.length f2) (st.fSpace.fLast.set i st.fTxg), rowA PtrD.cells 5 33 (.slice d4 st.fGone.length f4) st.fGone, rowA PtrD.cells 5 33 (.slice d6 st.fDead.length f6) st.fDead, boxA b3 5 33 (.agg #[.int .i64 0, .int .i64 0, .int .i64 0, .int .i64 0, .int .i64 0]), boxA b2 8 65 (.agg #[.slice d0 st.fRows.length f0, .slice d1 st.fSpace.fRefs.length f1, .slice d2 st.fSpace.fLast.length f2, .int .i64 st.fTxg, .slice d4 st.fGone.length f4, .int .i64 st.fKeep, .slice d6 st.fDead.length f6, .bool st.fSame]), boxA b1 8 65 (.agg #[.slice a0 st.fRows.length c0, .slice a1 st.fSpace.fRefs.length c1, .slice a2 st.fSpace.fLast.length c2, .int .i64 st.fTxg, .slice a4 st.fGone.length c4, .int .i64 st.fKeep, .slice a6 st.fDead.length c6, .bool st.fSame])]) _) := ⟨HS2⟩
          have HS : Bx (St w0 ([boxA b7 5 33 (.agg #[.int .i64 ((ptrOf (i : Int) st.fTxg level text).fAt), .int .i64 ((ptrOf (i : Int) st.fTxg level text).fBirth), .int .i64 ((ptrOf (i : Int) st.fTxg level text).fSize), .int .i64 ((ptrOf (i : Int) st.fTxg level text).fSum), .int .i64 ((ptrOf (i : Int) st.fTxg level text).fLevel)]), boxA b6 8 65 (.agg #[.slice d0 st.fRows.length f0, .slice d1 st.fSpace.fRefs.length f1, .slice d2 st.fSpace.fLast.length f2, .int .i64 st.fTxg, .slice d4 st.fGone.length f4, .int .i64 st.fKeep, .slice d6 st.fDead.length f6, .bool st.fSame]), rowA encS 1 9 (.slice d0 st.fRows.length f0) (st.fRows.set i text), rowA encI 1 3 (.slice d1 st.fSpace.fRefs.length f1) (st.fSpace.fRefs.set i ((st.fSpace.fRefs.getD i 0) + 1)), rowA encI 1 3 (.slice d2 st.fSpace.fLast.length f2) (st.fSpace.fLast.set i st.fTxg), rowA PtrD.cells 5 33 (.slice d4 st.fGone.length f4) st.fGone, rowA PtrD.cells 5 33 (.slice d6 st.fDead.length f6) st.fDead, boxA b1 8 65 (.agg #[.slice a0 st.fRows.length c0, .slice a1 st.fSpace.fRefs.length c1, .slice a2 st.fSpace.fLast.length c2, .int .i64 st.fTxg, .slice a4 st.fGone.length c4, .int .i64 st.fKeep, .slice a6 st.fDead.length c6, .bool st.fSame])]) _) := ⟨((HS2.out.erase 8).erase 7)⟩; refine ⟨HS.out, ?_⟩
          refine wh_one 3 (by kernel_rfl) ?_
          refine wo_storeBox rfl rfl rfl rfl (HF.ev rfl) (HF.ev rfl) HS2.out 7 rfl (cells_lit [.int .i64 ((ptrOf (i : Int) st.fTxg level text).fAt), .int .i64 ((ptrOf (i : Int) st.fTxg level text).fBirth), .int .i64 ((ptrOf (i : Int) st.fTxg level text).fSize), .int .i64 ((ptrOf (i : Int) st.fTxg level text).fSum), .int .i64 ((ptrOf (i : Int) st.fTxg level text).fLevel)] rfl rfl) (by kernel_rfl) ?_
          clear HS HS2; intro w27 HS2; replace HS2 : Bx (St w0 ([boxA b7 5 33 (.agg #[.int .i64 ((ptrOf (i : Int) st.fTxg level text).fAt), .int .i64 ((ptrOf (i : Int) st.fTxg level text).fBirth), .int .i64 ((ptrOf (i : Int) st.fTxg level text).fSize), .int .i64 ((ptrOf (i : Int) st.fTxg level text).fSum), .int .i64 ((ptrOf (i : Int) st.fTxg level text).fLevel)]), boxA b6 8 65 (.agg #[.slice d0 st.fRows.length f0, .slice d1 st.fSpace.fRefs.length f1, .slice d2 st.fSpace.fLast.length f2, .int .i64 st.fTxg, .slice d4 st.fGone.length f4, .int .i64 st.fKeep, .slice d6 st.fDead.length f6, .bool st.fSame]), rowA encS 1 9 (.slice d0 st.fRows.length f0) (st.fRows.set i text), rowA encI 1 3 (.slice d1 st.fSpace.fRefs.length f1) (st.fSpace.fRefs.set i ((st.fSpace.fRefs.getD i 0) + 1)), rowA encI 1 3 (.slice d2 st.fSpace.fLast.length f2) (st.fSpace.fLast.set i st.fTxg), rowA PtrD.cells 5 33 (.slice d4 st.fGone.length f4) st.fGone, rowA PtrD.cells 5 33 (.slice d6 st.fDead.length f6) st.fDead, boxA b3 5 33 (.agg #[.int .i64 ((ptrOf (i : Int) st.fTxg level text).fAt), .int .i64 ((ptrOf (i : Int) st.fTxg level text).fBirth), .int .i64 ((ptrOf (i : Int) st.fTxg level text).fSize), .int .i64 ((ptrOf (i : Int) st.fTxg level text).fSum), .int .i64 ((ptrOf (i : Int) st.fTxg level text).fLevel)]), boxA b2 8 65 (.agg #[.slice d0 st.fRows.length f0, .slice d1 st.fSpace.fRefs.length f1, .slice d2 st.fSpace.fLast.length f2, .int .i64 st.fTxg, .slice d4 st.fGone.length f4, .int .i64 st.fKeep, .slice d6 st.fDead.length f6, .bool st.fSame]), boxA b1 8 65 (.agg #[.slice a0 st.fRows.length c0, .slice a1 st.fSpace.fRefs.length c1, .slice a2 st.fSpace.fLast.length c2, .int .i64 st.fTxg, .slice a4 st.fGone.length c4, .int .i64 st.fKeep, .slice a6 st.fDead.length c6, .bool st.fSame])]) _) := ⟨HS2⟩
          have HS : Bx (St w0 ([boxA b7 5 33 (.agg #[.int .i64 ((ptrOf (i : Int) st.fTxg level text).fAt), .int .i64 ((ptrOf (i : Int) st.fTxg level text).fBirth), .int .i64 ((ptrOf (i : Int) st.fTxg level text).fSize), .int .i64 ((ptrOf (i : Int) st.fTxg level text).fSum), .int .i64 ((ptrOf (i : Int) st.fTxg level text).fLevel)]), boxA b6 8 65 (.agg #[.slice d0 st.fRows.length f0, .slice d1 st.fSpace.fRefs.length f1, .slice d2 st.fSpace.fLast.length f2, .int .i64 st.fTxg, .slice d4 st.fGone.length f4, .int .i64 st.fKeep, .slice d6 st.fDead.length f6, .bool st.fSame]), rowA encS 1 9 (.slice d0 st.fRows.length f0) (st.fRows.set i text), rowA encI 1 3 (.slice d1 st.fSpace.fRefs.length f1) (st.fSpace.fRefs.set i ((st.fSpace.fRefs.getD i 0) + 1)), rowA encI 1 3 (.slice d2 st.fSpace.fLast.length f2) (st.fSpace.fLast.set i st.fTxg), rowA PtrD.cells 5 33 (.slice d4 st.fGone.length f4) st.fGone, rowA PtrD.cells 5 33 (.slice d6 st.fDead.length f6) st.fDead, boxA b1 8 65 (.agg #[.slice a0 st.fRows.length c0, .slice a1 st.fSpace.fRefs.length c1, .slice a2 st.fSpace.fLast.length c2, .int .i64 st.fTxg, .slice a4 st.fGone.length c4, .int .i64 st.fKeep, .slice a6 st.fDead.length c6, .bool st.fSame])]) _) := ⟨((HS2.out.erase 8).erase 7)⟩; refine ⟨HS.out, ?_⟩
          refine wh_y 4 rfl (by kernel_rfl) (by kernel_rfl) (by kernel_rfl) (fun _ _ _ h => h) rfl HF rfl rfl (fun _ HS => (yl_assign rfl (HF.ev rfl))) HS.out ?_; clear HF; clear a; intro a HF
          refine wh_done (by kernel_rfl) ?_
          replace HS := HS2; clear HS2
          refine ex_then ?_
          refine wp_ret ?_
          refine bp_ret3 HF Try.results25 (HF.resBox rfl (HS.out.box 8 rfl) (by kernel_rfl)) (HF.resBox rfl (HS.out.box 7 rfl) (by kernel_rfl)) (HF.res rfl) ?_
          refine ⟨.agg #[.slice d0 st.fRows.length f0, .slice d1 st.fSpace.fRefs.length f1, .slice d2 st.fSpace.fLast.length f2, .int .i64 st.fTxg, .slice d4 st.fGone.length f4, .int .i64 st.fKeep, .slice d6 st.fDead.length f6, .bool st.fSame], ?_, ?_, HS.out.bel⟩
          · rw [hm, hwp, ← ptrOf_yes hpk]
          · rw [hwr]; exact own_put (by simp) HS.out.tail.tail

end Go.Proofs.Ytfijfjjleelphaa
