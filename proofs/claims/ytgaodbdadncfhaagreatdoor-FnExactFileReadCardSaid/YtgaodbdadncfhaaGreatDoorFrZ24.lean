/- A part of the proof in YtgaodbdadncfhaaGreatDoorFrZ29. -/
import Derived.Test.YtgaodbdadncfhaaGreatDoorFrZ23
/- Records read by the reference; nodes asked and told: walked. -/
namespace Go.Proofs.YtgaodbdadncfhaaGreatDoor
set_option linter.unusedVariables false
set_option linter.unusedSimpArgs false
set_option maxHeartbeats 1000000
set_option maxRecDepth 100000
open Go.RowKit

theorem l10Each_any (kind : Int) (w0 : World) : Calls Tryz.prog 129 #[.int .i64 kind] w0 fun e w' => e = .returned (.int .i64 (eachN kind)) ∧ Below w0.heap.size w0 w' := by
 have HS := Bx.mk (St.start w0)
 refine wc_enter Tryz.func129 rfl Tryz.ntmps129 [(0, .int .i64 kind)] ⟨rfl, trivial⟩ rfl ?_; intro a HF
 refine wp_sr ?_
 refine za HF ?_;clear HF a;intro a HF
 refine wl_ne ?_
 refine wp_seq ?_
 refine wp_sr ?_
 refine zm HF ?_;clear HF a;intro a HF
 refine wl_ne ?_
 refine wp_block ?_
 refine wp_sr ?_
 refine zr 2 HF rfl ?_;clear HF a;intro a HF
 refine wl_ne ?_
 refine HF.cases 4 rfl (fun cc1 _ => ?_) fun cc1 _ => ?_
 ·clear HF;rename_i HF
  have dcc1 := eq_of_beq cc1
  refine wc_true HF rfl ?_
  refine wp_sr ?_
  refine za HF ?_;clear HF a;intro a HF
  refine wl_ne ?_
  refine wp_ret ?_
  refine ex_block_ret ?_
  refine ex_then_ret ?_
  refine bp_ret1 HF Tryz.results129 (HF.res rfl) ?_
  have he : eachN kind = 12 := by rw [dcc1]; rfl
  exact ⟨by rw [he], HS.out.bel⟩
 ·clear HF;rename_i HF
  have dcc1 := ne_of_beq_false cc1
  refine wc_false HF rfl ?_
  refine wp_sr ?_
  refine zr 2 HF rfl ?_;clear HF a;intro a HF
  refine wl_ne ?_
  refine HF.cases 6 rfl (fun cc2 _ => ?_) fun cc2 _ => ?_
  ·clear HF;rename_i HF
   have dcc2 := eq_of_beq cc2
   refine wc_true HF rfl ?_
   refine wp_sr ?_
   refine za HF ?_;clear HF a;intro a HF
   refine wl_ne ?_
   refine wp_ret ?_
   refine ex_block_ret ?_
   refine ex_then_ret ?_
   refine bp_ret1 HF Tryz.results129 (HF.res rfl) ?_
   have he : eachN kind = 128 := by rw [dcc2]; rfl
   exact ⟨by rw [he], HS.out.bel⟩
  ·clear HF;rename_i HF
   have dcc2 := ne_of_beq_false cc2
   refine wc_false HF rfl ?_
   refine wp_skip ?_
   refine ex_block ?_
   refine ex_then ?_
   refine wp_sr ?_
   refine za HF ?_;clear HF a;intro a HF
   refine wl_ne ?_
   refine wp_ret ?_
   refine bp_ret1 HF Tryz.results129 (HF.res rfl) ?_
   have he : eachN kind = 0 := eachN_none dcc1 dcc2
   exact ⟨by rw [he], HS.out.bel⟩

theorem l10Pieces_any (size each : Int) (h0 : 0 ≤ size) (h1 : 1 ≤ each) (hs : size ≤ 1000000) (he : each ≤ 1000000) (w0 : World) : Calls Tryz.prog 130 #[.int .i64 size, .int .i64 each] w0 fun e w' => e = .returned (.int .i64 ((size + each - (1 : Int)) / each)) ∧ Below w0.heap.size w0 w' := by
 have HS := Bx.mk (St.start w0)
 refine wc_enter Tryz.func130 rfl Tryz.ntmps130 [(0, .int .i64 size), (1, .int .i64 each)] ⟨rfl, rfl, trivial⟩ rfl ?_; intro a HF
 refine wp_sr ?_
 refine za HF ?_;clear HF a;intro a HF
 refine wl_ne ?_
 refine wp_sr ?_
 refine zr 2 HF rfl ?_;clear HF a;intro a HF
 refine zy HF (yl_addI rfl (HF.ev rfl) (HF.ev rfl) (i64w (by omega))) ?_;clear HF a;intro a HF
 refine zy HF (yl_subI rfl (HF.ev rfl) (HF.ev rfl) (i64w (by omega))) ?_;clear HF a;intro a HF
 refine zm HF ?_;clear HF a;intro a HF
 refine zy HF (yl_quoI rfl (HF.ev rfl) (HF.ev rfl) (by omega) (quo_pos (by omega) (by omega) (by omega))) ?_;clear HF a;intro a HF
 refine za HF ?_;clear HF a;intro a HF
 refine wl_ne ?_
 refine wp_ret ?_
 refine bp_ret1 HF Tryz.results130 (HF.res rfl) ?_
 exact ⟨rfl, HS.out.bel⟩

theorem eachN_le (k : Int) : 0 ≤ eachN k ∧ eachN k ≤ 128 := by
  unfold eachN
  split
  · omega
  · split <;> omega

theorem implNodePieces_any (kind size : Int) (w0 : World) : Calls Tryz.prog 97 #[.int .i64 kind, .int .i64 size] w0 fun e w' => e = .returned (.int .i64 (piecesN kind size)) ∧ Below w0.heap.size w0 w' := by
 have HS := Bx.mk (St.start w0)
 refine wc_enter Tryz.func97 rfl Tryz.ntmps97 [(0, .int .i64 kind), (1, .int .i64 size)] ⟨rfl, rfl, trivial⟩ rfl ?_; intro a HF
 refine wp_sr ?_
 refine za HF ?_;clear HF a;intro a HF
 refine wl_ne ?_
 refine wp_sr ?_
 refine za HF ?_;clear HF a;intro a HF
 refine wl_ne ?_
 refine wp_seq ?_
 refine wp_seq ?_
 have hel := eachN_le kind
 refine wp_region_lit ?_
 refine zm HF ?_;clear HF a;intro a HF
 refine wl_ne ?_
 refine wp_block ?_
 refine wp_sr ?_
 refine zr 2 HF rfl ?_;clear HF a;intro a HF
 refine wl_ne ?_
 refine HF.cases 7 rfl (fun cc1 _ => ?_) fun cc1 _ => ?_
 ·clear HF;rename_i HF
  have dcc1 := eq_of_beq cc1
  refine wc_true HF rfl ?_
  refine wp_region_lit ?_
  refine za HF ?_;clear HF a;intro a HF
  refine wpList_nil ?_
  refine ex_block ?_
  refine ex_then ?_
  refine wp_seq ?_
  refine wp_sr ?_
  refine zr 3 HF rfl ?_;clear HF a;intro a HF
  replace HF := HF.know (k := 13) (c := false) rfl (by decide)
  refine zr 2 HF rfl ?_;clear HF a;intro a HF
  refine zg HF (yl_mulI (r := 192) rfl (HF.ev rfl) (HF.ev rfl) (by decide)) ?_;clear HF a;intro a HF
  refine wl_callBg HF rfl rfl rfl rfl (enter_of Tryz.func48 (by kernel_rfl) rfl) (args := #[.int .i64 size, .int .i64 0, .int .i64 192]) rfl (v := .bool (inB size 0 192)) (((within_any size 0 192 _).mono fun _ _ h => ⟨h.1, h.2 ▸ Below.refl _ _⟩)) rfl rfl HS.out ?_; clear HF HS a; intro w1 a HS HF; replace HS := Bx.mk HS
  refine zr 2 HF rfl ?_;clear HF a;intro a HF
  refine wl_ne ?_
  refine HF.cases 19 rfl (fun cc2 _ => ?_) fun cc2 _ => ?_
  ·clear HF;rename_i HF
   have hin : inB size 0 192 = false := by simpa using cc2
   refine wc_true HF rfl ?_
   refine wp_sr ?_
   refine za HF ?_;clear HF a;intro a HF
   refine wl_ne ?_
   refine wp_ret ?_
   refine ex_then_ret ?_
   refine bp_ret1 HF Tryz.results97 (HF.res rfl) ?_
   have he : eachN kind = 12 := by rw [dcc1]; rfl
   have hp : piecesN kind size = -1 := piecesN_out (fun h => by rw [he] at h; rw [inB_yes h.1 (by omega)] at hin; cases hin)
   exact ⟨by rw [hp], HS.out.bel⟩
  ·clear HF;rename_i HF
   have hin : inB size 0 192 = true := by simpa using cc2
   have hib := inB_true hin
   refine wc_false HF rfl ?_
   refine wp_skip ?_
   refine ex_then ?_
   refine wp_sr ?_
   refine zr 2 HF rfl ?_;clear HF a;intro a HF
   refine zy HF (yl_addI rfl (HF.ev rfl) (HF.ev rfl) (i64w (by omega))) ?_;clear HF a;intro a HF
   refine zy HF (yl_subI rfl (HF.ev rfl) (HF.ev rfl) (i64w (by omega))) ?_;clear HF a;intro a HF
   refine zm HF ?_;clear HF a;intro a HF
   refine zy HF (yl_quoI rfl (HF.ev rfl) (HF.ev rfl) (by omega) (quo_pos (by omega) (by omega) (by omega))) ?_;clear HF a;intro a HF
   refine za HF ?_;clear HF a;intro a HF
   refine wl_ne ?_
   refine wp_ret ?_
   refine bp_ret1 HF Tryz.results97 (HF.res rfl) ?_
   have he : eachN kind = 12 := by rw [dcc1]; rfl
   have hp : piecesN kind size = ((size + 12) - 1) / 12 := by rw [piecesN_in (k := kind) (by omega) (by omega) (by omega), he]
   exact ⟨by rw [hp], HS.out.bel⟩
 ·clear HF;rename_i HF
  have dcc1 := ne_of_beq_false cc1
  refine wc_false HF rfl ?_
  refine wp_sr ?_
  refine zr 2 HF rfl ?_;clear HF a;intro a HF
  refine wl_ne ?_
  refine HF.cases 9 rfl (fun cc3 _ => ?_) fun cc3 _ => ?_
  ·clear HF;rename_i HF
   have dcc3 := eq_of_beq cc3
   refine wc_true HF rfl ?_
   refine wp_region_lit ?_
   refine za HF ?_;clear HF a;intro a HF
   refine wpList_nil ?_
   refine ex_block ?_
   refine ex_then ?_
   refine wp_seq ?_
   refine wp_sr ?_
   refine zr 3 HF rfl ?_;clear HF a;intro a HF
   replace HF := HF.know (k := 13) (c := false) rfl (by decide)
   refine zr 2 HF rfl ?_;clear HF a;intro a HF
   refine zg HF (yl_mulI (r := 2048) rfl (HF.ev rfl) (HF.ev rfl) (by decide)) ?_;clear HF a;intro a HF
   refine wl_callBg HF rfl rfl rfl rfl (enter_of Tryz.func48 (by kernel_rfl) rfl) (args := #[.int .i64 size, .int .i64 0, .int .i64 2048]) rfl (v := .bool (inB size 0 2048)) (((within_any size 0 2048 _).mono fun _ _ h => ⟨h.1, h.2 ▸ Below.refl _ _⟩)) rfl rfl HS.out ?_; clear HF HS a; intro w2 a HS HF; replace HS := Bx.mk HS
   refine zr 2 HF rfl ?_;clear HF a;intro a HF
   refine wl_ne ?_
   refine HF.cases 19 rfl (fun cc4 _ => ?_) fun cc4 _ => ?_
   ·clear HF;rename_i HF
    have hin : inB size 0 2048 = false := by simpa using cc4
    refine wc_true HF rfl ?_
    refine wp_sr ?_
    refine za HF ?_;clear HF a;intro a HF
    refine wl_ne ?_
    refine wp_ret ?_
    refine ex_then_ret ?_
    refine bp_ret1 HF Tryz.results97 (HF.res rfl) ?_
    have he : eachN kind = 128 := by rw [dcc3]; rfl
    have hp : piecesN kind size = -1 := piecesN_out (fun h => by rw [he] at h; rw [inB_yes h.1 (by omega)] at hin; cases hin)
    exact ⟨by rw [hp], HS.out.bel⟩
   ·clear HF;rename_i HF
    have hin : inB size 0 2048 = true := by simpa using cc4
    have hib := inB_true hin
    refine wc_false HF rfl ?_
    refine wp_skip ?_
    refine ex_then ?_
    refine wp_sr ?_
    refine zr 2 HF rfl ?_;clear HF a;intro a HF
    refine zy HF (yl_addI rfl (HF.ev rfl) (HF.ev rfl) (i64w (by omega))) ?_;clear HF a;intro a HF
    refine zy HF (yl_subI rfl (HF.ev rfl) (HF.ev rfl) (i64w (by omega))) ?_;clear HF a;intro a HF
    refine zm HF ?_;clear HF a;intro a HF
    refine zy HF (yl_quoI rfl (HF.ev rfl) (HF.ev rfl) (by omega) (quo_pos (by omega) (by omega) (by omega))) ?_;clear HF a;intro a HF
    refine za HF ?_;clear HF a;intro a HF
    refine wl_ne ?_
    refine wp_ret ?_
    refine bp_ret1 HF Tryz.results97 (HF.res rfl) ?_
    have he : eachN kind = 128 := by rw [dcc3]; rfl
    have hp : piecesN kind size = ((size + 128) - 1) / 128 := by rw [piecesN_in (k := kind) (by omega) (by omega) (by omega), he]
    exact ⟨by rw [hp], HS.out.bel⟩
  ·clear HF;rename_i HF
   have dcc3 := ne_of_beq_false cc3
   refine wc_false HF rfl ?_
   refine wp_skip ?_
   refine ex_block ?_
   refine ex_then ?_
   refine wp_seq ?_
   refine wp_sr ?_
   refine zr 3 HF rfl ?_;clear HF a;intro a HF
   replace HF := HF.know (k := 13) (c := true) rfl (by decide)
   refine zr 6 HF rfl ?_;clear HF a;intro a HF
   refine wl_ne ?_
   refine wc_true HF rfl ?_
   refine wp_sr ?_
   refine za HF ?_;clear HF a;intro a HF
   refine wl_ne ?_
   refine wp_ret ?_
   refine ex_then_ret ?_
   refine bp_ret1 HF Tryz.results97 (HF.res rfl) ?_
   have he : eachN kind = 0 := eachN_none dcc1 dcc3
   have hp : piecesN kind size = -1 := piecesN_no (he)
   exact ⟨by rw [hp], HS.out.bel⟩

theorem specNodePieces_any (kind size : Int) (w0 : World) : Calls Tryz.prog 103 #[.int .i64 kind, .int .i64 size] w0 fun e w' => e = .returned (.int .i64 (piecesN kind size)) ∧ Below w0.heap.size w0 w' := by
 have HS := Bx.mk (St.start w0)
 refine wc_enter Tryz.func103 rfl Tryz.ntmps103 [(0, .int .i64 kind), (1, .int .i64 size)] ⟨rfl, rfl, trivial⟩ rfl ?_; intro a HF
 refine wp_sr ?_
 refine za HF ?_;clear HF a;intro a HF
 refine wl_ne ?_
 refine wp_sr ?_
 refine zm HF ?_;clear HF a;intro a HF
 refine wl_callB rfl HF rfl (enter_of Tryz.func129 (by kernel_rfl) rfl) (args := #[.int .i64 kind]) rfl (v := .int .i64 (eachN kind)) (l10Each_any kind _) rfl rfl HS.out ?_; clear HF HS a; intro w1 a HS HF; replace HS := Bx.mk HS
 refine za HF ?_;clear HF a;intro a HF
 refine wl_ne ?_
 refine wp_seq ?_
 refine wp_seq ?_
 have hel := eachN_le kind
 refine wp_region_lit ?_
 refine zr 3 HF rfl ?_;clear HF a;intro a HF
 refine HF.cases 10 rfl (fun cc1 _ => ?_) fun cc1 _ => ?_
 ·clear HF;rename_i HF
  have dcc1 := eq_of_beq cc1
  refine zr 6 HF rfl ?_;clear HF a;intro a HF
  refine wl_ne ?_
  refine wc_true HF rfl ?_
  refine wp_sr ?_
  refine za HF ?_;clear HF a;intro a HF
  refine wl_ne ?_
  refine wp_ret ?_
  refine ex_then_ret ?_
  refine bp_ret1 HF Tryz.results103 (HF.res rfl) ?_
  have hp : piecesN kind size = -1 := piecesN_no (by omega)
  exact ⟨by rw [hp], HS.out.bel⟩
 ·clear HF;rename_i HF
  have dcc1 := ne_of_beq_false cc1
  refine zr 2 HF rfl ?_;clear HF a;intro a HF
  refine zg HF (yl_mulI rfl (HF.ev rfl) (HF.ev rfl) (i64w (by omega))) ?_;clear HF a;intro a HF
  refine wl_callBg HF rfl rfl rfl rfl (enter_of Tryz.func46 (by kernel_rfl) rfl) (args := #[.int .i64 size, .int .i64 0, .int .i64 ((16 : Int) * (eachN kind))]) rfl (v := .bool (inB size 0 ((16 : Int) * (eachN kind)))) (((l6In_any size 0 ((16 : Int) * (eachN kind)) _).mono fun _ _ h => ⟨h.1, h.2 ▸ Below.refl _ _⟩)) rfl rfl HS.out ?_; clear HF HS a; intro w2 a HS HF; replace HS := Bx.mk HS
  refine zr 2 HF rfl ?_;clear HF a;intro a HF
  refine wl_ne ?_
  refine HF.cases 16 rfl (fun cc2 _ => ?_) fun cc2 _ => ?_
  ·clear HF;rename_i HF
   have hin : inB size 0 ((16 : Int) * (eachN kind)) = false := by simpa using cc2
   refine wc_true HF rfl ?_
   refine wp_sr ?_
   refine za HF ?_;clear HF a;intro a HF
   refine wl_ne ?_
   refine wp_ret ?_
   refine ex_then_ret ?_
   refine bp_ret1 HF Tryz.results103 (HF.res rfl) ?_
   have hp : piecesN kind size = -1 := piecesN_out (fun h => by rw [inB_yes h.1 (by omega)] at hin; cases hin)
   exact ⟨by rw [hp], HS.out.bel⟩
  ·clear HF;rename_i HF
   have hin : inB size 0 ((16 : Int) * (eachN kind)) = true := by simpa using cc2
   have hib := inB_true hin
   refine wc_false HF rfl ?_
   refine wp_skip ?_
   refine ex_then ?_
   refine wp_sr ?_
   refine zr 2 HF rfl ?_;clear HF a;intro a HF
   refine wl_callB rfl HF rfl (enter_of Tryz.func130 (by kernel_rfl) rfl) (args := #[.int .i64 size, .int .i64 (eachN kind)]) rfl (v := .int .i64 ((size + (eachN kind) - (1 : Int)) / (eachN kind))) (l10Pieces_any size (eachN kind) (by omega) (by omega) (by omega) (by omega) _) rfl rfl HS.out ?_; clear HF HS a; intro w3 a HS HF; replace HS := Bx.mk HS
   refine za HF ?_;clear HF a;intro a HF
   refine wl_ne ?_
   refine wp_ret ?_
   refine bp_ret1 HF Tryz.results103 (HF.res rfl) ?_
   have hp : piecesN kind size = ((size + (eachN kind) - (1 : Int)) / (eachN kind)) := piecesN_in (k := kind) (by omega) (by omega) (by omega)
   exact ⟨by rw [hp], HS.out.bel⟩

theorem implNodeOk_any (n : NodeD) (w0 : World) : Calls Tryz.prog 65 #[nV n] w0 fun e w' => e = .returned (.bool n.ok) ∧ Below w0.heap.size w0 w' := by
  have HS := Bx.mk (St.start w0)
  refine wc_enter Tryz.func65 rfl Tryz.ntmps65 [(0, nV n)] ⟨rfl, trivial⟩ rfl ?_; intro a HF
  refine wp_sr ?_
  refine wl_box rfl HF rfl (HF.ev rfl) (Z := [.int .i64 n.fKind, .int .i64 n.fLinks, .int .i64 n.fSize, .int .i64 n.fTree.fRoot.fAt, .int .i64 n.fTree.fRoot.fBirth, .int .i64 n.fTree.fRoot.fSize, .int .i64 n.fTree.fRoot.fSum, .int .i64 n.fTree.fRoot.fLevel, .int .i64 n.fTree.fDepth, .int .i64 n.fTree.fMany]) rfl rfl rfl rfl HS.out ?_; clear HF HS a; intro a w1 b1 HF HS; replace HS := Bx.mk HS
  refine za HF ?_;clear HF a;intro a HF
  refine wl_ne ?_
  refine wp_sr ?_
  refine zy HF (yfa 0 rfl (HF.ev rfl)) ?_;clear HF a;intro a HF
  refine zy HF (ylo (v := .int .i64 n.fKind) rfl (HF.ev rfl) (((HS.out.box 0 rfl).cell 0).trans rfl)) ?_;clear HF a;intro a HF
  refine zy HF (yfa 2 rfl (HF.ev rfl)) ?_;clear HF a;intro a HF
  refine zy HF (ylo (v := .int .i64 n.fSize) rfl (HF.ev rfl) (((HS.out.box 0 rfl).cell 2).trans rfl)) ?_;clear HF a;intro a HF
  refine wl_callB rfl HF rfl (enter_of Tryz.func97 (by kernel_rfl) rfl) (args := #[.int .i64 n.fKind, .int .i64 n.fSize]) rfl (v := .int .i64 (piecesN n.fKind n.fSize)) (implNodePieces_any n.fKind n.fSize _) rfl rfl HS.out ?_; clear HF HS a; intro w2 a HS HF; replace HS := Bx.mk HS
  refine za HF ?_;clear HF a;intro a HF
  refine wl_ne ?_
  refine wp_sr ?_
  refine za HF ?_;clear HF a;intro a HF
  refine wl_ne ?_
  refine wp_seq ?_
  refine wp_sr ?_
  refine zy HF (yfa 0 rfl (HF.ev rfl)) ?_;clear HF a;intro a HF
  refine zy HF (ylo (v := .int .i64 n.fKind) rfl (HF.ev rfl) (((HS.out.box 0 rfl).cell 0).trans rfl)) ?_;clear HF a;intro a HF
  refine zy HF (yl_eqlI rfl (HF.ev rfl) (HF.ev rfl)) ?_;clear HF a;intro a HF
  refine wl_ne ?_
  refine HF.cases 12 rfl (fun cc1 _ => ?_) fun cc1 _ => ?_
  · clear HF;rename_i HF
    have dcc1 := eq_of_beq cc1
    refine wc_true HF rfl ?_
    refine wp_region_lit ?_
    refine za HF ?_;clear HF a;intro a HF
    refine wl_ne ?_
    refine wp_seq ?_
    refine wr_quiet (by kernel_rfl) (by kernel_rfl) HS.out ?_
    refine zrq 3 HF rfl ?_;clear HF a;intro a HF
    refine HF.cases 15 rfl (fun cc2 _ => ?_) fun cc2 _ => ?_
    · clear HF;rename_i HF
      have dcc2 := of_decide_eq_true cc2
      refine zqg HF (fun _ HS => (yfa 1 rfl (HF.ev rfl))) ?_;clear HF a;intro a HF
      refine zqg HF (fun _ HS => (ylo (v := .int .i64 n.fLinks) rfl (HF.ev rfl) (((HS.box 0 rfl).cell 1).trans rfl))) ?_;clear HF a;intro a HF
      refine zqg HF (fun _ HS => (yl_move rfl (HF.ev rfl))) ?_;clear HF a;intro a HF
      refine wq_callg HF rfl rfl rfl rfl (enter_of Tryz.func48 (by kernel_rfl) rfl) (args := #[.int .i64 n.fLinks, .int .i64 1, .int .i64 1]) rfl (v := .bool (inB n.fLinks 1 1)) (fun _ HS => ((within_any n.fLinks 1 1 _).mono fun _ _ h => ⟨h.1, h.2 ▸ Below.refl _ _⟩)) rfl rfl ?_;clear HF a;intro a HF
      refine zrq 2 HF rfl ?_;clear HF a;intro a HF
      refine HF.cases 21 rfl (fun cc3 _ => ?_) fun cc3 _ => ?_
      · clear HF;rename_i HF
        refine zqg HF (fun _ HS => (yfa 3 rfl (HF.ev rfl))) ?_;clear HF a;intro a HF
        refine zqg HF (fun _ HS => (yfa 6 rfl (HF.ev rfl))) ?_;clear HF a;intro a HF
        refine zqg HF (fun _ HS => (ylo (v := .int .i64 n.fTree.fMany) rfl (HF.ev rfl) (((HS.box 0 rfl).cell 9).trans rfl))) ?_;clear HF a;intro a HF
        refine zrq 4 HF rfl ?_;clear HF a;intro a HF
        refine HF.cases 28 rfl (fun cc4 _ => ?_) fun cc4 _ => ?_
        · clear HF;rename_i HF
          have dcc4 := eq_of_beq cc4
          refine zqg HF (fun _ HS => (yfa 3 rfl (HF.ev rfl))) ?_;clear HF a;intro a HF
          refine zqg HF (fun _ HS => (yfa 5 rfl (HF.ev rfl))) ?_;clear HF a;intro a HF
          refine zqg HF (fun _ HS => (ylo (v := .int .i64 n.fTree.fDepth) rfl (HF.ev rfl) (((HS.box 0 rfl).cell 8).trans rfl))) ?_;clear HF a;intro a HF
          refine zqg HF (fun _ HS => (yl_move rfl (HF.ev rfl))) ?_;clear HF a;intro a HF
          refine wq_callg HF rfl rfl rfl rfl (enter_of Tryz.func82 (by kernel_rfl) rfl) (args := #[.int .i64 (piecesN n.fKind n.fSize)]) rfl (v := .int .i64 ((depthN (piecesN n.fKind n.fSize) : Nat) : Int)) (fun _ HS => depthOf_any (piecesN n.fKind n.fSize) _) rfl rfl ?_;clear HF a;intro a HF
          refine zrq 3 HF rfl ?_;clear HF a;intro a HF
          refine HF.cases 36 rfl (fun cc5 _ => ?_) fun cc5 _ => ?_
          · clear HF;rename_i HF
            have dcc5 := eq_of_beq cc5
            refine zqg HF (fun _ HS => (yfa 3 rfl (HF.ev rfl))) ?_;clear HF a;intro a HF
            refine zqg HF (fun _ HS => (yfa 0 rfl (HF.ev rfl))) ?_;clear HF a;intro a HF
            refine zqg HF (fun _ HS => (ylr (cs := [.int .i64 n.fTree.fRoot.fAt, .int .i64 n.fTree.fRoot.fBirth, .int .i64 n.fTree.fRoot.fSize, .int .i64 n.fTree.fRoot.fSum, .int .i64 n.fTree.fRoot.fLevel]) rfl (HF.ev rfl) ((HS.box 0 rfl).sub 3 5))) ?_;clear HF a;intro a HF
            refine wq_callg HF rfl rfl rfl rfl (enter_of Tryz.func64 (by kernel_rfl) rfl) (args := #[pV n.fTree.fRoot]) rfl (v := .bool n.fTree.fRoot.ok) (fun _ HS => implPtrOk_any n.fTree.fRoot _) rfl rfl ?_;clear HF a;intro a HF
            refine zrq 2 HF rfl ?_;clear HF a;intro a HF
            refine HF.cases 42 rfl (fun cc6 _ => ?_) fun cc6 _ => ?_
            · clear HF;rename_i HF
              refine zqg HF (fun _ HS => (yfa 3 rfl (HF.ev rfl))) ?_;clear HF a;intro a HF
              refine zqg HF (fun _ HS => (yfa 0 rfl (HF.ev rfl))) ?_;clear HF a;intro a HF
              refine zqg HF (fun _ HS => (ylr (cs := [.int .i64 n.fTree.fRoot.fAt, .int .i64 n.fTree.fRoot.fBirth, .int .i64 n.fTree.fRoot.fSize, .int .i64 n.fTree.fRoot.fSum, .int .i64 n.fTree.fRoot.fLevel]) rfl (HF.ev rfl) ((HS.box 0 rfl).sub 3 5))) ?_;clear HF a;intro a HF
              refine wq_callg HF rfl rfl rfl rfl (enter_of Tryz.func45 (by kernel_rfl) rfl) (args := #[pV n.fTree.fRoot]) rfl (v := .bool n.fTree.fRoot.hole) (fun _ HS => implHole_any n.fTree.fRoot _) rfl rfl ?_;clear HF a;intro a HF
              refine zqg HF (fun _ HS => (yl_move rfl (HF.ev rfl))) ?_;clear HF a;intro a HF
              refine HF.cases 47 rfl (fun cc7 _ => ?_) fun cc7 _ => ?_
              · clear HF;rename_i HF
                refine zrq 11 HF rfl ?_;clear HF a;intro a HF
                refine wpQuiet_nil ?_; intro w3 HS; replace HS := Bx.mk HS
                refine ex_then ?_
                refine wp_ret ?_
                refine bp_ret1 HF Tryz.results65 (HF.res rfl) ?_
                have hok : n.ok = true := NodeD.ok_yes ⟨by omega, by have h := inB_true (by simpa using cc3); rw [if_pos dcc1]; exact h, by simpa using dcc4, by simpa using dcc5, by simpa using cc6, .inl (by simpa using cc7)⟩
                exact ⟨by rw [hok], HS.out.bel⟩
              · clear HF;rename_i HF
                refine zqg HF (fun _ HS => (yfa 3 rfl (HF.ev rfl))) ?_;clear HF a;intro a HF
                refine zqg HF (fun _ HS => (yfa 0 rfl (HF.ev rfl))) ?_;clear HF a;intro a HF
                refine zqg HF (fun _ HS => (yfa 4 rfl (HF.ev rfl))) ?_;clear HF a;intro a HF
                refine zqg HF (fun _ HS => (ylo (v := .int .i64 n.fTree.fRoot.fLevel) rfl (HF.ev rfl) (((HS.box 0 rfl).cell 7).trans rfl))) ?_;clear HF a;intro a HF
                refine zqg HF (fun _ HS => (yfa 3 rfl (HF.ev rfl))) ?_;clear HF a;intro a HF
                refine zqg HF (fun _ HS => (yfa 5 rfl (HF.ev rfl))) ?_;clear HF a;intro a HF
                refine zqg HF (fun _ HS => (ylo (v := .int .i64 n.fTree.fDepth) rfl (HF.ev rfl) (((HS.box 0 rfl).cell 8).trans rfl))) ?_;clear HF a;intro a HF
                refine zrq 4 HF rfl ?_;clear HF a;intro a HF
                refine wpQuiet_nil ?_; intro w4 HS; replace HS := Bx.mk HS
                refine ex_then ?_
                refine wp_ret ?_
                refine bp_ret1 HF Tryz.results65 (HF.res rfl) ?_
                cases hlast : (n.fTree.fRoot.fLevel == n.fTree.fDepth) with
                | true =>
                  have hok : n.ok = true := NodeD.ok_yes ⟨by omega, by have h := inB_true (by simpa using cc3); rw [if_pos dcc1]; exact h, by simpa using dcc4, by simpa using dcc5, by simpa using cc6, .inr (eq_of_beq hlast)⟩
                  exact ⟨by rw [hok] <;> rfl, HS.out.bel⟩
                | false =>
                  have hok : n.ok = false := NodeD.ok_no fun h => by
                    rcases h.level with h | h
                    · rw [h] at cc7; simp at cc7
                    · rw [h] at hlast; simp at hlast
                  exact ⟨by rw [hok] <;> rfl, HS.out.bel⟩
            · clear HF;rename_i HF
              refine zrq 16 HF rfl ?_;clear HF a;intro a HF
              refine wpQuiet_nil ?_; intro w5 HS; replace HS := Bx.mk HS
              refine ex_then ?_
              refine wp_ret ?_
              refine bp_ret1 HF Tryz.results65 (HF.res rfl) ?_
              have hok : n.ok = false := NodeD.ok_no fun h => by
                rw [h.root] at cc6; simp at cc6
              exact ⟨by rw [hok], HS.out.bel⟩
          · clear HF;rename_i HF
            have dcc5 := ne_of_beq_false cc5
            refine zrq 22 HF rfl ?_;clear HF a;intro a HF
            refine wpQuiet_nil ?_; intro w6 HS; replace HS := Bx.mk HS
            refine ex_then ?_
            refine wp_ret ?_
            refine bp_ret1 HF Tryz.results65 (HF.res rfl) ?_
            have hok : n.ok = false := NodeD.ok_no fun h => by
              exact dcc5 h.depth
            exact ⟨by rw [hok], HS.out.bel⟩
        · clear HF;rename_i HF
          have dcc4 := ne_of_beq_false cc4
          refine zrq 30 HF rfl ?_;clear HF a;intro a HF
          refine wpQuiet_nil ?_; intro w7 HS; replace HS := Bx.mk HS
          refine ex_then ?_
          refine wp_ret ?_
          refine bp_ret1 HF Tryz.results65 (HF.res rfl) ?_
          have hok : n.ok = false := NodeD.ok_no fun h => by
            exact dcc4 h.tmany
          exact ⟨by rw [hok], HS.out.bel⟩
      · clear HF;rename_i HF
        refine zrq 37 HF rfl ?_;clear HF a;intro a HF
        refine wpQuiet_nil ?_; intro w8 HS; replace HS := Bx.mk HS
        refine ex_then ?_
        refine wp_ret ?_
        refine bp_ret1 HF Tryz.results65 (HF.res rfl) ?_
        have hok : n.ok = false := NodeD.ok_no fun h => by
          have h1 := h.links; rw [if_pos dcc1] at h1; rw [inB_yes h1.1 h1.2] at cc3; simp at cc3
        exact ⟨by rw [hok], HS.out.bel⟩
    · clear HF;rename_i HF
      have dcc2 := of_decide_eq_false cc2
      refine zrq 43 HF rfl ?_;clear HF a;intro a HF
      refine wpQuiet_nil ?_; intro w9 HS; replace HS := Bx.mk HS
      refine ex_then ?_
      refine wp_ret ?_
      refine bp_ret1 HF Tryz.results65 (HF.res rfl) ?_
      have hok : n.ok = false := NodeD.ok_no fun h => by
        have := h.many; omega
      exact ⟨by rw [hok], HS.out.bel⟩
  · clear HF;rename_i HF
    have dcc1 := ne_of_beq_false cc1
    refine wc_false HF rfl ?_
    refine wp_skip ?_
    refine ex_then ?_
    refine wp_seq ?_
    refine wr_quiet (by kernel_rfl) (by kernel_rfl) HS.out ?_
    refine zrq 3 HF rfl ?_;clear HF a;intro a HF
    refine HF.cases 15 rfl (fun cc8 _ => ?_) fun cc8 _ => ?_
    · clear HF;rename_i HF
      have dcc8 := of_decide_eq_true cc8
      refine zqg HF (fun _ HS => (yfa 1 rfl (HF.ev rfl))) ?_;clear HF a;intro a HF
      refine zqg HF (fun _ HS => (ylo (v := .int .i64 n.fLinks) rfl (HF.ev rfl) (((HS.box 0 rfl).cell 1).trans rfl))) ?_;clear HF a;intro a HF
      refine zqg HF (fun _ HS => (yl_move rfl (HF.ev rfl))) ?_;clear HF a;intro a HF
      refine wq_callg HF rfl rfl rfl rfl (enter_of Tryz.func48 (by kernel_rfl) rfl) (args := #[.int .i64 n.fLinks, .int .i64 1, .int .i64 9]) rfl (v := .bool (inB n.fLinks 1 9)) (fun _ HS => ((within_any n.fLinks 1 9 _).mono fun _ _ h => ⟨h.1, h.2 ▸ Below.refl _ _⟩)) rfl rfl ?_;clear HF a;intro a HF
      refine zrq 2 HF rfl ?_;clear HF a;intro a HF
      refine HF.cases 21 rfl (fun cc9 _ => ?_) fun cc9 _ => ?_
      · clear HF;rename_i HF
        refine zqg HF (fun _ HS => (yfa 3 rfl (HF.ev rfl))) ?_;clear HF a;intro a HF
        refine zqg HF (fun _ HS => (yfa 6 rfl (HF.ev rfl))) ?_;clear HF a;intro a HF
        refine zqg HF (fun _ HS => (ylo (v := .int .i64 n.fTree.fMany) rfl (HF.ev rfl) (((HS.box 0 rfl).cell 9).trans rfl))) ?_;clear HF a;intro a HF
        refine zrq 4 HF rfl ?_;clear HF a;intro a HF
        refine HF.cases 28 rfl (fun cc10 _ => ?_) fun cc10 _ => ?_
        · clear HF;rename_i HF
          have dcc10 := eq_of_beq cc10
          refine zqg HF (fun _ HS => (yfa 3 rfl (HF.ev rfl))) ?_;clear HF a;intro a HF
          refine zqg HF (fun _ HS => (yfa 5 rfl (HF.ev rfl))) ?_;clear HF a;intro a HF
          refine zqg HF (fun _ HS => (ylo (v := .int .i64 n.fTree.fDepth) rfl (HF.ev rfl) (((HS.box 0 rfl).cell 8).trans rfl))) ?_;clear HF a;intro a HF
          refine zqg HF (fun _ HS => (yl_move rfl (HF.ev rfl))) ?_;clear HF a;intro a HF
          refine wq_callg HF rfl rfl rfl rfl (enter_of Tryz.func82 (by kernel_rfl) rfl) (args := #[.int .i64 (piecesN n.fKind n.fSize)]) rfl (v := .int .i64 ((depthN (piecesN n.fKind n.fSize) : Nat) : Int)) (fun _ HS => depthOf_any (piecesN n.fKind n.fSize) _) rfl rfl ?_;clear HF a;intro a HF
          refine zrq 3 HF rfl ?_;clear HF a;intro a HF
          refine HF.cases 36 rfl (fun cc11 _ => ?_) fun cc11 _ => ?_
          · clear HF;rename_i HF
            have dcc11 := eq_of_beq cc11
            refine zqg HF (fun _ HS => (yfa 3 rfl (HF.ev rfl))) ?_;clear HF a;intro a HF
            refine zqg HF (fun _ HS => (yfa 0 rfl (HF.ev rfl))) ?_;clear HF a;intro a HF
            refine zqg HF (fun _ HS => (ylr (cs := [.int .i64 n.fTree.fRoot.fAt, .int .i64 n.fTree.fRoot.fBirth, .int .i64 n.fTree.fRoot.fSize, .int .i64 n.fTree.fRoot.fSum, .int .i64 n.fTree.fRoot.fLevel]) rfl (HF.ev rfl) ((HS.box 0 rfl).sub 3 5))) ?_;clear HF a;intro a HF
            refine wq_callg HF rfl rfl rfl rfl (enter_of Tryz.func64 (by kernel_rfl) rfl) (args := #[pV n.fTree.fRoot]) rfl (v := .bool n.fTree.fRoot.ok) (fun _ HS => implPtrOk_any n.fTree.fRoot _) rfl rfl ?_;clear HF a;intro a HF
            refine zrq 2 HF rfl ?_;clear HF a;intro a HF
            refine HF.cases 42 rfl (fun cc12 _ => ?_) fun cc12 _ => ?_
            · clear HF;rename_i HF
              refine zqg HF (fun _ HS => (yfa 3 rfl (HF.ev rfl))) ?_;clear HF a;intro a HF
              refine zqg HF (fun _ HS => (yfa 0 rfl (HF.ev rfl))) ?_;clear HF a;intro a HF
              refine zqg HF (fun _ HS => (ylr (cs := [.int .i64 n.fTree.fRoot.fAt, .int .i64 n.fTree.fRoot.fBirth, .int .i64 n.fTree.fRoot.fSize, .int .i64 n.fTree.fRoot.fSum, .int .i64 n.fTree.fRoot.fLevel]) rfl (HF.ev rfl) ((HS.box 0 rfl).sub 3 5))) ?_;clear HF a;intro a HF
              refine wq_callg HF rfl rfl rfl rfl (enter_of Tryz.func45 (by kernel_rfl) rfl) (args := #[pV n.fTree.fRoot]) rfl (v := .bool n.fTree.fRoot.hole) (fun _ HS => implHole_any n.fTree.fRoot _) rfl rfl ?_;clear HF a;intro a HF
              refine zqg HF (fun _ HS => (yl_move rfl (HF.ev rfl))) ?_;clear HF a;intro a HF
              refine HF.cases 47 rfl (fun cc13 _ => ?_) fun cc13 _ => ?_
              · clear HF;rename_i HF
                refine zrq 11 HF rfl ?_;clear HF a;intro a HF
                refine wpQuiet_nil ?_; intro w10 HS; replace HS := Bx.mk HS
                refine ex_then ?_
                refine wp_ret ?_
                refine bp_ret1 HF Tryz.results65 (HF.res rfl) ?_
                have hok : n.ok = true := NodeD.ok_yes ⟨by omega, by have h := inB_true (by simpa using cc9); rw [if_neg dcc1]; exact h, by simpa using dcc10, by simpa using dcc11, by simpa using cc12, .inl (by simpa using cc13)⟩
                exact ⟨by rw [hok], HS.out.bel⟩
              · clear HF;rename_i HF
                refine zqg HF (fun _ HS => (yfa 3 rfl (HF.ev rfl))) ?_;clear HF a;intro a HF
                refine zqg HF (fun _ HS => (yfa 0 rfl (HF.ev rfl))) ?_;clear HF a;intro a HF
                refine zqg HF (fun _ HS => (yfa 4 rfl (HF.ev rfl))) ?_;clear HF a;intro a HF
                refine zqg HF (fun _ HS => (ylo (v := .int .i64 n.fTree.fRoot.fLevel) rfl (HF.ev rfl) (((HS.box 0 rfl).cell 7).trans rfl))) ?_;clear HF a;intro a HF
                refine zqg HF (fun _ HS => (yfa 3 rfl (HF.ev rfl))) ?_;clear HF a;intro a HF
                refine zqg HF (fun _ HS => (yfa 5 rfl (HF.ev rfl))) ?_;clear HF a;intro a HF
                refine zqg HF (fun _ HS => (ylo (v := .int .i64 n.fTree.fDepth) rfl (HF.ev rfl) (((HS.box 0 rfl).cell 8).trans rfl))) ?_;clear HF a;intro a HF
                refine zrq 4 HF rfl ?_;clear HF a;intro a HF
                refine wpQuiet_nil ?_; intro w11 HS; replace HS := Bx.mk HS
                refine ex_then ?_
                refine wp_ret ?_
                refine bp_ret1 HF Tryz.results65 (HF.res rfl) ?_
                cases hlast : (n.fTree.fRoot.fLevel == n.fTree.fDepth) with
                | true =>
                  have hok : n.ok = true := NodeD.ok_yes ⟨by omega, by have h := inB_true (by simpa using cc9); rw [if_neg dcc1]; exact h, by simpa using dcc10, by simpa using dcc11, by simpa using cc12, .inr (eq_of_beq hlast)⟩
                  exact ⟨by rw [hok] <;> rfl, HS.out.bel⟩
                | false =>
                  have hok : n.ok = false := NodeD.ok_no fun h => by
                    rcases h.level with h | h
                    · rw [h] at cc13; simp at cc13
                    · rw [h] at hlast; simp at hlast
                  exact ⟨by rw [hok] <;> rfl, HS.out.bel⟩
            · clear HF;rename_i HF
              refine zrq 16 HF rfl ?_;clear HF a;intro a HF
              refine wpQuiet_nil ?_; intro w12 HS; replace HS := Bx.mk HS
              refine ex_then ?_
              refine wp_ret ?_
              refine bp_ret1 HF Tryz.results65 (HF.res rfl) ?_
              have hok : n.ok = false := NodeD.ok_no fun h => by
                rw [h.root] at cc12; simp at cc12
              exact ⟨by rw [hok], HS.out.bel⟩
          · clear HF;rename_i HF
            have dcc11 := ne_of_beq_false cc11
            refine zrq 22 HF rfl ?_;clear HF a;intro a HF
            refine wpQuiet_nil ?_; intro w13 HS; replace HS := Bx.mk HS
            refine ex_then ?_
            refine wp_ret ?_
            refine bp_ret1 HF Tryz.results65 (HF.res rfl) ?_
            have hok : n.ok = false := NodeD.ok_no fun h => by
              exact dcc11 h.depth
            exact ⟨by rw [hok], HS.out.bel⟩
        · clear HF;rename_i HF
          have dcc10 := ne_of_beq_false cc10
          refine zrq 30 HF rfl ?_;clear HF a;intro a HF
          refine wpQuiet_nil ?_; intro w14 HS; replace HS := Bx.mk HS
          refine ex_then ?_
          refine wp_ret ?_
          refine bp_ret1 HF Tryz.results65 (HF.res rfl) ?_
          have hok : n.ok = false := NodeD.ok_no fun h => by
            exact dcc10 h.tmany
          exact ⟨by rw [hok], HS.out.bel⟩
      · clear HF;rename_i HF
        refine zrq 37 HF rfl ?_;clear HF a;intro a HF
        refine wpQuiet_nil ?_; intro w15 HS; replace HS := Bx.mk HS
        refine ex_then ?_
        refine wp_ret ?_
        refine bp_ret1 HF Tryz.results65 (HF.res rfl) ?_
        have hok : n.ok = false := NodeD.ok_no fun h => by
          have h1 := h.links; rw [if_neg dcc1] at h1; rw [inB_yes h1.1 h1.2] at cc9; simp at cc9
        exact ⟨by rw [hok], HS.out.bel⟩
    · clear HF;rename_i HF
      have dcc8 := of_decide_eq_false cc8
      refine zrq 43 HF rfl ?_;clear HF a;intro a HF
      refine wpQuiet_nil ?_; intro w16 HS; replace HS := Bx.mk HS
      refine ex_then ?_
      refine wp_ret ?_
      refine bp_ret1 HF Tryz.results65 (HF.res rfl) ?_
      have hok : n.ok = false := NodeD.ok_no fun h => by
        have := h.many; omega
      exact ⟨by rw [hok], HS.out.bel⟩

theorem specNodeOk_any (n : NodeD) (w0 : World) : Calls Tryz.prog 75 #[nV n] w0 fun e w' => e = .returned (.bool n.ok) ∧ Below w0.heap.size w0 w' := by
  have HS := Bx.mk (St.start w0)
  refine wc_enter Tryz.func75 rfl Tryz.ntmps75 [(0, nV n)] ⟨rfl, trivial⟩ rfl ?_; intro a HF
  refine wp_sr ?_
  refine wl_box rfl HF rfl (HF.ev rfl) (Z := [.int .i64 n.fKind, .int .i64 n.fLinks, .int .i64 n.fSize, .int .i64 n.fTree.fRoot.fAt, .int .i64 n.fTree.fRoot.fBirth, .int .i64 n.fTree.fRoot.fSize, .int .i64 n.fTree.fRoot.fSum, .int .i64 n.fTree.fRoot.fLevel, .int .i64 n.fTree.fDepth, .int .i64 n.fTree.fMany]) rfl rfl rfl rfl HS.out ?_; clear HF HS a; intro a w1 b1 HF HS; replace HS := Bx.mk HS
  refine za HF ?_;clear HF a;intro a HF
  refine wl_ne ?_
  refine wp_sr ?_
  refine zy HF (yfa 0 rfl (HF.ev rfl)) ?_;clear HF a;intro a HF
  refine zy HF (ylo (v := .int .i64 n.fKind) rfl (HF.ev rfl) (((HS.out.box 0 rfl).cell 0).trans rfl)) ?_;clear HF a;intro a HF
  refine zy HF (yfa 2 rfl (HF.ev rfl)) ?_;clear HF a;intro a HF
  refine zy HF (ylo (v := .int .i64 n.fSize) rfl (HF.ev rfl) (((HS.out.box 0 rfl).cell 2).trans rfl)) ?_;clear HF a;intro a HF
  refine wl_callB rfl HF rfl (enter_of Tryz.func103 (by kernel_rfl) rfl) (args := #[.int .i64 n.fKind, .int .i64 n.fSize]) rfl (v := .int .i64 (piecesN n.fKind n.fSize)) (specNodePieces_any n.fKind n.fSize _) rfl rfl HS.out ?_; clear HF HS a; intro w2 a HS HF; replace HS := Bx.mk HS
  refine za HF ?_;clear HF a;intro a HF
  refine wl_ne ?_
  refine wp_seq ?_
  refine wp_seq ?_
  refine wr_quiet (by kernel_rfl) (by kernel_rfl) HS.out ?_
  refine zrq 3 HF rfl ?_;clear HF a;intro a HF
  refine HF.cases 12 rfl (fun cc1 _ => ?_) fun cc1 _ => ?_
  · clear HF;rename_i HF
    have dcc1 := of_decide_eq_true cc1
    refine zrq 21 HF rfl ?_;clear HF a;intro a HF
    refine wpQuiet_nil ?_; intro w3 HS; replace HS := Bx.mk HS
    refine ex_then ?_
    refine wc_true HF rfl ?_
    refine wp_sr ?_
    refine za HF ?_;clear HF a;intro a HF
    refine wl_ne ?_
    refine wp_ret ?_
    refine ex_then_ret ?_
    refine bp_ret1 HF Tryz.results75 (HF.res rfl) ?_
    have hok : n.ok = false := NodeD.ok_no fun h => by
      have := h.many; omega
    exact ⟨by rw [hok], HS.out.bel⟩
  · clear HF;rename_i HF
    have dcc1 := of_decide_eq_false cc1
    refine zqg HF (fun _ HS => (yfa 3 rfl (HF.ev rfl))) ?_;clear HF a;intro a HF
    refine zqg HF (fun _ HS => (yfa 6 rfl (HF.ev rfl))) ?_;clear HF a;intro a HF
    refine zqg HF (fun _ HS => (ylo (v := .int .i64 n.fTree.fMany) rfl (HF.ev rfl) (((HS.box 0 rfl).cell 9).trans rfl))) ?_;clear HF a;intro a HF
    refine zrq 4 HF rfl ?_;clear HF a;intro a HF
    refine HF.cases 19 rfl (fun cc2 _ => ?_) fun cc2 _ => ?_
    · clear HF;rename_i HF
      have dcc2 := bne_iff_ne.1 cc2
      refine zrq 14 HF rfl ?_;clear HF a;intro a HF
      refine wpQuiet_nil ?_; intro w4 HS; replace HS := Bx.mk HS
      refine ex_then ?_
      refine wc_true HF rfl ?_
      refine wp_sr ?_
      refine za HF ?_;clear HF a;intro a HF
      refine wl_ne ?_
      refine wp_ret ?_
      refine ex_then_ret ?_
      refine bp_ret1 HF Tryz.results75 (HF.res rfl) ?_
      have hok : n.ok = false := NodeD.ok_no fun h => by
        exact dcc2 h.tmany
      exact ⟨by rw [hok], HS.out.bel⟩
    · clear HF;rename_i HF
      have dcc2 := bne_eq_false_iff_eq.1 cc2
      refine zqg HF (fun _ HS => (yfa 3 rfl (HF.ev rfl))) ?_;clear HF a;intro a HF
      refine zqg HF (fun _ HS => (yfa 5 rfl (HF.ev rfl))) ?_;clear HF a;intro a HF
      refine zqg HF (fun _ HS => (ylo (v := .int .i64 n.fTree.fDepth) rfl (HF.ev rfl) (((HS.box 0 rfl).cell 8).trans rfl))) ?_;clear HF a;intro a HF
      refine zqg HF (fun _ HS => (yl_move rfl (HF.ev rfl))) ?_;clear HF a;intro a HF
      refine wq_callg HF rfl rfl rfl rfl (enter_of Tryz.func104 (by kernel_rfl) rfl) (args := #[.int .i64 (piecesN n.fKind n.fSize)]) rfl (v := .int .i64 ((depthN (piecesN n.fKind n.fSize) : Nat) : Int)) (fun _ HS => l8Depth_any (piecesN n.fKind n.fSize) _) rfl rfl ?_;clear HF a;intro a HF
      refine zrq 3 HF rfl ?_;clear HF a;intro a HF
      refine HF.cases 27 rfl (fun cc3 _ => ?_) fun cc3 _ => ?_
      · clear HF;rename_i HF
        have dcc3 := bne_iff_ne.1 cc3
        refine zrq 6 HF rfl ?_;clear HF a;intro a HF
        refine wpQuiet_nil ?_; intro w5 HS; replace HS := Bx.mk HS
        refine ex_then ?_
        refine wc_true HF rfl ?_
        refine wp_sr ?_
        refine za HF ?_;clear HF a;intro a HF
        refine wl_ne ?_
        refine wp_ret ?_
        refine ex_then_ret ?_
        refine bp_ret1 HF Tryz.results75 (HF.res rfl) ?_
        have hok : n.ok = false := NodeD.ok_no fun h => by
          exact dcc3 h.depth
        exact ⟨by rw [hok], HS.out.bel⟩
      · clear HF;rename_i HF
        have dcc3 := bne_eq_false_iff_eq.1 cc3
        refine zqg HF (fun _ HS => (yfa 3 rfl (HF.ev rfl))) ?_;clear HF a;intro a HF
        refine zqg HF (fun _ HS => (yfa 0 rfl (HF.ev rfl))) ?_;clear HF a;intro a HF
        refine zqg HF (fun _ HS => (ylr (cs := [.int .i64 n.fTree.fRoot.fAt, .int .i64 n.fTree.fRoot.fBirth, .int .i64 n.fTree.fRoot.fSize, .int .i64 n.fTree.fRoot.fSum, .int .i64 n.fTree.fRoot.fLevel]) rfl (HF.ev rfl) ((HS.box 0 rfl).sub 3 5))) ?_;clear HF a;intro a HF
        refine wq_callg HF rfl rfl rfl rfl (enter_of Tryz.func74 (by kernel_rfl) rfl) (args := #[pV n.fTree.fRoot]) rfl (v := .bool n.fTree.fRoot.ok) (fun _ HS => specPtrOk_any n.fTree.fRoot _) rfl rfl ?_;clear HF a;intro a HF
        refine zrq 2 HF rfl ?_;clear HF a;intro a HF
        refine wpQuiet_nil ?_; intro w6 HS; replace HS := Bx.mk HS
        refine ex_then ?_
        refine HF.cases 33 rfl (fun cc4 _ => ?_) fun cc4 _ => ?_
        · clear HF;rename_i HF
          refine wc_true HF rfl ?_
          refine wp_sr ?_
          refine za HF ?_;clear HF a;intro a HF
          refine wl_ne ?_
          refine wp_ret ?_
          refine ex_then_ret ?_
          refine bp_ret1 HF Tryz.results75 (HF.res rfl) ?_
          have hok : n.ok = false := NodeD.ok_no fun h => by
            rw [h.root] at cc4; simp at cc4
          exact ⟨by rw [hok], HS.out.bel⟩
        · clear HF;rename_i HF
          refine wc_false HF rfl ?_
          refine wp_skip ?_
          refine ex_then ?_
          refine wp_sr ?_
          refine za HF ?_;clear HF a;intro a HF
          refine wl_ne ?_
          refine wp_seq ?_
          refine wp_sr ?_
          refine zy HF (yfa 0 rfl (HF.ev rfl)) ?_;clear HF a;intro a HF
          refine zy HF (ylo (v := .int .i64 n.fKind) rfl (HF.ev rfl) (((HS.out.box 0 rfl).cell 0).trans rfl)) ?_;clear HF a;intro a HF
          refine zy HF (yl_eqlI rfl (HF.ev rfl) (HF.ev rfl)) ?_;clear HF a;intro a HF
          refine wl_ne ?_
          refine HF.cases 36 rfl (fun cc5 _ => ?_) fun cc5 _ => ?_
          · clear HF;rename_i HF
            have dcc5 := eq_of_beq cc5
            refine wc_true HF rfl ?_
            refine wp_region_lit ?_
            refine za HF ?_;clear HF a;intro a HF
            refine wl_ne ?_
            refine wp_sr ?_
            refine zy HF (yfa 1 rfl (HF.ev rfl)) ?_;clear HF a;intro a HF
            refine zy HF (ylo (v := .int .i64 n.fLinks) rfl (HF.ev rfl) (((HS.out.box 0 rfl).cell 1).trans rfl)) ?_;clear HF a;intro a HF
            refine zm HF ?_;clear HF a;intro a HF
            refine wl_callB rfl HF rfl (enter_of Tryz.func46 (by kernel_rfl) rfl) (args := #[.int .i64 n.fLinks, .int .i64 1, .int .i64 1]) rfl (v := .bool (inB n.fLinks 1 1)) (((l6In_any n.fLinks 1 1 _).mono fun _ _ h => ⟨h.1, h.2 ▸ Below.refl _ _⟩)) rfl rfl HS.out ?_; clear HF HS a; intro w7 a HS HF; replace HS := Bx.mk HS
            refine zm HF ?_;clear HF a;intro a HF
            refine HF.cases 41 rfl (fun cc6 _ => ?_) fun cc6 _ => ?_
            · clear HF;rename_i HF
              refine zg HF (yfa 3 rfl (HF.ev rfl)) ?_;clear HF a;intro a HF
              refine zg HF (yfa 0 rfl (HF.ev rfl)) ?_;clear HF a;intro a HF
              refine zg HF (ylr (cs := [.int .i64 n.fTree.fRoot.fAt, .int .i64 n.fTree.fRoot.fBirth, .int .i64 n.fTree.fRoot.fSize, .int .i64 n.fTree.fRoot.fSum, .int .i64 n.fTree.fRoot.fLevel]) rfl (HF.ev rfl) ((HS.out.box 0 rfl).sub 3 5)) ?_;clear HF a;intro a HF
              refine wl_callBg HF rfl rfl rfl rfl (enter_of Tryz.func43 (by kernel_rfl) rfl) (args := #[pV n.fTree.fRoot]) rfl (v := .bool n.fTree.fRoot.hole) (specHole_any n.fTree.fRoot _) rfl rfl HS.out ?_; clear HF HS a; intro w8 a HS HF; replace HS := Bx.mk HS
              refine zg HF (yl_move rfl (HF.ev rfl)) ?_;clear HF a;intro a HF
              refine HF.cases 46 rfl (fun cc7 _ => ?_) fun cc7 _ => ?_
              · clear HF;rename_i HF
                refine zr 11 HF rfl ?_;clear HF a;intro a HF
                refine wl_ne ?_
                refine wp_ret ?_
                refine bp_ret1 HF Tryz.results75 (HF.res rfl) ?_
                have hok : n.ok = true := NodeD.ok_yes ⟨by omega, by have h := inB_true (by simpa using cc6); rw [if_pos dcc5]; exact h, by simpa using dcc2, by simpa using dcc3, by simpa using cc4, .inl (by simpa using cc7)⟩
                exact ⟨by rw [hok], HS.out.bel⟩
              · clear HF;rename_i HF
                refine zg HF (yfa 3 rfl (HF.ev rfl)) ?_;clear HF a;intro a HF
                refine zg HF (yfa 0 rfl (HF.ev rfl)) ?_;clear HF a;intro a HF
                refine zg HF (yfa 4 rfl (HF.ev rfl)) ?_;clear HF a;intro a HF
                refine zg HF (ylo (v := .int .i64 n.fTree.fRoot.fLevel) rfl (HF.ev rfl) (((HS.out.box 0 rfl).cell 7).trans rfl)) ?_;clear HF a;intro a HF
                refine zg HF (yfa 3 rfl (HF.ev rfl)) ?_;clear HF a;intro a HF
                refine zg HF (yfa 5 rfl (HF.ev rfl)) ?_;clear HF a;intro a HF
                refine zg HF (ylo (v := .int .i64 n.fTree.fDepth) rfl (HF.ev rfl) (((HS.out.box 0 rfl).cell 8).trans rfl)) ?_;clear HF a;intro a HF
                refine zr 4 HF rfl ?_;clear HF a;intro a HF
                refine wl_ne ?_
                refine wp_ret ?_
                refine bp_ret1 HF Tryz.results75 (HF.res rfl) ?_
                cases hlast : (n.fTree.fRoot.fLevel == n.fTree.fDepth) with
                | true =>
                  have hok : n.ok = true := NodeD.ok_yes ⟨by omega, by have h := inB_true (by simpa using cc6); rw [if_pos dcc5]; exact h, by simpa using dcc2, by simpa using dcc3, by simpa using cc4, .inr (eq_of_beq hlast)⟩
                  exact ⟨by rw [hok] <;> rfl, HS.out.bel⟩
                | false =>
                  have hok : n.ok = false := NodeD.ok_no fun h => by
                    rcases h.level with h | h
                    · rw [h] at cc7; simp at cc7
                    · rw [h] at hlast; simp at hlast
                  exact ⟨by rw [hok] <;> rfl, HS.out.bel⟩
            · clear HF;rename_i HF
              refine zr 16 HF rfl ?_;clear HF a;intro a HF
              refine wl_ne ?_
              refine wp_ret ?_
              refine bp_ret1 HF Tryz.results75 (HF.res rfl) ?_
              have hok : n.ok = false := NodeD.ok_no fun h => by
                have h1 := h.links; rw [if_pos dcc5] at h1; rw [inB_yes h1.1 h1.2] at cc6; simp at cc6
              exact ⟨by rw [hok], HS.out.bel⟩
          · clear HF;rename_i HF
            have dcc5 := ne_of_beq_false cc5
            refine wc_false HF rfl ?_
            refine wp_skip ?_
            refine ex_then ?_
            refine wp_sr ?_
            refine zy HF (yfa 1 rfl (HF.ev rfl)) ?_;clear HF a;intro a HF
            refine zy HF (ylo (v := .int .i64 n.fLinks) rfl (HF.ev rfl) (((HS.out.box 0 rfl).cell 1).trans rfl)) ?_;clear HF a;intro a HF
            refine zm HF ?_;clear HF a;intro a HF
            refine wl_callB rfl HF rfl (enter_of Tryz.func46 (by kernel_rfl) rfl) (args := #[.int .i64 n.fLinks, .int .i64 1, .int .i64 9]) rfl (v := .bool (inB n.fLinks 1 9)) (((l6In_any n.fLinks 1 9 _).mono fun _ _ h => ⟨h.1, h.2 ▸ Below.refl _ _⟩)) rfl rfl HS.out ?_; clear HF HS a; intro w9 a HS HF; replace HS := Bx.mk HS
            refine zm HF ?_;clear HF a;intro a HF
            refine HF.cases 41 rfl (fun cc8 _ => ?_) fun cc8 _ => ?_
            · clear HF;rename_i HF
              refine zg HF (yfa 3 rfl (HF.ev rfl)) ?_;clear HF a;intro a HF
              refine zg HF (yfa 0 rfl (HF.ev rfl)) ?_;clear HF a;intro a HF
              refine zg HF (ylr (cs := [.int .i64 n.fTree.fRoot.fAt, .int .i64 n.fTree.fRoot.fBirth, .int .i64 n.fTree.fRoot.fSize, .int .i64 n.fTree.fRoot.fSum, .int .i64 n.fTree.fRoot.fLevel]) rfl (HF.ev rfl) ((HS.out.box 0 rfl).sub 3 5)) ?_;clear HF a;intro a HF
              refine wl_callBg HF rfl rfl rfl rfl (enter_of Tryz.func43 (by kernel_rfl) rfl) (args := #[pV n.fTree.fRoot]) rfl (v := .bool n.fTree.fRoot.hole) (specHole_any n.fTree.fRoot _) rfl rfl HS.out ?_; clear HF HS a; intro w10 a HS HF; replace HS := Bx.mk HS
              refine zg HF (yl_move rfl (HF.ev rfl)) ?_;clear HF a;intro a HF
              refine HF.cases 46 rfl (fun cc9 _ => ?_) fun cc9 _ => ?_
              · clear HF;rename_i HF
                refine zr 11 HF rfl ?_;clear HF a;intro a HF
                refine wl_ne ?_
                refine wp_ret ?_
                refine bp_ret1 HF Tryz.results75 (HF.res rfl) ?_
                have hok : n.ok = true := NodeD.ok_yes ⟨by omega, by have h := inB_true (by simpa using cc8); rw [if_neg dcc5]; exact h, by simpa using dcc2, by simpa using dcc3, by simpa using cc4, .inl (by simpa using cc9)⟩
                exact ⟨by rw [hok], HS.out.bel⟩
              · clear HF;rename_i HF
                refine zg HF (yfa 3 rfl (HF.ev rfl)) ?_;clear HF a;intro a HF
                refine zg HF (yfa 0 rfl (HF.ev rfl)) ?_;clear HF a;intro a HF
                refine zg HF (yfa 4 rfl (HF.ev rfl)) ?_;clear HF a;intro a HF
                refine zg HF (ylo (v := .int .i64 n.fTree.fRoot.fLevel) rfl (HF.ev rfl) (((HS.out.box 0 rfl).cell 7).trans rfl)) ?_;clear HF a;intro a HF
                refine zg HF (yfa 3 rfl (HF.ev rfl)) ?_;clear HF a;intro a HF
                refine zg HF (yfa 5 rfl (HF.ev rfl)) ?_;clear HF a;intro a HF
                refine zg HF (ylo (v := .int .i64 n.fTree.fDepth) rfl (HF.ev rfl) (((HS.out.box 0 rfl).cell 8).trans rfl)) ?_;clear HF a;intro a HF
                refine zr 4 HF rfl ?_;clear HF a;intro a HF
                refine wl_ne ?_
                refine wp_ret ?_
                refine bp_ret1 HF Tryz.results75 (HF.res rfl) ?_
                cases hlast : (n.fTree.fRoot.fLevel == n.fTree.fDepth) with
                | true =>
                  have hok : n.ok = true := NodeD.ok_yes ⟨by omega, by have h := inB_true (by simpa using cc8); rw [if_neg dcc5]; exact h, by simpa using dcc2, by simpa using dcc3, by simpa using cc4, .inr (eq_of_beq hlast)⟩
                  exact ⟨by rw [hok] <;> rfl, HS.out.bel⟩
                | false =>
                  have hok : n.ok = false := NodeD.ok_no fun h => by
                    rcases h.level with h | h
                    · rw [h] at cc9; simp at cc9
                    · rw [h] at hlast; simp at hlast
                  exact ⟨by rw [hok] <;> rfl, HS.out.bel⟩
            · clear HF;rename_i HF
              refine zr 16 HF rfl ?_;clear HF a;intro a HF
              refine wl_ne ?_
              refine wp_ret ?_
              refine bp_ret1 HF Tryz.results75 (HF.res rfl) ?_
              have hok : n.ok = false := NodeD.ok_no fun h => by
                have h1 := h.links; rw [if_neg dcc5] at h1; rw [inB_yes h1.1 h1.2] at cc8; simp at cc8
              exact ⟨by rw [hok], HS.out.bel⟩

end Go.Proofs.YtgaodbdadncfhaaGreatDoor

/- A part of a box is written as a whole. -/
namespace Go.Proofs.YtgaodbdadncfhaaGreatDoor
set_option linter.unusedVariables false
set_option linter.unusedSimpArgs false
set_option maxHeartbeats 1000000
set_option maxRecDepth 100000
open Go.RowKit

theorem Box.putAt {w : World} {b n : Nat} {t : TypeId} {cs : List Value} (h : Box w b n t (.agg cs.toArray)) (k : Nat) (ds : List Value) (hk : k + ds.length ≤ cs.length) (g1 : ∀ u ∈ ds, u.oneCell' = true) :
    w.there b k ds.length ∧ Box (w.setCells b k ds) b n t (.agg (splice cs k ds).toArray) ∧ Outside b (b + 1) w (w.setCells b k ds) := by
  obtain ⟨cs', e, hl, h1, hh⟩ := h
  obtain rfl : cs = cs' := by simpa using e
  obtain ⟨k1, k2, k3⟩ := blk_setCells ds k w cs hh hk
  refine ⟨fun j hj => ⟨by rw [blk_cell hh]; simp; omega, blk_frozen hh _⟩, ⟨_, rfl, ?_, ?_, k1⟩, k2⟩
  · unfold splice; simp; omega
  · intro u hu
    unfold splice at hu
    rcases List.mem_append.1 hu with hu | hu
    · rcases List.mem_append.1 hu with hu | hu
      · exact h1 u (List.mem_of_mem_take hu)
      · exact g1 u hu
    · exact h1 u (List.mem_of_mem_drop hu)
section
variable {P : Program} {ops : Array Oper} {Q : Exit → Act → World → Prop} {rest : List Oper} {o : Oper} {a : Act} {W w : World} {s : List Asr}
theorem wl_storeSub (hg : o.guard = none) {t : TypeId} {x y : Operand} (ho : o.op = .store t x y) (hd : o.dst = none) {b n k : Nat} {T : TypeId} {cs ds rs : List Value} (hx : a.eval x = .pointer (some ⟨b, k, none⟩)) (hy : a.eval y = .agg ds.toArray) (hS : St W s w) (i : Nat) (hi : s[i]? = some (boxA b n T (.agg cs.toArray))) (hk : Nat.ble (k + ds.length) cs.length = true) (hv : (ds.all fun u => u.oneCell') = true) (hn : rowOf? P t ds.length = true) (hr : splice cs k ds = rs)
    (h : ∀ w', St W (s.set i (boxA b n T (.agg rs.toArray))) w' → wpList P ops Q rest a w') : wpList P ops Q (o :: rest) a w := by
  obtain ⟨k1, k2, k3⟩ := (hS.box i hi).putAt k ds (Nat.le_of_ble_eq_true hk) (List.all_eq_true.1 hv)
  refine wpList_plain hg fun K hK => wp_store_mid t x y ho b k ds.toArray hx hy (by simpa using k1) (by rw [(rowOf_spec hn).2]; simp) (by simpa using hv) ?_
  rw [hd]
  exact hK _ _ (h _ (by rw [← hr]; exact hS.putBox i hi k2 k3))
end
end Go.Proofs.YtgaodbdadncfhaaGreatDoor

/- Files: what they tell, plain. -/
namespace Go.Proofs.YtgaodbdadncfhaaGreatDoor
set_option linter.unusedVariables false
set_option linter.unusedSimpArgs false
set_option maxHeartbeats 1000000
set_option maxRecDepth 100000
open Go.RowKit

def zerosB (n : Nat) : ByteArray := ⟨(List.replicate n (0 : UInt8)).toArray⟩
theorem zerosB_size (n : Nat) : (zerosB n).size = n := by rw [size_list]; simp [zerosB]
/-- How many bytes a piece of a file has. -/
def longN (size : Int) (k : Nat) : Nat := (min 12 (size - (k : Int) * 12)).toNat
theorem longN_le (size : Int) (k : Nat) : longN size k ≤ 12 := by unfold longN; omega
def lastZ (s : ByteArray) : Bool := s.data.toList.getLast? == some 0
def padB (s : ByteArray) (n : Nat) : ByteArray := s ++ zerosB (n - s.size)
def pieceB (s : ByteArray) (n : Nat) : Bool := decide (s.size ≤ n) && !lastZ s
theorem pieceB_yes {s : ByteArray} {n : Nat} (h : s.size ≤ n) (hz : lastZ s = false) : pieceB s n = true := by unfold pieceB; rw [decide_eq_true h, hz]; rfl
theorem pieceB_long {s : ByteArray} {n : Nat} (h : ¬ s.size ≤ n) : pieceB s n = false := by unfold pieceB; rw [decide_eq_false h]; rfl
theorem pieceB_zero {s : ByteArray} {n : Nat} (hz : lastZ s = true) : pieceB s n = false := by unfold pieceB; rw [hz]; simp
theorem pieceB_is {s : ByteArray} {n : Nat} (h : pieceB s n = true) : s.size ≤ n ∧ lastZ s = false := by
  unfold pieceB at h
  rw [Bool.and_eq_true] at h
  exact ⟨of_decide_eq_true h.1, by simpa using h.2⟩
theorem padB_size {s : ByteArray} {n : Nat} (h : s.size ≤ n) : (padB s n).size = n := by
  unfold padB
  rw [app_size, zerosB_size]; omega
/-- The bytes of pieces, one behind the other. -/
noncomputable def fileL (st : StoreD) (size : Int) : Nat → List PtrD → Option ByteArray
  | _, [] => some ByteArray.empty
  | k, p :: r => bif pieceB (readT st p) (longN size k) then (fileL st size (k + 1) r).map (padB (readT st p) (longN size k) ++ ·) else none
theorem fileL_no {st : StoreD} {size : Int} {k : Nat} {p : PtrD} {r : List PtrD} (h : pieceB (readT st p) (longN size k) = false) : fileL st size k (p :: r) = none := by
  show (bif _ then _ else _) = _
  rw [h]; rfl
theorem fileL_yes {st : StoreD} {size : Int} {k : Nat} {p : PtrD} {r : List PtrD} (h : pieceB (readT st p) (longN size k) = true) : fileL st size k (p :: r) = (fileL st size (k + 1) r).map (padB (readT st p) (longN size k) ++ ·) := by
  show (bif _ then _ else _) = _
  rw [h]; rfl
theorem mapB_app {o : Option ByteArray} (a b : ByteArray) : (o.map (b ++ ·)).map (a ++ ·) = o.map ((a ++ b) ++ ·) := by
  cases o
  · rfl
  · simp only [Option.map_some, Option.some.injEq]
    exact (app_assoc _ _ _).symm
/-- All bytes of a file. -/
noncomputable def fileF (st : StoreD) (n : NodeD) : Option ByteArray := bif n.ok && (n.fKind == 1) then (leavesF st n.fTree).bind (fileL st n.fSize 0) else none
theorem fileF_no {st : StoreD} {n : NodeD} (h : (n.ok && (n.fKind == 1)) = false) : fileF st n = none := by unfold fileF; rw [h]; rfl
theorem fileF_none {st : StoreD} {n : NodeD} (h : leavesF st n.fTree = none) : fileF st n = none := by
  unfold fileF
  rw [h]
  cases (n.ok && (n.fKind == 1)) <;> rfl
theorem fileF_yes {st : StoreD} {n : NodeD} {l : List PtrD} (h : (n.ok && (n.fKind == 1)) = true) (hl : leavesF st n.fTree = some l) : fileF st n = fileL st n.fSize 0 l := by unfold fileF; rw [h, hl]; rfl
theorem fileL_size {st : StoreD} {size : Int} : ∀ {l : List PtrD} {k : Nat} {t : ByteArray}, fileL st size k l = some t → t.size ≤ 12 * l.length
  | [], k, t, h => by obtain rfl := Option.some.inj h; exact Nat.zero_le _
  | p :: r, k, t, h => by
    cases hp : pieceB (readT st p) (longN size k) with
    | false => rw [fileL_no hp] at h; cases h
    | true =>
      rw [fileL_yes hp] at h
      cases hr : fileL st size (k + 1) r with
      | none => rw [hr] at h; cases h
      | some u =>
        rw [hr] at h
        obtain rfl := Option.some.inj h
        have := fileL_size hr
        have h1 := padB_size (pieceB_is hp).1
        have := longN_le size k
        rw [app_size, h1, List.length_cons]; omega
/-- Step by step. -/
theorem file_step {st : StoreD} {size : Int} {xs : List PtrD} {i : Nat} {b : ByteArray} (h : fileL st size 0 xs = (fileL st size i (xs.drop i)).map (b ++ ·)) (hi : i < xs.length) (hp : pieceB (readT st (xs.getD i PtrD.zero)) (longN size i) = true) : fileL st size 0 xs = (fileL st size (i + 1) (xs.drop (i + 1))).map ((b ++ padB (readT st (xs.getD i PtrD.zero)) (longN size i)) ++ ·) := by
  have e : xs.drop i = xs.getD i PtrD.zero :: xs.drop (i + 1) := by rw [List.drop_eq_getElem_cons hi, List.getD_eq_getElem?_getD, List.getElem?_eq_getElem hi, Option.getD_some]
  rw [h, e, fileL_yes hp, mapB_app]
theorem file_stop {st : StoreD} {size : Int} {xs : List PtrD} {i : Nat} {b : ByteArray} (h : fileL st size 0 xs = (fileL st size i (xs.drop i)).map (b ++ ·)) (hi : i < xs.length) (hp : pieceB (readT st (xs.getD i PtrD.zero)) (longN size i) = false) : fileL st size 0 xs = none := by
  have e : xs.drop i = xs.getD i PtrD.zero :: xs.drop (i + 1) := by rw [List.drop_eq_getElem_cons hi, List.getD_eq_getElem?_getD, List.getElem?_eq_getElem hi, Option.getD_some]
  rw [h, e, fileL_no hp]; rfl
theorem file_end {st : StoreD} {size : Int} {xs : List PtrD} {i : Nat} {b : ByteArray} (h : fileL st size 0 xs = (fileL st size i (xs.drop i)).map (b ++ ·)) (hi : ¬ i < xs.length) : fileL st size 0 xs = some b := by
  rw [h, List.drop_eq_nil_of_le (by omega)]
  show some (b ++ ByteArray.empty) = _
  rw [ByteArray.append_empty]
theorem file_begin {st : StoreD} {size : Int} {xs : List PtrD} : fileL st size 0 xs = (fileL st size 0 (xs.drop 0)).map ((⟨#[]⟩ : ByteArray) ++ ·) := by
  rw [List.drop_zero]
  cases fileL st size 0 xs with
  | none => rfl
  | some b => show some b = some (ByteArray.empty ++ b); rw [ByteArray.empty_append]
/-! ### A zero byte at the end -/
theorem suffix_last (s : ByteArray) : Go.Lib.hasSuffix s.data.toList [0] = lastZ s := by
  unfold Go.Lib.hasSuffix lastZ
  generalize s.data.toList = l
  rcases List.eq_nil_or_concat l with rfl | ⟨r, b, rfl⟩
  · rfl
  · rw [List.concat_eq_append, List.getLast?_concat]
    unfold List.isSuffixOf
    rw [List.reverse_append, List.reverse_singleton, List.reverse_singleton, List.singleton_append]
    simp only [List.isPrefixOf, Bool.and_true]
    by_cases h : b = 0
    · subst h; rfl
    · rw [beq_eq_false_iff_ne.2 (Ne.symm h)]
      exact (beq_eq_false_iff_ne.2 fun e => h (Option.some.inj e)).symm
theorem lastZ_nil {s : ByteArray} (h : ¬ 0 < s.size) : lastZ s = false := by
  unfold lastZ
  rw [List.eq_nil_of_length_eq_zero (l := s.data.toList) (by rw [← size_list]; omega)]; rfl
theorem lastZ_get {s : ByteArray} (h : 0 < s.size) : lastZ s = ((((s.get! (s.size - 1)).toNat : Nat) : Int) == 0) := by
  unfold lastZ
  rw [List.getLast?_eq_getElem?, ← size_list, get_q (by omega)]
  by_cases e : s.get! (s.size - 1) = 0
  · rw [e]; rfl
  · rw [beq_eq_false_iff_ne.2 fun x => e (Option.some.inj x)]
    refine (beq_eq_false_iff_ne.2 fun x => e ?_).symm
    have : (s.get! (s.size - 1)).toNat = 0 := by omega
    exact UInt8.toNat_inj.1 this
def cutZ (s : ByteArray) : ByteArray := ⟨(s.data.toList.reverse.dropWhile (· == 0)).reverse.toArray⟩
theorem cutZ_keep {s : ByteArray} (h : lastZ s = false) : cutZ s = s := by
  apply ba_ext
  show (s.data.toList.reverse.dropWhile (· == 0)).reverse = s.data.toList
  unfold lastZ at h
  rcases List.eq_nil_or_concat s.data.toList with e | ⟨r, b, e⟩
  · rw [e]; rfl
  · rw [e, List.concat_eq_append, List.getLast?_concat] at h
    have hb : b ≠ 0 := fun x => by rw [x] at h; exact absurd h (by decide)
    rw [e, List.concat_eq_append, List.reverse_append, List.reverse_singleton, List.singleton_append, List.dropWhile_cons, if_neg (by simpa using hb), List.reverse_cons, List.reverse_reverse]
theorem cutZ_step {s : ByteArray} (h : lastZ s = true) : cutZ (s.extract 0 (s.size - 1)) = cutZ s := by
  unfold cutZ
  congr 3
  rw [list_extract, List.drop_zero, Nat.sub_zero, size_list, ← List.dropLast_eq_take]
  unfold lastZ at h
  rcases List.eq_nil_or_concat s.data.toList with e | ⟨r, b, e⟩
  · rw [e] at h; cases h
  · rw [e, List.concat_eq_append, List.getLast?_concat] at h
    obtain rfl : b = 0 := by simpa using h
    rw [e, List.concat_eq_append, List.dropLast_concat, List.reverse_append, List.reverse_singleton, List.singleton_append, List.dropWhile_cons]; rfl
theorem cutZ_size (s : ByteArray) : (cutZ s).size ≤ s.size := by
  rw [size_list, size_list]
  show ((s.data.toList.reverse.dropWhile (· == 0)).reverse).length ≤ _
  rw [List.length_reverse]
  have : ∀ l : List UInt8, (l.dropWhile (· == 0)).length ≤ l.length := fun l => by
    induction l with
    | nil => exact Nat.le_refl _
    | cons a r ih => rw [List.dropWhile_cons]; split <;> simp only [List.length_cons] <;> omega
  exact Nat.le_trans (this _) (by rw [List.length_reverse]; exact Nat.le_refl _)
theorem cutZ_eq (s : ByteArray) : ((cutZ s).toList == s.toList) = !lastZ s := by
  cases h : lastZ s with
  | false => rw [cutZ_keep h]; exact beq_self_eq_true _
  | true =>
    refine beq_eq_false_iff_ne.2 fun e => ?_
    have e2 : cutZ s = s := bytes_toList (beq_iff_eq.2 e)
    have h1 := cutZ_size (s.extract 0 (s.size - 1))
    rw [cutZ_step h, e2, ByteArray.size_extract] at h1
    have : 0 < s.size := by
      by_cases hp : 0 < s.size
      · exact hp
      · rw [lastZ_nil hp] at h; cases h
    omega
end Go.Proofs.YtgaodbdadncfhaaGreatDoor
