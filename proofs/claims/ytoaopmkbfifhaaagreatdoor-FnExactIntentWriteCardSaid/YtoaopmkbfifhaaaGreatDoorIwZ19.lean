/- A part of the proof in YtoaopmkbfifhaaaGreatDoorIwZ22. -/
import Derived.ArgAppend
import Derived.BigQuiet
import Derived.BigRegion
import Derived.Deep.AppendLies
import Derived.Deep.MidRow
import Derived.Deep.Quiet
import Derived.Deep.QuietTactic
import Derived.Deep.RegionHeld3
import Derived.Deep.RegionWith
import Derived.IntWalk
import Derived.Laws.BytesArg
import Derived.Laws.RangeAny
import Derived.Lib.AppendIntMem
import Derived.Lib.Hide
import Derived.Lib.IndexBytes
import Derived.Lib.IndexLaws
import Derived.Lib.ItoaNum
import Derived.Lib.Join
import Derived.Lib.LazyBuf
import Derived.Lib.SlBytesConst
import Derived.Lib.Split
import Derived.Lib.SplitLaws
import Derived.LoopIn
import Derived.LoopN
import Derived.LoopNIn
import Derived.Orders
import Derived.OrdersHeld
import Derived.OwnWalkIn
import Derived.RangeFuncLeaves
import Derived.RangeFuncNested
import Derived.Shelf.Abstract
import Derived.Shelf.GgClosure.StringsIndexFunc
import Derived.Shelf.Small.Wraps
import Derived.Shelf.Strconv.Itoa3
import Derived.Shelf.Strings.BuilderF
import Derived.Shelf.Strings.BuilderK
import Derived.Shelf.Strings.FuncGrows
import Derived.Shelf.Strings.OnBuilder
import Derived.Shelf.Strings.Split
import Derived.Shelf.Strings.SplitShaped
import Derived.Shelf.Vars
import Derived.Still
import Derived.StillTail
import Derived.StillTailTactics
import Derived.TacticsInMore
import Derived.Test.YtoaopmkbfifhaaaGreatDoorRows
import Derived.WalkKit
import Derived.WalkLawsBesides
import Derived.WalkSpells
import Derived.Test.YtoaopmkbfifhaaaGreatDoorIwZ18
/- Operations and intents as texts; IntentWrite: walked. -/
namespace Go.Proofs.YtoaopmkbfifhaaaGreatDoor
set_option linter.unusedVariables false
set_option linter.unusedSimpArgs false
set_option maxHeartbeats 1000000
set_option maxRecDepth 100000
open Go.RowKit

theorem OpD.ok_parts {o : OpD} (h : o.ok = true) : 1 ≤ o.fKind ∧ o.fKind ≤ 7 ∧ 0 ≤ o.fAt ∧ o.fAt ≤ 192 := by
  unfold OpD.ok at h
  simp only [Bool.and_eq_true] at h
  have h1 := inB_true h.1.1.1.1
  have h2 := h.1.2
  unfold OpD.atOk at h2
  rw [Bool.or_eq_true] at h2
  rcases h2 with h2 | h2
  · have := eq_of_beq h2; omega
  · rw [Bool.and_eq_true] at h2
    have := inB_true h2.2; omega
structure OpD.fits (o : OpD) : Prop where
  p : o.fPath.size ≤ 4000000000
  t : o.fTo.size ≤ 4000000000
  x : o.fText.size ≤ 4000000000
/-- The text of an operation. -/
def opB (o : OpD) : ByteArray := bif o.ok then (fieldsPut [numB o.fKind, o.fPath, o.fTo, numB o.fAt, o.fText]).1 else ByteArray.empty
theorem opB_no {o : OpD} (h : o.ok = false) : opB o = ByteArray.empty := by unfold opB; rw [h]; rfl
theorem opB_yes {o : OpD} (h : o.ok = true) : opB o = (fieldsPut [numB o.fKind, o.fPath, o.fTo, numB o.fAt, o.fText]).1 := by unfold opB; rw [h]; rfl
theorem opB_le (o : OpD) : (opB o).size ≤ 2048 := by
  cases h : o.ok with
  | false => rw [opB_no h]; exact Nat.zero_le _
  | true => rw [opB_yes h]; exact fieldsPut_le _
structure IntentD where
  fTxg : Int
  fSeq : Int
  fHead : ByteArray
  fOp : OpD
def IntentD.cells (x : IntentD) : List Value := .int .i64 x.fTxg :: .int .i64 x.fSeq :: .string x.fHead :: x.fOp.cells
structure IntentD.fits (x : IntentD) : Prop where
  h : x.fHead.size ≤ 4000000000
  o : x.fOp.fits

theorem implOpPut_any (o : OpD) (w0 : World) (hT : TabP w0) (hM : MaxP w0) (hfo : o.fits) : Calls Tryz.prog 92 #[.agg #[.int .i64 o.fKind, .string o.fPath, .string o.fTo, .int .i64 o.fAt, .string o.fText]] w0 fun e w' => e = .returned (.string (opB o)) ∧ Below w0.heap.size w0 w' := by
 have HT := Bx.mk hT; clear hT
 have HM := Bx.mk hM; clear hM
 have HS := Bx.mk (St.start w0)
 refine wc_enter Tryz.func92 rfl Tryz.ntmps92 [(0, .agg #[.int .i64 o.fKind, .string o.fPath, .string o.fTo, .int .i64 o.fAt, .string o.fText])] ⟨rfl, trivial⟩ rfl ?_; intro a HF
 refine wp_sr ?_
 refine wl_box rfl HF rfl (HF.ev rfl) (Z := [.int .i64 o.fKind, .string o.fPath, .string o.fTo, .int .i64 o.fAt, .string o.fText]) rfl rfl rfl rfl HS.out ?_; clear HF HS a; intro a w1 b1 HF HS; replace HS := Bx.mk HS
 refine wl_as HF rfl rfl rfl rfl rfl ?_; clear HF a; intro a HF
 refine wl_ne ?_
 refine wp_seq ?_
 refine wp_sr ?_
 refine wl_y rfl HF rfl rfl (yl_loadR (cs := [.int .i64 o.fKind, .string o.fPath, .string o.fTo, .int .i64 o.fAt, .string o.fText]) rfl (HF.ev rfl) ((HS.out.box 0 rfl).sub 0 5) (by kernel_rfl)) ?_; clear HF a; intro a HF
 refine wl_callB rfl HF rfl (enter_of Tryz.func91 (by kernel_rfl) rfl) (args := #[.agg #[.int .i64 o.fKind, .string o.fPath, .string o.fTo, .int .i64 o.fAt, .string o.fText]]) rfl (v := .bool o.ok) (implOpOk_any o _ (HM.out.below HS.out.bel) hfo.p hfo.t hfo.x) rfl rfl HS.out ?_; clear HF HS a; intro w2 a HS HF; replace HS := Bx.mk HS
 refine wl_y rfl HF rfl rfl (yl_not rfl (HF.ev rfl)) ?_; clear HF a; intro a HF
 refine wl_ne ?_
 refine HF.cases 7 rfl (fun cc1 HF1 => ?_) (fun cc1 HF1 => ?_)
 ·clear HF; have HF := HF1; clear HF1
  refine wc_true HF rfl ?_
  refine wp_sr ?_
  refine wl_as HF rfl rfl rfl rfl rfl ?_; clear HF a; intro a HF
  refine wl_ne ?_
  refine wp_ret ?_
  refine ex_then_ret ?_
  refine bp_ret1 HF Tryz.results92 (HF.res rfl) ?_
  exact ⟨by rw [opB_no (by simpa using cc1)]; rfl, HS.out.bel⟩
 ·clear HF; have HF := HF1; clear HF1
  refine wc_false HF rfl ?_
  refine wp_skip ?_
  refine ex_then ?_
  refine wp_seq ?_
  have hok : o.ok = true := by simpa using cc1
  have hb := OpD.ok_parts hok
  refine wr_heldS (s := [boxA b1 5 53 (.agg #[.int .i64 o.fKind, .string o.fPath, .string o.fTo, .int .i64 o.fAt, .string o.fText])]) (by kernel_rfl) (St.drew (HS.out)) ?_
  have HS2 := Bx.mk HS.out.drew; replace HS := Bx.mk (show St w0 ([boxA b1 5 53 (.agg #[.int .i64 o.fKind, .string o.fPath, .string o.fTo, .int .i64 o.fAt, .string o.fText])]) _ from HS.out.drew)
  generalize World.drew _ = w3 at HS HS2 ⊢
  refine wh_y 0 rfl (by kernel_rfl) (by kernel_rfl) (by kernel_rfl) (fun _ _ _ h => h) rfl HF rfl rfl (fun _ HS => (yl_fieldAddr (j := 0) rfl (HF.ev rfl) (by kernel_rfl))) HS.out ?_; clear HF a; intro a HF
  refine wh_y 1 rfl (by kernel_rfl) (by kernel_rfl) (by kernel_rfl) (fun _ _ _ h => h) rfl HF rfl rfl (fun _ HS => (yl_load (v := .int .i64 o.fKind) rfl (HF.ev rfl) (((HS.box 0 rfl).cell 0).trans rfl) (by kernel_rfl))) HS.out ?_; clear HF a; intro a HF
  refine wh_y 3 rfl (by kernel_rfl) (by kernel_rfl) (by kernel_rfl) (fun _ _ _ h => h) rfl HF rfl rfl (fun _ HS => (yl_fieldAddr (j := 1) rfl (HF.ev rfl) (by kernel_rfl))) HS.out ?_; clear HF a; intro a HF
  refine wh_y 4 rfl (by kernel_rfl) (by kernel_rfl) (by kernel_rfl) (fun _ _ _ h => h) rfl HF rfl rfl (fun _ HS => (yl_load (v := .string o.fPath) rfl (HF.ev rfl) (((HS.box 0 rfl).cell 1).trans rfl) (by kernel_rfl))) HS.out ?_; clear HF a; intro a HF
  refine wh_y 5 rfl (by kernel_rfl) (by kernel_rfl) (by kernel_rfl) (fun _ _ _ h => h) rfl HF rfl rfl (fun _ HS => (yl_fieldAddr (j := 2) rfl (HF.ev rfl) (by kernel_rfl))) HS.out ?_; clear HF a; intro a HF
  refine wh_y 6 rfl (by kernel_rfl) (by kernel_rfl) (by kernel_rfl) (fun _ _ _ h => h) rfl HF rfl rfl (fun _ HS => (yl_load (v := .string o.fTo) rfl (HF.ev rfl) (((HS.box 0 rfl).cell 2).trans rfl) (by kernel_rfl))) HS.out ?_; clear HF a; intro a HF
  refine wh_y 7 rfl (by kernel_rfl) (by kernel_rfl) (by kernel_rfl) (fun _ _ _ h => h) rfl HF rfl rfl (fun _ HS => (yl_fieldAddr (j := 3) rfl (HF.ev rfl) (by kernel_rfl))) HS.out ?_; clear HF a; intro a HF
  refine wh_y 8 rfl (by kernel_rfl) (by kernel_rfl) (by kernel_rfl) (fun _ _ _ h => h) rfl HF rfl rfl (fun _ HS => (yl_load (v := .int .i64 o.fAt) rfl (HF.ev rfl) (((HS.box 0 rfl).cell 3).trans rfl) (by kernel_rfl))) HS.out ?_; clear HF a; intro a HF
  refine wh_y 10 rfl (by kernel_rfl) (by kernel_rfl) (by kernel_rfl) (fun _ _ _ h => h) rfl HF rfl rfl (fun _ HS => (yl_fieldAddr (j := 4) rfl (HF.ev rfl) (by kernel_rfl))) HS.out ?_; clear HF a; intro a HF
  refine wh_y 11 rfl (by kernel_rfl) (by kernel_rfl) (by kernel_rfl) (fun _ _ _ h => h) rfl HF rfl rfl (fun _ HS => (yl_load (v := .string o.fText) rfl (HF.ev rfl) (((HS.box 0 rfl).cell 4).trans rfl) (by kernel_rfl))) HS.out ?_; clear HF a; intro a HF
  refine wh_one 2 (by kernel_rfl) ?_
  refine wo_callB rfl rfl HF rfl (enter_of Tryz.func80 (by kernel_rfl) rfl) (args := #[.int .i64 o.fKind]) rfl (v := .string (numB o.fKind)) (numPutI_any o.fKind _ (HT.out.below HS2.out.bel)) rfl rfl ?_
  intro w4 hb; replace HS := Bx.mk (HS.out.later hb); replace HS2 := Bx.mk (HS2.out.later hb); clear hb HF; clear a; intro a HF; refine ⟨HS.out, ?_⟩
  refine wh_one 9 (by kernel_rfl) ?_
  refine wo_callB rfl rfl HF rfl (enter_of Tryz.func80 (by kernel_rfl) rfl) (args := #[.int .i64 o.fAt]) rfl (v := .string (numB o.fAt)) (numPutI_any o.fAt _ (HT.out.below HS2.out.bel)) rfl rfl ?_
  intro w5 hb; replace HS := Bx.mk (HS.out.later hb); replace HS2 := Bx.mk (HS2.out.later hb); clear hb HF; clear a; intro a HF; refine ⟨HS.out, ?_⟩
  refine wh_one 12 (by kernel_rfl) ?_
  refine wo_buildS (enc := encS) (e := 9) (size := 1) rfl rfl HF rfl rfl rfl (ps := [(0, .string (numB o.fKind)), (1, .string o.fPath), (2, .string o.fTo), (3, .string (numB o.fAt)), (4, .string o.fText)]) rfl (cells := [.string (numB o.fKind), .string o.fPath, .string o.fTo, .string (numB o.fAt), .string o.fText]) (by kernel_rfl) [numB o.fKind, o.fPath, o.fTo, numB o.fAt, o.fText] rfl rfl (by unfold maxLen; omega) rfl HS2.out HS.out ?_; clear HF HS HS2 a; intro b2 a w7 HF HS2 HS; replace HS := Bx.mk HS; replace HS2 := Bx.mk HS2; refine ⟨HS.out, ?_⟩
  refine wh_one 13 (by kernel_rfl) ?_
  refine wo_callB rfl rfl HF rfl (enter_of Tryz.func124 (by kernel_rfl) rfl) (args := #[.slice (some ⟨b2, 0, none⟩) 5 5]) rfl (v := .tuple #[.string ((fieldsPut ([numB o.fKind, o.fPath, o.fTo, numB o.fAt, o.fText])).1), .bool ((fieldsPut ([numB o.fKind, o.fPath, o.fTo, numB o.fAt, o.fText])).2)]) (fieldsPutI_any _ _ _ ([numB o.fKind, o.fPath, o.fTo, numB o.fAt, o.fText]) _ (HT.out.below HS2.out.bel) (by (try simp only [List.length_append, List.length_cons, List.length_nil, List.nil_append, List.length_map]); omega) (szs_cons (Nat.le_trans (numB_le _) (by decide)) (szs_cons (Nat.le_trans hfo.p (by decide)) (szs_cons (Nat.le_trans hfo.t (by decide)) (szs_cons (Nat.le_trans (numB_le _) (by decide)) (szs_cons (Nat.le_trans hfo.x (by decide)) szs_nil))))) (St.rdN HS2.out encS_len 0 rfl)) rfl rfl ?_
  intro w8 hb; replace HS := Bx.mk (HS.out.later hb); replace HS2 := Bx.mk (HS2.out.later hb); clear hb HF; clear a; intro a HF; refine ⟨HS.out, ?_⟩
  refine wh_y 14 rfl (by kernel_rfl) (by kernel_rfl) (by kernel_rfl) (fun _ _ _ h => h) rfl HF rfl rfl (fun _ HS => (yl_move rfl (HF.ev rfl))) HS.out ?_; clear HF a; intro a HF
  refine wh_y 15 rfl (by kernel_rfl) (by kernel_rfl) (by kernel_rfl) (fun _ _ _ h => h) rfl HF rfl rfl (fun _ HS => (yl_extract rfl (HF.ev rfl) rfl)) HS.out ?_; clear HF a; intro a HF
  refine wh_y 16 rfl (by kernel_rfl) (by kernel_rfl) (by kernel_rfl) (fun _ _ _ h => h) rfl HF rfl rfl (fun _ HS => (yl_extract rfl (HF.ev rfl) rfl)) HS.out ?_; clear HF a; intro a HF
  refine wh_y 17 rfl (by kernel_rfl) (by kernel_rfl) (by kernel_rfl) (fun _ _ _ h => h) rfl HF rfl rfl (fun _ HS => (yl_assign rfl (HF.ev rfl))) HS.out ?_; clear HF a; intro a HF
  refine wh_y 18 rfl (by kernel_rfl) (by kernel_rfl) (by kernel_rfl) (fun _ _ _ h => h) rfl HF rfl rfl (fun _ HS => (yl_assign rfl (HF.ev rfl))) HS.out ?_; clear HF a; intro a HF
  refine wh_done (by kernel_rfl) ?_
  replace HS := HS2; clear HS2
  refine ex_then ?_
  refine wp_sr ?_
  refine wl_mv HF rfl rfl rfl rfl rfl ?_; clear HF a; intro a HF
  refine wl_as HF rfl rfl rfl rfl rfl ?_; clear HF a; intro a HF
  refine wl_ne ?_
  refine wp_ret ?_
  refine bp_ret1 HF Tryz.results92 (HF.res rfl) ?_
  exact ⟨by rw [opB_yes hok]; rfl, HS.out.bel⟩

def IntentD.ok (x : IntentD) : Bool := (bif inB x.fTxg 1 900 then (bif inB x.fSeq 1 4 then (bif nameB x.fHead then x.fOp.ok else false) else false) else false)

theorem implIntentOk_any (x : IntentD) (w0 : World) (hM : MaxP w0) (hfx : x.fits) : Calls Tryz.prog 46 #[.agg #[.int .i64 x.fTxg, .int .i64 x.fSeq, .string x.fHead, .int .i64 x.fOp.fKind, .string x.fOp.fPath, .string x.fOp.fTo, .int .i64 x.fOp.fAt, .string x.fOp.fText]] w0 fun e w' => e = .returned (.bool x.ok) ∧ Below w0.heap.size w0 w' := by
 have HM := Bx.mk hM; clear hM
 have HS := Bx.mk (St.start w0)
 refine wc_enter Tryz.func46 rfl Tryz.ntmps46 [(0, .agg #[.int .i64 x.fTxg, .int .i64 x.fSeq, .string x.fHead, .int .i64 x.fOp.fKind, .string x.fOp.fPath, .string x.fOp.fTo, .int .i64 x.fOp.fAt, .string x.fOp.fText])] ⟨rfl, trivial⟩ rfl ?_; intro a HF
 refine wp_sr ?_
 refine wl_box rfl HF rfl (HF.ev rfl) (Z := [.int .i64 x.fTxg, .int .i64 x.fSeq, .string x.fHead, .int .i64 x.fOp.fKind, .string x.fOp.fPath, .string x.fOp.fTo, .int .i64 x.fOp.fAt, .string x.fOp.fText]) rfl rfl rfl rfl HS.out ?_; clear HF HS a; intro a w1 b1 HF HS; replace HS := Bx.mk HS
 refine wl_as HF rfl rfl rfl rfl rfl ?_; clear HF a; intro a HF
 refine wl_ne ?_
 refine wp_sr ?_
 refine wl_y rfl HF rfl rfl (yl_fieldAddr (j := 0) rfl (HF.ev rfl) (by kernel_rfl)) ?_; clear HF a; intro a HF
 refine wl_y rfl HF rfl rfl (yl_load (v := .int .i64 x.fTxg) rfl (HF.ev rfl) (((HS.out.box 0 rfl).cell 0).trans rfl) (by kernel_rfl)) ?_; clear HF a; intro a HF
 refine wl_callB rfl HF rfl (enter_of Tryz.func52 (by kernel_rfl) rfl) (args := #[.int .i64 x.fTxg, .int .i64 1, .int .i64 900]) rfl (v := .bool (inB x.fTxg 1 900)) (((within_any x.fTxg 1 900 _).mono fun _ _ h => ⟨h.1, h.2 ▸ Below.refl _ _⟩)) rfl rfl HS.out ?_; clear HF HS a; intro w2 a HS HF; replace HS := Bx.mk HS
 refine wl_mv HF rfl rfl rfl rfl rfl ?_; clear HF a; intro a HF
 refine HF.cases 6 rfl (fun cc1 HF1 => ?_) (fun cc1 HF1 => ?_)
 ·clear HF; have HF := HF1; clear HF1
  refine wl_yg HF rfl rfl rfl rfl rfl (yl_fieldAddr (j := 1) rfl (HF.ev rfl) (by kernel_rfl)) ?_; clear HF a; intro a HF
  refine wl_yg HF rfl rfl rfl rfl rfl (yl_load (v := .int .i64 x.fSeq) rfl (HF.ev rfl) (((HS.out.box 0 rfl).cell 1).trans rfl) (by kernel_rfl)) ?_; clear HF a; intro a HF
  refine wl_callBg HF rfl rfl rfl rfl (enter_of Tryz.func52 (by kernel_rfl) rfl) (args := #[.int .i64 x.fSeq, .int .i64 1, .int .i64 4]) rfl (v := .bool (inB x.fSeq 1 4)) (((within_any x.fSeq 1 4 _).mono fun _ _ h => ⟨h.1, h.2 ▸ Below.refl _ _⟩)) rfl rfl HS.out ?_; clear HF HS a; intro w3 a HS HF; replace HS := Bx.mk HS
  refine wl_y rfl HF rfl rfl (yl_pick_t rfl (HF.ev rfl) (HF.ev rfl)) ?_; clear HF a; intro a HF
  refine wl_mv HF rfl rfl rfl rfl rfl ?_; clear HF a; intro a HF
  refine HF.cases 11 rfl (fun cc2 HF1 => ?_) (fun cc2 HF1 => ?_)
  ·clear HF; have HF := HF1; clear HF1
   refine wl_yg HF rfl rfl rfl rfl rfl (yl_fieldAddr (j := 2) rfl (HF.ev rfl) (by kernel_rfl)) ?_; clear HF a; intro a HF
   refine wl_yg HF rfl rfl rfl rfl rfl (yl_load (v := .string x.fHead) rfl (HF.ev rfl) (((HS.out.box 0 rfl).cell 2).trans rfl) (by kernel_rfl)) ?_; clear HF a; intro a HF
   refine wl_callBg HF rfl rfl rfl rfl (enter_of Tryz.func90 (by kernel_rfl) rfl) (args := #[.string x.fHead]) rfl (v := .bool (nameB x.fHead)) (implNameOk_any x.fHead _ (Nat.le_trans hfx.h (by decide))) rfl rfl HS.out ?_; clear HF HS a; intro w4 a HS HF; replace HS := Bx.mk HS
   refine wl_y rfl HF rfl rfl (yl_pick_t rfl (HF.ev rfl) (HF.ev rfl)) ?_; clear HF a; intro a HF
   refine wl_mv HF rfl rfl rfl rfl rfl ?_; clear HF a; intro a HF
   refine HF.cases 16 rfl (fun cc3 HF1 => ?_) (fun cc3 HF1 => ?_)
   ·clear HF; have HF := HF1; clear HF1
    refine wl_yg HF rfl rfl rfl rfl rfl (yl_fieldAddr (j := 3) rfl (HF.ev rfl) (by kernel_rfl)) ?_; clear HF a; intro a HF
    refine wl_yg HF rfl rfl rfl rfl rfl (yl_loadR (cs := [.int .i64 x.fOp.fKind, .string x.fOp.fPath, .string x.fOp.fTo, .int .i64 x.fOp.fAt, .string x.fOp.fText]) rfl (HF.ev rfl) ((HS.out.box 0 rfl).sub 3 5) (by kernel_rfl)) ?_; clear HF a; intro a HF
    refine wl_callBg HF rfl rfl rfl rfl (enter_of Tryz.func91 (by kernel_rfl) rfl) (args := #[.agg #[.int .i64 x.fOp.fKind, .string x.fOp.fPath, .string x.fOp.fTo, .int .i64 x.fOp.fAt, .string x.fOp.fText]]) rfl (v := .bool x.fOp.ok) (implOpOk_any x.fOp _ (HM.out.below HS.out.bel) hfx.o.p hfx.o.t hfx.o.x) rfl rfl HS.out ?_; clear HF HS a; intro w5 a HS HF; replace HS := Bx.mk HS
    refine wl_y rfl HF rfl rfl (yl_pick_t rfl (HF.ev rfl) (HF.ev rfl)) ?_; clear HF a; intro a HF
    refine wl_as HF rfl rfl rfl rfl rfl ?_; clear HF a; intro a HF
    refine wl_ne ?_
    refine wp_ret ?_
    refine bp_ret1 HF Tryz.results46 (HF.res rfl) ?_
    have hfn : IntentD.ok x = x.fOp.ok := by simp only [IntentD.ok, cc1, cc1, cc2, cc2, cc3, cc3, cond_true, cond_false]
    exact ⟨by rw [hfn] <;> rfl, HS.out.bel⟩
   ·clear HF; have HF := HF1; clear HF1
    refine wl_skip HF rfl rfl rfl rfl rfl rfl ?_; clear HF a; intro a HF
    refine wl_skip HF rfl rfl rfl rfl rfl rfl ?_; clear HF a; intro a HF
    refine wl_skip HF rfl rfl rfl rfl rfl rfl ?_; clear HF a; intro a HF
    refine wl_y rfl HF rfl rfl (yl_pick_f rfl (HF.ev rfl) (HF.ev rfl)) ?_; clear HF a; intro a HF
    refine wl_as HF rfl rfl rfl rfl rfl ?_; clear HF a; intro a HF
    refine wl_ne ?_
    refine wp_ret ?_
    refine bp_ret1 HF Tryz.results46 (HF.res rfl) ?_
    have hfn : IntentD.ok x = false := by simp only [IntentD.ok, cc1, cc1, cc2, cc2, cc3, cc3, cond_true, cond_false]
    exact ⟨by rw [hfn] <;> rfl, HS.out.bel⟩
  ·clear HF; have HF := HF1; clear HF1
   refine wl_skip HF rfl rfl rfl rfl rfl rfl ?_; clear HF a; intro a HF
   refine wl_skip HF rfl rfl rfl rfl rfl rfl ?_; clear HF a; intro a HF
   refine wl_skip HF rfl rfl rfl rfl rfl rfl ?_; clear HF a; intro a HF
   refine wl_y rfl HF rfl rfl (yl_pick_f rfl (HF.ev rfl) (HF.ev rfl)) ?_; clear HF a; intro a HF
   refine wl_mv HF rfl rfl rfl rfl rfl ?_; clear HF a; intro a HF
   refine wl_skip HF rfl rfl rfl rfl rfl rfl ?_; clear HF a; intro a HF
   refine wl_skip HF rfl rfl rfl rfl rfl rfl ?_; clear HF a; intro a HF
   refine wl_skip HF rfl rfl rfl rfl rfl rfl ?_; clear HF a; intro a HF
   refine wl_y rfl HF rfl rfl (yl_pick_f rfl (HF.ev rfl) (HF.ev rfl)) ?_; clear HF a; intro a HF
   refine wl_as HF rfl rfl rfl rfl rfl ?_; clear HF a; intro a HF
   refine wl_ne ?_
   refine wp_ret ?_
   refine bp_ret1 HF Tryz.results46 (HF.res rfl) ?_
   have hfn : IntentD.ok x = false := by simp only [IntentD.ok, cc1, cc1, cc2, cc2, cond_true, cond_false]
   exact ⟨by rw [hfn] <;> rfl, HS.out.bel⟩
 ·clear HF; have HF := HF1; clear HF1
  refine wl_skip HF rfl rfl rfl rfl rfl rfl ?_; clear HF a; intro a HF
  refine wl_skip HF rfl rfl rfl rfl rfl rfl ?_; clear HF a; intro a HF
  refine wl_skip HF rfl rfl rfl rfl rfl rfl ?_; clear HF a; intro a HF
  refine wl_y rfl HF rfl rfl (yl_pick_f rfl (HF.ev rfl) (HF.ev rfl)) ?_; clear HF a; intro a HF
  refine wl_mv HF rfl rfl rfl rfl rfl ?_; clear HF a; intro a HF
  refine wl_skip HF rfl rfl rfl rfl rfl rfl ?_; clear HF a; intro a HF
  refine wl_skip HF rfl rfl rfl rfl rfl rfl ?_; clear HF a; intro a HF
  refine wl_skip HF rfl rfl rfl rfl rfl rfl ?_; clear HF a; intro a HF
  refine wl_y rfl HF rfl rfl (yl_pick_f rfl (HF.ev rfl) (HF.ev rfl)) ?_; clear HF a; intro a HF
  refine wl_mv HF rfl rfl rfl rfl rfl ?_; clear HF a; intro a HF
  refine wl_skip HF rfl rfl rfl rfl rfl rfl ?_; clear HF a; intro a HF
  refine wl_skip HF rfl rfl rfl rfl rfl rfl ?_; clear HF a; intro a HF
  refine wl_skip HF rfl rfl rfl rfl rfl rfl ?_; clear HF a; intro a HF
  refine wl_y rfl HF rfl rfl (yl_pick_f rfl (HF.ev rfl) (HF.ev rfl)) ?_; clear HF a; intro a HF
  refine wl_as HF rfl rfl rfl rfl rfl ?_; clear HF a; intro a HF
  refine wl_ne ?_
  refine wp_ret ?_
  refine bp_ret1 HF Tryz.results46 (HF.res rfl) ?_
  have hfn : IntentD.ok x = false := by simp only [IntentD.ok, cc1, cc1, cond_true, cond_false]
  exact ⟨by rw [hfn] <;> rfl, HS.out.bel⟩

theorem specOpPut_any (o : OpD) (w0 : World) (hfo : o.fits) : Calls Tryz.prog 133 #[.agg #[.int .i64 o.fKind, .string o.fPath, .string o.fTo, .int .i64 o.fAt, .string o.fText]] w0 fun e w' => e = .returned (.string (opB o)) ∧ Below w0.heap.size w0 w' := by
 have HS := Bx.mk (St.start w0)
 refine wc_enter Tryz.func133 rfl Tryz.ntmps133 [(0, .agg #[.int .i64 o.fKind, .string o.fPath, .string o.fTo, .int .i64 o.fAt, .string o.fText])] ⟨rfl, trivial⟩ rfl ?_; intro a HF
 refine wp_sr ?_
 refine wl_box rfl HF rfl (HF.ev rfl) (Z := [.int .i64 o.fKind, .string o.fPath, .string o.fTo, .int .i64 o.fAt, .string o.fText]) rfl rfl rfl rfl HS.out ?_; clear HF HS a; intro a w1 b1 HF HS; replace HS := Bx.mk HS
 refine wl_as HF rfl rfl rfl rfl rfl ?_; clear HF a; intro a HF
 refine wl_ne ?_
 refine wp_seq ?_
 refine wp_sr ?_
 refine wl_y rfl HF rfl rfl (yl_loadR (cs := [.int .i64 o.fKind, .string o.fPath, .string o.fTo, .int .i64 o.fAt, .string o.fText]) rfl (HF.ev rfl) ((HS.out.box 0 rfl).sub 0 5) (by kernel_rfl)) ?_; clear HF a; intro a HF
 refine wl_callB rfl HF rfl (enter_of Tryz.func88 (by kernel_rfl) rfl) (args := #[.agg #[.int .i64 o.fKind, .string o.fPath, .string o.fTo, .int .i64 o.fAt, .string o.fText]]) rfl (v := .bool o.ok) (specOpOk_any o _ hfo.p hfo.t hfo.x) rfl rfl HS.out ?_; clear HF HS a; intro w2 a HS HF; replace HS := Bx.mk HS
 refine wl_y rfl HF rfl rfl (yl_not rfl (HF.ev rfl)) ?_; clear HF a; intro a HF
 refine wl_ne ?_
 refine HF.cases 7 rfl (fun cc1 HF1 => ?_) (fun cc1 HF1 => ?_)
 ·clear HF; have HF := HF1; clear HF1
  refine wc_true HF rfl ?_
  refine wp_sr ?_
  refine wl_as HF rfl rfl rfl rfl rfl ?_; clear HF a; intro a HF
  refine wl_ne ?_
  refine wp_ret ?_
  refine ex_then_ret ?_
  refine bp_ret1 HF Tryz.results133 (HF.res rfl) ?_
  exact ⟨by rw [opB_no (by simpa using cc1)]; rfl, HS.out.bel⟩
 ·clear HF; have HF := HF1; clear HF1
  refine wc_false HF rfl ?_
  refine wp_skip ?_
  refine ex_then ?_
  refine wp_seq ?_
  have hok : o.ok = true := by simpa using cc1
  have hb := OpD.ok_parts hok
  have hk1 : decB o.fKind.toNat = numB o.fKind := (numB_in (by omega) (by omega)).symm; have hk2 : decB o.fAt.toNat = numB o.fAt := (numB_in (by omega) (by omega)).symm; have hd1 : (decB o.fKind.toNat).size ≤ 19 := decB_20 (by omega); have hd2 : (decB o.fAt.toNat).size ≤ 19 := decB_20 (by omega)
  refine wr_heldS (s := [boxA b1 5 53 (.agg #[.int .i64 o.fKind, .string o.fPath, .string o.fTo, .int .i64 o.fAt, .string o.fText])]) (by kernel_rfl) (St.drew (HS.out)) ?_
  have HS2 := Bx.mk HS.out.drew; replace HS := Bx.mk (show St w0 ([boxA b1 5 53 (.agg #[.int .i64 o.fKind, .string o.fPath, .string o.fTo, .int .i64 o.fAt, .string o.fText])]) _ from HS.out.drew)
  generalize World.drew _ = w3 at HS HS2 ⊢
  refine wh_y 0 rfl (by kernel_rfl) (by kernel_rfl) (by kernel_rfl) (fun _ _ _ h => h) rfl HF rfl rfl (fun _ HS => (yl_fieldAddr (j := 0) rfl (HF.ev rfl) (by kernel_rfl))) HS.out ?_; clear HF a; intro a HF
  refine wh_y 1 rfl (by kernel_rfl) (by kernel_rfl) (by kernel_rfl) (fun _ _ _ h => h) rfl HF rfl rfl (fun _ HS => (yl_load (v := .int .i64 o.fKind) rfl (HF.ev rfl) (((HS.box 0 rfl).cell 0).trans rfl) (by kernel_rfl))) HS.out ?_; clear HF a; intro a HF
  refine wh_y 3 rfl (by kernel_rfl) (by kernel_rfl) (by kernel_rfl) (fun _ _ _ h => h) rfl HF rfl rfl (fun _ HS => (yl_fieldAddr (j := 1) rfl (HF.ev rfl) (by kernel_rfl))) HS.out ?_; clear HF a; intro a HF
  refine wh_y 4 rfl (by kernel_rfl) (by kernel_rfl) (by kernel_rfl) (fun _ _ _ h => h) rfl HF rfl rfl (fun _ HS => (yl_load (v := .string o.fPath) rfl (HF.ev rfl) (((HS.box 0 rfl).cell 1).trans rfl) (by kernel_rfl))) HS.out ?_; clear HF a; intro a HF
  refine wh_y 5 rfl (by kernel_rfl) (by kernel_rfl) (by kernel_rfl) (fun _ _ _ h => h) rfl HF rfl rfl (fun _ HS => (yl_fieldAddr (j := 2) rfl (HF.ev rfl) (by kernel_rfl))) HS.out ?_; clear HF a; intro a HF
  refine wh_y 6 rfl (by kernel_rfl) (by kernel_rfl) (by kernel_rfl) (fun _ _ _ h => h) rfl HF rfl rfl (fun _ HS => (yl_load (v := .string o.fTo) rfl (HF.ev rfl) (((HS.box 0 rfl).cell 2).trans rfl) (by kernel_rfl))) HS.out ?_; clear HF a; intro a HF
  refine wh_y 7 rfl (by kernel_rfl) (by kernel_rfl) (by kernel_rfl) (fun _ _ _ h => h) rfl HF rfl rfl (fun _ HS => (yl_fieldAddr (j := 3) rfl (HF.ev rfl) (by kernel_rfl))) HS.out ?_; clear HF a; intro a HF
  refine wh_y 8 rfl (by kernel_rfl) (by kernel_rfl) (by kernel_rfl) (fun _ _ _ h => h) rfl HF rfl rfl (fun _ HS => (yl_load (v := .int .i64 o.fAt) rfl (HF.ev rfl) (((HS.box 0 rfl).cell 3).trans rfl) (by kernel_rfl))) HS.out ?_; clear HF a; intro a HF
  refine wh_y 10 rfl (by kernel_rfl) (by kernel_rfl) (by kernel_rfl) (fun _ _ _ h => h) rfl HF rfl rfl (fun _ HS => (yl_fieldAddr (j := 4) rfl (HF.ev rfl) (by kernel_rfl))) HS.out ?_; clear HF a; intro a HF
  refine wh_y 11 rfl (by kernel_rfl) (by kernel_rfl) (by kernel_rfl) (fun _ _ _ h => h) rfl HF rfl rfl (fun _ HS => (yl_load (v := .string o.fText) rfl (HF.ev rfl) (((HS.box 0 rfl).cell 4).trans rfl) (by kernel_rfl))) HS.out ?_; clear HF a; intro a HF
  refine wh_one 2 (by kernel_rfl) ?_
  refine wo_callB rfl rfl HF rfl (enter_of Tryz.func65 (by kernel_rfl) rfl) (args := #[.int .i64 o.fKind]) rfl (v := .string (decB o.fKind.toNat)) (l6DecI_any o.fKind (by omega) (by omega) _) rfl rfl ?_
  intro w4 hb; replace HS := Bx.mk (HS.out.later hb); replace HS2 := Bx.mk (HS2.out.later hb); clear hb HF; clear a; intro a HF; refine ⟨HS.out, ?_⟩
  refine wh_one 9 (by kernel_rfl) ?_
  refine wo_callB rfl rfl HF rfl (enter_of Tryz.func65 (by kernel_rfl) rfl) (args := #[.int .i64 o.fAt]) rfl (v := .string (decB o.fAt.toNat)) (l6DecI_any o.fAt (by omega) (by omega) _) rfl rfl ?_
  intro w5 hb; replace HS := Bx.mk (HS.out.later hb); replace HS2 := Bx.mk (HS2.out.later hb); clear hb HF; clear a; intro a HF; refine ⟨HS.out, ?_⟩
  refine wh_one 12 (by kernel_rfl) ?_
  refine wo_buildS (enc := encS) (e := 9) (size := 1) rfl rfl HF rfl rfl rfl (ps := [(0, .string (decB o.fKind.toNat)), (1, .string o.fPath), (2, .string o.fTo), (3, .string (decB o.fAt.toNat)), (4, .string o.fText)]) rfl (cells := [.string (decB o.fKind.toNat), .string o.fPath, .string o.fTo, .string (decB o.fAt.toNat), .string o.fText]) (by kernel_rfl) [decB o.fKind.toNat, o.fPath, o.fTo, decB o.fAt.toNat, o.fText] rfl rfl (by unfold maxLen; omega) rfl HS2.out HS.out ?_; clear HF HS HS2 a; intro b2 a w7 HF HS2 HS; replace HS := Bx.mk HS; replace HS2 := Bx.mk HS2; refine ⟨HS.out, ?_⟩
  refine wh_one 13 (by kernel_rfl) ?_
  refine wo_callB rfl rfl HF rfl (enter_of Tryz.func67 (by kernel_rfl) rfl) (args := #[.slice (some ⟨b2, 0, none⟩) 5 5]) rfl (v := .tuple #[.string ((fieldsPut ([decB o.fKind.toNat, o.fPath, o.fTo, decB o.fAt.toNat, o.fText])).1), .bool ((fieldsPut ([decB o.fKind.toNat, o.fPath, o.fTo, decB o.fAt.toNat, o.fText])).2)]) (fieldsPutS_any _ _ _ ([decB o.fKind.toNat, o.fPath, o.fTo, decB o.fAt.toNat, o.fText]) _ (by (try simp only [List.length_append, List.length_cons, List.length_nil, List.nil_append, List.length_map]); omega) (szs_cons (by omega) (szs_cons (Nat.le_trans hfo.p (by decide)) (szs_cons (Nat.le_trans hfo.t (by decide)) (szs_cons (by omega) (szs_cons (Nat.le_trans hfo.x (by decide)) szs_nil))))) (St.rdN HS2.out encS_len 0 rfl)) rfl rfl ?_
  intro w8 hb; replace HS := Bx.mk (HS.out.later hb); replace HS2 := Bx.mk (HS2.out.later hb); clear hb HF; clear a; intro a HF; refine ⟨HS.out, ?_⟩
  refine wh_y 14 rfl (by kernel_rfl) (by kernel_rfl) (by kernel_rfl) (fun _ _ _ h => h) rfl HF rfl rfl (fun _ HS => (yl_move rfl (HF.ev rfl))) HS.out ?_; clear HF a; intro a HF
  refine wh_y 15 rfl (by kernel_rfl) (by kernel_rfl) (by kernel_rfl) (fun _ _ _ h => h) rfl HF rfl rfl (fun _ HS => (yl_extract rfl (HF.ev rfl) rfl)) HS.out ?_; clear HF a; intro a HF
  refine wh_y 16 rfl (by kernel_rfl) (by kernel_rfl) (by kernel_rfl) (fun _ _ _ h => h) rfl HF rfl rfl (fun _ HS => (yl_extract rfl (HF.ev rfl) rfl)) HS.out ?_; clear HF a; intro a HF
  refine wh_y 17 rfl (by kernel_rfl) (by kernel_rfl) (by kernel_rfl) (fun _ _ _ h => h) rfl HF rfl rfl (fun _ HS => (yl_assign rfl (HF.ev rfl))) HS.out ?_; clear HF a; intro a HF
  refine wh_y 18 rfl (by kernel_rfl) (by kernel_rfl) (by kernel_rfl) (fun _ _ _ h => h) rfl HF rfl rfl (fun _ HS => (yl_assign rfl (HF.ev rfl))) HS.out ?_; clear HF a; intro a HF
  refine wh_done (by kernel_rfl) ?_
  replace HS := HS2; clear HS2
  refine ex_then ?_
  refine wp_sr ?_
  refine wl_mv HF rfl rfl rfl rfl rfl ?_; clear HF a; intro a HF
  refine wl_as HF rfl rfl rfl rfl rfl ?_; clear HF a; intro a HF
  refine wl_ne ?_
  refine wp_ret ?_
  refine bp_ret1 HF Tryz.results133 (HF.res rfl) ?_
  exact ⟨by rw [opB_yes hok, ← hk1, ← hk2]; rfl, HS.out.bel⟩

theorem specIntentOk_any (x : IntentD) (w0 : World) (hfx : x.fits) : Calls Tryz.prog 43 #[.agg #[.int .i64 x.fTxg, .int .i64 x.fSeq, .string x.fHead, .int .i64 x.fOp.fKind, .string x.fOp.fPath, .string x.fOp.fTo, .int .i64 x.fOp.fAt, .string x.fOp.fText]] w0 fun e w' => e = .returned (.bool x.ok) ∧ Below w0.heap.size w0 w' := by
 have HS := Bx.mk (St.start w0)
 refine wc_enter Tryz.func43 rfl Tryz.ntmps43 [(0, .agg #[.int .i64 x.fTxg, .int .i64 x.fSeq, .string x.fHead, .int .i64 x.fOp.fKind, .string x.fOp.fPath, .string x.fOp.fTo, .int .i64 x.fOp.fAt, .string x.fOp.fText])] ⟨rfl, trivial⟩ rfl ?_; intro a HF
 refine wp_sr ?_
 refine wl_box rfl HF rfl (HF.ev rfl) (Z := [.int .i64 x.fTxg, .int .i64 x.fSeq, .string x.fHead, .int .i64 x.fOp.fKind, .string x.fOp.fPath, .string x.fOp.fTo, .int .i64 x.fOp.fAt, .string x.fOp.fText]) rfl rfl rfl rfl HS.out ?_; clear HF HS a; intro a w1 b1 HF HS; replace HS := Bx.mk HS
 refine wl_as HF rfl rfl rfl rfl rfl ?_; clear HF a; intro a HF
 refine wl_ne ?_
 refine wp_sr ?_
 refine wl_y rfl HF rfl rfl (yl_fieldAddr (j := 0) rfl (HF.ev rfl) (by kernel_rfl)) ?_; clear HF a; intro a HF
 refine wl_y rfl HF rfl rfl (yl_load (v := .int .i64 x.fTxg) rfl (HF.ev rfl) (((HS.out.box 0 rfl).cell 0).trans rfl) (by kernel_rfl)) ?_; clear HF a; intro a HF
 refine wl_callB rfl HF rfl (enter_of Tryz.func61 (by kernel_rfl) rfl) (args := #[.int .i64 x.fTxg, .int .i64 1, .int .i64 900]) rfl (v := .bool (inB x.fTxg 1 900)) (((l6In_any x.fTxg 1 900 _).mono fun _ _ h => ⟨h.1, h.2 ▸ Below.refl _ _⟩)) rfl rfl HS.out ?_; clear HF HS a; intro w2 a HS HF; replace HS := Bx.mk HS
 refine wl_mv HF rfl rfl rfl rfl rfl ?_; clear HF a; intro a HF
 refine HF.cases 6 rfl (fun cc1 HF1 => ?_) (fun cc1 HF1 => ?_)
 ·clear HF; have HF := HF1; clear HF1
  refine wl_yg HF rfl rfl rfl rfl rfl (yl_fieldAddr (j := 1) rfl (HF.ev rfl) (by kernel_rfl)) ?_; clear HF a; intro a HF
  refine wl_yg HF rfl rfl rfl rfl rfl (yl_load (v := .int .i64 x.fSeq) rfl (HF.ev rfl) (((HS.out.box 0 rfl).cell 1).trans rfl) (by kernel_rfl)) ?_; clear HF a; intro a HF
  refine wl_callBg HF rfl rfl rfl rfl (enter_of Tryz.func61 (by kernel_rfl) rfl) (args := #[.int .i64 x.fSeq, .int .i64 1, .int .i64 4]) rfl (v := .bool (inB x.fSeq 1 4)) (((l6In_any x.fSeq 1 4 _).mono fun _ _ h => ⟨h.1, h.2 ▸ Below.refl _ _⟩)) rfl rfl HS.out ?_; clear HF HS a; intro w3 a HS HF; replace HS := Bx.mk HS
  refine wl_y rfl HF rfl rfl (yl_pick_t rfl (HF.ev rfl) (HF.ev rfl)) ?_; clear HF a; intro a HF
  refine wl_mv HF rfl rfl rfl rfl rfl ?_; clear HF a; intro a HF
  refine HF.cases 11 rfl (fun cc2 HF1 => ?_) (fun cc2 HF1 => ?_)
  ·clear HF; have HF := HF1; clear HF1
   refine wl_yg HF rfl rfl rfl rfl rfl (yl_fieldAddr (j := 2) rfl (HF.ev rfl) (by kernel_rfl)) ?_; clear HF a; intro a HF
   refine wl_yg HF rfl rfl rfl rfl rfl (yl_load (v := .string x.fHead) rfl (HF.ev rfl) (((HS.out.box 0 rfl).cell 2).trans rfl) (by kernel_rfl)) ?_; clear HF a; intro a HF
   refine wl_callBg HF rfl rfl rfl rfl (enter_of Tryz.func87 (by kernel_rfl) rfl) (args := #[.string x.fHead]) rfl (v := .bool (nameB x.fHead)) (specNameOk_any x.fHead _ (Nat.le_trans hfx.h (by decide))) rfl rfl HS.out ?_; clear HF HS a; intro w4 a HS HF; replace HS := Bx.mk HS
   refine wl_y rfl HF rfl rfl (yl_pick_t rfl (HF.ev rfl) (HF.ev rfl)) ?_; clear HF a; intro a HF
   refine wl_mv HF rfl rfl rfl rfl rfl ?_; clear HF a; intro a HF
   refine HF.cases 16 rfl (fun cc3 HF1 => ?_) (fun cc3 HF1 => ?_)
   ·clear HF; have HF := HF1; clear HF1
    refine wl_yg HF rfl rfl rfl rfl rfl (yl_fieldAddr (j := 3) rfl (HF.ev rfl) (by kernel_rfl)) ?_; clear HF a; intro a HF
    refine wl_yg HF rfl rfl rfl rfl rfl (yl_loadR (cs := [.int .i64 x.fOp.fKind, .string x.fOp.fPath, .string x.fOp.fTo, .int .i64 x.fOp.fAt, .string x.fOp.fText]) rfl (HF.ev rfl) ((HS.out.box 0 rfl).sub 3 5) (by kernel_rfl)) ?_; clear HF a; intro a HF
    refine wl_callBg HF rfl rfl rfl rfl (enter_of Tryz.func88 (by kernel_rfl) rfl) (args := #[.agg #[.int .i64 x.fOp.fKind, .string x.fOp.fPath, .string x.fOp.fTo, .int .i64 x.fOp.fAt, .string x.fOp.fText]]) rfl (v := .bool x.fOp.ok) (specOpOk_any x.fOp _ hfx.o.p hfx.o.t hfx.o.x) rfl rfl HS.out ?_; clear HF HS a; intro w5 a HS HF; replace HS := Bx.mk HS
    refine wl_y rfl HF rfl rfl (yl_pick_t rfl (HF.ev rfl) (HF.ev rfl)) ?_; clear HF a; intro a HF
    refine wl_as HF rfl rfl rfl rfl rfl ?_; clear HF a; intro a HF
    refine wl_ne ?_
    refine wp_ret ?_
    refine bp_ret1 HF Tryz.results43 (HF.res rfl) ?_
    have hfn : IntentD.ok x = x.fOp.ok := by simp only [IntentD.ok, cc1, cc1, cc2, cc2, cc3, cc3, cond_true, cond_false]
    exact ⟨by rw [hfn] <;> rfl, HS.out.bel⟩
   ·clear HF; have HF := HF1; clear HF1
    refine wl_skip HF rfl rfl rfl rfl rfl rfl ?_; clear HF a; intro a HF
    refine wl_skip HF rfl rfl rfl rfl rfl rfl ?_; clear HF a; intro a HF
    refine wl_skip HF rfl rfl rfl rfl rfl rfl ?_; clear HF a; intro a HF
    refine wl_y rfl HF rfl rfl (yl_pick_f rfl (HF.ev rfl) (HF.ev rfl)) ?_; clear HF a; intro a HF
    refine wl_as HF rfl rfl rfl rfl rfl ?_; clear HF a; intro a HF
    refine wl_ne ?_
    refine wp_ret ?_
    refine bp_ret1 HF Tryz.results43 (HF.res rfl) ?_
    have hfn : IntentD.ok x = false := by simp only [IntentD.ok, cc1, cc1, cc2, cc2, cc3, cc3, cond_true, cond_false]
    exact ⟨by rw [hfn] <;> rfl, HS.out.bel⟩
  ·clear HF; have HF := HF1; clear HF1
   refine wl_skip HF rfl rfl rfl rfl rfl rfl ?_; clear HF a; intro a HF
   refine wl_skip HF rfl rfl rfl rfl rfl rfl ?_; clear HF a; intro a HF
   refine wl_skip HF rfl rfl rfl rfl rfl rfl ?_; clear HF a; intro a HF
   refine wl_y rfl HF rfl rfl (yl_pick_f rfl (HF.ev rfl) (HF.ev rfl)) ?_; clear HF a; intro a HF
   refine wl_mv HF rfl rfl rfl rfl rfl ?_; clear HF a; intro a HF
   refine wl_skip HF rfl rfl rfl rfl rfl rfl ?_; clear HF a; intro a HF
   refine wl_skip HF rfl rfl rfl rfl rfl rfl ?_; clear HF a; intro a HF
   refine wl_skip HF rfl rfl rfl rfl rfl rfl ?_; clear HF a; intro a HF
   refine wl_y rfl HF rfl rfl (yl_pick_f rfl (HF.ev rfl) (HF.ev rfl)) ?_; clear HF a; intro a HF
   refine wl_as HF rfl rfl rfl rfl rfl ?_; clear HF a; intro a HF
   refine wl_ne ?_
   refine wp_ret ?_
   refine bp_ret1 HF Tryz.results43 (HF.res rfl) ?_
   have hfn : IntentD.ok x = false := by simp only [IntentD.ok, cc1, cc1, cc2, cc2, cond_true, cond_false]
   exact ⟨by rw [hfn] <;> rfl, HS.out.bel⟩
 ·clear HF; have HF := HF1; clear HF1
  refine wl_skip HF rfl rfl rfl rfl rfl rfl ?_; clear HF a; intro a HF
  refine wl_skip HF rfl rfl rfl rfl rfl rfl ?_; clear HF a; intro a HF
  refine wl_skip HF rfl rfl rfl rfl rfl rfl ?_; clear HF a; intro a HF
  refine wl_y rfl HF rfl rfl (yl_pick_f rfl (HF.ev rfl) (HF.ev rfl)) ?_; clear HF a; intro a HF
  refine wl_mv HF rfl rfl rfl rfl rfl ?_; clear HF a; intro a HF
  refine wl_skip HF rfl rfl rfl rfl rfl rfl ?_; clear HF a; intro a HF
  refine wl_skip HF rfl rfl rfl rfl rfl rfl ?_; clear HF a; intro a HF
  refine wl_skip HF rfl rfl rfl rfl rfl rfl ?_; clear HF a; intro a HF
  refine wl_y rfl HF rfl rfl (yl_pick_f rfl (HF.ev rfl) (HF.ev rfl)) ?_; clear HF a; intro a HF
  refine wl_mv HF rfl rfl rfl rfl rfl ?_; clear HF a; intro a HF
  refine wl_skip HF rfl rfl rfl rfl rfl rfl ?_; clear HF a; intro a HF
  refine wl_skip HF rfl rfl rfl rfl rfl rfl ?_; clear HF a; intro a HF
  refine wl_skip HF rfl rfl rfl rfl rfl rfl ?_; clear HF a; intro a HF
  refine wl_y rfl HF rfl rfl (yl_pick_f rfl (HF.ev rfl) (HF.ev rfl)) ?_; clear HF a; intro a HF
  refine wl_as HF rfl rfl rfl rfl rfl ?_; clear HF a; intro a HF
  refine wl_ne ?_
  refine wp_ret ?_
  refine bp_ret1 HF Tryz.results43 (HF.res rfl) ?_
  have hfn : IntentD.ok x = false := by simp only [IntentD.ok, cc1, cc1, cond_true, cond_false]
  exact ⟨by rw [hfn] <;> rfl, HS.out.bel⟩

theorem IntentD.ok_parts {x : IntentD} (h : x.ok = true) : 1 ≤ x.fTxg ∧ x.fTxg ≤ 900 ∧ 1 ≤ x.fSeq ∧ x.fSeq ≤ 4 ∧ x.fOp.ok = true := by
  unfold IntentD.ok at h
  cases h1 : inB x.fTxg 1 900 with
  | false => rw [h1] at h; cases h
  | true =>
    cases h2 : inB x.fSeq 1 4 with
    | false => rw [h1, h2] at h; cases h
    | true =>
      cases h3 : nameB x.fHead with
      | false => rw [h1, h2, h3] at h; cases h
      | true => rw [h1, h2, h3] at h; have := inB_true h1; have := inB_true h2; exact ⟨by omega, by omega, by omega, by omega, h⟩
/-- The text of an intent. -/
def intentB (x : IntentD) : ByteArray := bif x.ok then signB [(⟨#[108, 111, 103]⟩ : ByteArray), numB x.fTxg, numB x.fSeq, x.fHead, opB x.fOp] else ByteArray.empty
theorem intentB_no {x : IntentD} (h : x.ok = false) : intentB x = ByteArray.empty := by unfold intentB; rw [h]; rfl
theorem intentB_yes {x : IntentD} (h : x.ok = true) : intentB x = signB [(⟨#[108, 111, 103]⟩ : ByteArray), numB x.fTxg, numB x.fSeq, x.fHead, opB x.fOp] := by unfold intentB; rw [h]; rfl
theorem intentB_le (x : IntentD) : (intentB x).size ≤ 2048 := by
  cases h : x.ok with
  | false => rw [intentB_no h]; exact Nat.zero_le _
  | true => rw [intentB_yes h]; exact signB_le _
/-- An intent written. -/
def intF (ds : List DiskD) (x : IntentD) : Option (List DiskD) := bif okR ds && x.ok then sameF ds ((4 : Int) + x.fSeq - (1 : Int)) (intentB x) else none
theorem intF_no {ds : List DiskD} {x : IntentD} (h : (okR ds && x.ok) = false) : intF ds x = none := by unfold intF; rw [h]; rfl
theorem intF_yes {ds : List DiskD} {x : IntentD} (h1 : okR ds = true) (h2 : x.ok = true) : intF ds x = sameF ds ((4 : Int) + x.fSeq - (1 : Int)) (intentB x) := by unfold intF; rw [h1, h2]; rfl

theorem implIntentPut_any (x : IntentD) (w0 : World) (hT : TabP w0) (hM : MaxP w0) (hfx : x.fits) : Calls Tryz.prog 47 #[.agg #[.int .i64 x.fTxg, .int .i64 x.fSeq, .string x.fHead, .int .i64 x.fOp.fKind, .string x.fOp.fPath, .string x.fOp.fTo, .int .i64 x.fOp.fAt, .string x.fOp.fText]] w0 fun e w' => e = .returned (.string (intentB x)) ∧ Below w0.heap.size w0 w' := by
 have HT := Bx.mk hT; clear hT
 have HM := Bx.mk hM; clear hM
 have HS := Bx.mk (St.start w0)
 refine wc_enter Tryz.func47 rfl Tryz.ntmps47 [(0, .agg #[.int .i64 x.fTxg, .int .i64 x.fSeq, .string x.fHead, .int .i64 x.fOp.fKind, .string x.fOp.fPath, .string x.fOp.fTo, .int .i64 x.fOp.fAt, .string x.fOp.fText])] ⟨rfl, trivial⟩ rfl ?_; intro a HF
 refine wp_sr ?_
 refine wl_box rfl HF rfl (HF.ev rfl) (Z := [.int .i64 x.fTxg, .int .i64 x.fSeq, .string x.fHead, .int .i64 x.fOp.fKind, .string x.fOp.fPath, .string x.fOp.fTo, .int .i64 x.fOp.fAt, .string x.fOp.fText]) rfl rfl rfl rfl HS.out ?_; clear HF HS a; intro a w1 b1 HF HS; replace HS := Bx.mk HS
 refine wl_as HF rfl rfl rfl rfl rfl ?_; clear HF a; intro a HF
 refine wl_ne ?_
 refine wp_seq ?_
 refine wp_sr ?_
 refine wl_y rfl HF rfl rfl (yl_loadR (cs := [.int .i64 x.fTxg, .int .i64 x.fSeq, .string x.fHead, .int .i64 x.fOp.fKind, .string x.fOp.fPath, .string x.fOp.fTo, .int .i64 x.fOp.fAt, .string x.fOp.fText]) rfl (HF.ev rfl) ((HS.out.box 0 rfl).sub 0 8) (by kernel_rfl)) ?_; clear HF a; intro a HF
 refine wl_callB rfl HF rfl (enter_of Tryz.func46 (by kernel_rfl) rfl) (args := #[.agg #[.int .i64 x.fTxg, .int .i64 x.fSeq, .string x.fHead, .int .i64 x.fOp.fKind, .string x.fOp.fPath, .string x.fOp.fTo, .int .i64 x.fOp.fAt, .string x.fOp.fText]]) rfl (v := .bool x.ok) (implIntentOk_any x _ (HM.out.below HS.out.bel) hfx) rfl rfl HS.out ?_; clear HF HS a; intro w2 a HS HF; replace HS := Bx.mk HS
 refine wl_y rfl HF rfl rfl (yl_not rfl (HF.ev rfl)) ?_; clear HF a; intro a HF
 refine wl_ne ?_
 refine HF.cases 5 rfl (fun cc1 HF1 => ?_) (fun cc1 HF1 => ?_)
 ·clear HF; have HF := HF1; clear HF1
  refine wc_true HF rfl ?_
  refine wp_sr ?_
  refine wl_as HF rfl rfl rfl rfl rfl ?_; clear HF a; intro a HF
  refine wl_ne ?_
  refine wp_ret ?_
  refine ex_then_ret ?_
  refine bp_ret1 HF Tryz.results47 (HF.res rfl) ?_
  exact ⟨by rw [intentB_no (by simpa using cc1)]; rfl, HS.out.bel⟩
 ·clear HF; have HF := HF1; clear HF1
  refine wc_false HF rfl ?_
  refine wp_skip ?_
  refine ex_then ?_
  refine wp_seq ?_
  have hok : x.ok = true := by simpa using cc1
  have hb := IntentD.ok_parts hok
  refine wr_heldS (s := [boxA b1 8 55 (.agg #[.int .i64 x.fTxg, .int .i64 x.fSeq, .string x.fHead, .int .i64 x.fOp.fKind, .string x.fOp.fPath, .string x.fOp.fTo, .int .i64 x.fOp.fAt, .string x.fOp.fText])]) (by kernel_rfl) (St.drew (HS.out)) ?_
  have HS2 := Bx.mk HS.out.drew; replace HS := Bx.mk (show St w0 ([boxA b1 8 55 (.agg #[.int .i64 x.fTxg, .int .i64 x.fSeq, .string x.fHead, .int .i64 x.fOp.fKind, .string x.fOp.fPath, .string x.fOp.fTo, .int .i64 x.fOp.fAt, .string x.fOp.fText])]) _ from HS.out.drew)
  generalize World.drew _ = w3 at HS HS2 ⊢
  refine wh_y 0 rfl (by kernel_rfl) (by kernel_rfl) (by kernel_rfl) (fun _ _ _ h => h) rfl HF rfl rfl (fun _ HS => (yl_fieldAddr (j := 0) rfl (HF.ev rfl) (by kernel_rfl))) HS.out ?_; clear HF a; intro a HF
  refine wh_y 1 rfl (by kernel_rfl) (by kernel_rfl) (by kernel_rfl) (fun _ _ _ h => h) rfl HF rfl rfl (fun _ HS => (yl_load (v := .int .i64 x.fTxg) rfl (HF.ev rfl) (((HS.box 0 rfl).cell 0).trans rfl) (by kernel_rfl))) HS.out ?_; clear HF a; intro a HF
  refine wh_y 3 rfl (by kernel_rfl) (by kernel_rfl) (by kernel_rfl) (fun _ _ _ h => h) rfl HF rfl rfl (fun _ HS => (yl_fieldAddr (j := 1) rfl (HF.ev rfl) (by kernel_rfl))) HS.out ?_; clear HF a; intro a HF
  refine wh_y 4 rfl (by kernel_rfl) (by kernel_rfl) (by kernel_rfl) (fun _ _ _ h => h) rfl HF rfl rfl (fun _ HS => (yl_load (v := .int .i64 x.fSeq) rfl (HF.ev rfl) (((HS.box 0 rfl).cell 1).trans rfl) (by kernel_rfl))) HS.out ?_; clear HF a; intro a HF
  refine wh_y 6 rfl (by kernel_rfl) (by kernel_rfl) (by kernel_rfl) (fun _ _ _ h => h) rfl HF rfl rfl (fun _ HS => (yl_fieldAddr (j := 2) rfl (HF.ev rfl) (by kernel_rfl))) HS.out ?_; clear HF a; intro a HF
  refine wh_y 7 rfl (by kernel_rfl) (by kernel_rfl) (by kernel_rfl) (fun _ _ _ h => h) rfl HF rfl rfl (fun _ HS => (yl_load (v := .string x.fHead) rfl (HF.ev rfl) (((HS.box 0 rfl).cell 2).trans rfl) (by kernel_rfl))) HS.out ?_; clear HF a; intro a HF
  refine wh_y 8 rfl (by kernel_rfl) (by kernel_rfl) (by kernel_rfl) (fun _ _ _ h => h) rfl HF rfl rfl (fun _ HS => (yl_fieldAddr (j := 3) rfl (HF.ev rfl) (by kernel_rfl))) HS.out ?_; clear HF a; intro a HF
  refine wh_y 9 rfl (by kernel_rfl) (by kernel_rfl) (by kernel_rfl) (fun _ _ _ h => h) rfl HF rfl rfl (fun _ HS => (yl_loadR (cs := [.int .i64 x.fOp.fKind, .string x.fOp.fPath, .string x.fOp.fTo, .int .i64 x.fOp.fAt, .string x.fOp.fText]) rfl (HF.ev rfl) ((HS.box 0 rfl).sub 3 5) (by kernel_rfl))) HS.out ?_; clear HF a; intro a HF
  refine wh_one 2 (by kernel_rfl) ?_
  refine wo_callB rfl rfl HF rfl (enter_of Tryz.func80 (by kernel_rfl) rfl) (args := #[.int .i64 x.fTxg]) rfl (v := .string (numB x.fTxg)) (numPutI_any x.fTxg _ (HT.out.below HS2.out.bel)) rfl rfl ?_
  intro w4 hb; replace HS := Bx.mk (HS.out.later hb); replace HS2 := Bx.mk (HS2.out.later hb); clear hb HF; clear a; intro a HF; refine ⟨HS.out, ?_⟩
  refine wh_one 5 (by kernel_rfl) ?_
  refine wo_callB rfl rfl HF rfl (enter_of Tryz.func80 (by kernel_rfl) rfl) (args := #[.int .i64 x.fSeq]) rfl (v := .string (numB x.fSeq)) (numPutI_any x.fSeq _ (HT.out.below HS2.out.bel)) rfl rfl ?_
  intro w5 hb; replace HS := Bx.mk (HS.out.later hb); replace HS2 := Bx.mk (HS2.out.later hb); clear hb HF; clear a; intro a HF; refine ⟨HS.out, ?_⟩
  refine wh_one 10 (by kernel_rfl) ?_
  refine wo_callB rfl rfl HF rfl (enter_of Tryz.func92 (by kernel_rfl) rfl) (args := #[.agg #[.int .i64 x.fOp.fKind, .string x.fOp.fPath, .string x.fOp.fTo, .int .i64 x.fOp.fAt, .string x.fOp.fText]]) rfl (v := .string (opB x.fOp)) (implOpPut_any x.fOp _ (HT.out.below HS2.out.bel) (HM.out.below HS2.out.bel) hfx.o) rfl rfl ?_
  intro w6 hb; replace HS := Bx.mk (HS.out.later hb); replace HS2 := Bx.mk (HS2.out.later hb); clear hb HF; clear a; intro a HF; refine ⟨HS.out, ?_⟩
  refine wh_one 11 (by kernel_rfl) ?_
  refine wo_buildS (enc := encS) (e := 9) (size := 1) rfl rfl HF rfl rfl rfl (ps := [(0, .string (⟨#[108, 111, 103]⟩ : ByteArray)), (1, .string (numB x.fTxg)), (2, .string (numB x.fSeq)), (3, .string x.fHead), (4, .string (opB x.fOp))]) rfl (cells := [.string (⟨#[108, 111, 103]⟩ : ByteArray), .string (numB x.fTxg), .string (numB x.fSeq), .string x.fHead, .string (opB x.fOp)]) (by kernel_rfl) [(⟨#[108, 111, 103]⟩ : ByteArray), numB x.fTxg, numB x.fSeq, x.fHead, opB x.fOp] rfl rfl (by unfold maxLen; omega) rfl HS2.out HS.out ?_; clear HF HS HS2 a; intro b2 a w8 HF HS2 HS; replace HS := Bx.mk HS; replace HS2 := Bx.mk HS2; refine ⟨HS.out, ?_⟩
  refine wh_one 12 (by kernel_rfl) ?_
  replace HS2 : Bx (St w0 ([rowA encS 1 9 (.slice (some ⟨b2, 0, none⟩) 5 5) ([(⟨#[108, 111, 103]⟩ : ByteArray), numB x.fTxg, numB x.fSeq, x.fHead, opB x.fOp]), boxA b1 8 55 (.agg #[.int .i64 x.fTxg, .int .i64 x.fSeq, .string x.fHead, .int .i64 x.fOp.fKind, .string x.fOp.fPath, .string x.fOp.fTo, .int .i64 x.fOp.fAt, .string x.fOp.fText])]) _) := ⟨(HS2.out).pick 0 rfl⟩
  refine wo_call rfl rfl HF rfl (enter_of Tryz.func79 (by kernel_rfl) rfl) (args := #[.slice (some ⟨b2, 0, none⟩) 5 5]) rfl (signed_any w0 _ _ _ _ ([(⟨#[108, 111, 103]⟩ : ByteArray), numB x.fTxg, numB x.fSeq, x.fHead, opB x.fOp]) _ HT.out (by simp) (szs_cons (by decide) (szs_cons (Nat.le_trans (numB_le _) (by decide)) (szs_cons (Nat.le_trans (numB_le _) (by decide)) (szs_cons (Nat.le_trans hfx.h (by decide)) (szs_cons (Nat.le_trans (opB_le _) (by decide)) szs_nil))))) HS2.out) rfl rfl ?_
  rintro _ w10 ⟨rfl, hs1⟩
  refine ⟨_, rfl, ?_⟩; replace HS2 := Bx.mk hs1; clear hs1 HF; clear a; intro a HF
  replace HS2 : Bx (St w0 ([boxA b1 8 55 (.agg #[.int .i64 x.fTxg, .int .i64 x.fSeq, .string x.fHead, .int .i64 x.fOp.fKind, .string x.fOp.fPath, .string x.fOp.fTo, .int .i64 x.fOp.fAt, .string x.fOp.fText])]) _) := ⟨HS2.out⟩
  clear HS; have HS : Bx (St w0 ([boxA b1 8 55 (.agg #[.int .i64 x.fTxg, .int .i64 x.fSeq, .string x.fHead, .int .i64 x.fOp.fKind, .string x.fOp.fPath, .string x.fOp.fTo, .int .i64 x.fOp.fAt, .string x.fOp.fText])]) _) := ⟨HS2.out⟩; refine ⟨HS.out, ?_⟩
  refine wh_y 13 rfl (by kernel_rfl) (by kernel_rfl) (by kernel_rfl) (fun _ _ _ h => h) rfl HF rfl rfl (fun _ HS => (yl_assign rfl (HF.ev rfl))) HS.out ?_; clear HF a; intro a HF
  refine wh_done (by kernel_rfl) ?_
  replace HS := HS2; clear HS2
  refine ex_then ?_
  refine wp_ret ?_
  refine bp_ret1 HF Tryz.results47 (HF.res rfl) ?_
  exact ⟨by rw [intentB_yes hok], HS.out.bel⟩

theorem specIntentPut_any (x : IntentD) (w0 : World) (hfx : x.fits) : Calls Tryz.prog 89 #[.agg #[.int .i64 x.fTxg, .int .i64 x.fSeq, .string x.fHead, .int .i64 x.fOp.fKind, .string x.fOp.fPath, .string x.fOp.fTo, .int .i64 x.fOp.fAt, .string x.fOp.fText]] w0 fun e w' => e = .returned (.string (intentB x)) ∧ Below w0.heap.size w0 w' := by
 have HS := Bx.mk (St.start w0)
 refine wc_enter Tryz.func89 rfl Tryz.ntmps89 [(0, .agg #[.int .i64 x.fTxg, .int .i64 x.fSeq, .string x.fHead, .int .i64 x.fOp.fKind, .string x.fOp.fPath, .string x.fOp.fTo, .int .i64 x.fOp.fAt, .string x.fOp.fText])] ⟨rfl, trivial⟩ rfl ?_; intro a HF
 refine wp_sr ?_
 refine wl_box rfl HF rfl (HF.ev rfl) (Z := [.int .i64 x.fTxg, .int .i64 x.fSeq, .string x.fHead, .int .i64 x.fOp.fKind, .string x.fOp.fPath, .string x.fOp.fTo, .int .i64 x.fOp.fAt, .string x.fOp.fText]) rfl rfl rfl rfl HS.out ?_; clear HF HS a; intro a w1 b1 HF HS; replace HS := Bx.mk HS
 refine wl_as HF rfl rfl rfl rfl rfl ?_; clear HF a; intro a HF
 refine wl_ne ?_
 refine wp_seq ?_
 refine wp_sr ?_
 refine wl_y rfl HF rfl rfl (yl_loadR (cs := [.int .i64 x.fTxg, .int .i64 x.fSeq, .string x.fHead, .int .i64 x.fOp.fKind, .string x.fOp.fPath, .string x.fOp.fTo, .int .i64 x.fOp.fAt, .string x.fOp.fText]) rfl (HF.ev rfl) ((HS.out.box 0 rfl).sub 0 8) (by kernel_rfl)) ?_; clear HF a; intro a HF
 refine wl_callB rfl HF rfl (enter_of Tryz.func43 (by kernel_rfl) rfl) (args := #[.agg #[.int .i64 x.fTxg, .int .i64 x.fSeq, .string x.fHead, .int .i64 x.fOp.fKind, .string x.fOp.fPath, .string x.fOp.fTo, .int .i64 x.fOp.fAt, .string x.fOp.fText]]) rfl (v := .bool x.ok) (specIntentOk_any x _ hfx) rfl rfl HS.out ?_; clear HF HS a; intro w2 a HS HF; replace HS := Bx.mk HS
 refine wl_y rfl HF rfl rfl (yl_not rfl (HF.ev rfl)) ?_; clear HF a; intro a HF
 refine wl_ne ?_
 refine HF.cases 10 rfl (fun cc1 HF1 => ?_) (fun cc1 HF1 => ?_)
 ·clear HF; have HF := HF1; clear HF1
  refine wc_true HF rfl ?_
  refine wp_sr ?_
  refine wl_as HF rfl rfl rfl rfl rfl ?_; clear HF a; intro a HF
  refine wl_ne ?_
  refine wp_ret ?_
  refine ex_then_ret ?_
  refine bp_ret1 HF Tryz.results89 (HF.res rfl) ?_
  exact ⟨by rw [intentB_no (by simpa using cc1)]; rfl, HS.out.bel⟩
 ·clear HF; have HF := HF1; clear HF1
  refine wc_false HF rfl ?_
  refine wp_skip ?_
  refine ex_then ?_
  refine wp_seq ?_
  have hok : x.ok = true := by simpa using cc1
  have hb := IntentD.ok_parts hok
  have hk1 : decB x.fTxg.toNat = numB x.fTxg := (numB_in (by omega) (by omega)).symm; have hk2 : decB x.fSeq.toNat = numB x.fSeq := (numB_in (by omega) (by omega)).symm; have hd1 : (decB x.fTxg.toNat).size ≤ 19 := decB_20 (by omega); have hd2 : (decB x.fSeq.toNat).size ≤ 19 := decB_20 (by omega)
  refine wr_heldS (s := [boxA b1 8 55 (.agg #[.int .i64 x.fTxg, .int .i64 x.fSeq, .string x.fHead, .int .i64 x.fOp.fKind, .string x.fOp.fPath, .string x.fOp.fTo, .int .i64 x.fOp.fAt, .string x.fOp.fText])]) (by kernel_rfl) (St.drew (HS.out)) ?_
  have HS2 := Bx.mk HS.out.drew; replace HS := Bx.mk (show St w0 ([boxA b1 8 55 (.agg #[.int .i64 x.fTxg, .int .i64 x.fSeq, .string x.fHead, .int .i64 x.fOp.fKind, .string x.fOp.fPath, .string x.fOp.fTo, .int .i64 x.fOp.fAt, .string x.fOp.fText])]) _ from HS.out.drew)
  generalize World.drew _ = w3 at HS HS2 ⊢
  refine wh_y 0 rfl (by kernel_rfl) (by kernel_rfl) (by kernel_rfl) (fun _ _ _ h => h) rfl HF rfl rfl (fun _ HS => (yl_fieldAddr (j := 0) rfl (HF.ev rfl) (by kernel_rfl))) HS.out ?_; clear HF a; intro a HF
  refine wh_y 1 rfl (by kernel_rfl) (by kernel_rfl) (by kernel_rfl) (fun _ _ _ h => h) rfl HF rfl rfl (fun _ HS => (yl_load (v := .int .i64 x.fTxg) rfl (HF.ev rfl) (((HS.box 0 rfl).cell 0).trans rfl) (by kernel_rfl))) HS.out ?_; clear HF a; intro a HF
  refine wh_y 3 rfl (by kernel_rfl) (by kernel_rfl) (by kernel_rfl) (fun _ _ _ h => h) rfl HF rfl rfl (fun _ HS => (yl_fieldAddr (j := 1) rfl (HF.ev rfl) (by kernel_rfl))) HS.out ?_; clear HF a; intro a HF
  refine wh_y 4 rfl (by kernel_rfl) (by kernel_rfl) (by kernel_rfl) (fun _ _ _ h => h) rfl HF rfl rfl (fun _ HS => (yl_load (v := .int .i64 x.fSeq) rfl (HF.ev rfl) (((HS.box 0 rfl).cell 1).trans rfl) (by kernel_rfl))) HS.out ?_; clear HF a; intro a HF
  refine wh_y 6 rfl (by kernel_rfl) (by kernel_rfl) (by kernel_rfl) (fun _ _ _ h => h) rfl HF rfl rfl (fun _ HS => (yl_fieldAddr (j := 2) rfl (HF.ev rfl) (by kernel_rfl))) HS.out ?_; clear HF a; intro a HF
  refine wh_y 7 rfl (by kernel_rfl) (by kernel_rfl) (by kernel_rfl) (fun _ _ _ h => h) rfl HF rfl rfl (fun _ HS => (yl_load (v := .string x.fHead) rfl (HF.ev rfl) (((HS.box 0 rfl).cell 2).trans rfl) (by kernel_rfl))) HS.out ?_; clear HF a; intro a HF
  refine wh_y 8 rfl (by kernel_rfl) (by kernel_rfl) (by kernel_rfl) (fun _ _ _ h => h) rfl HF rfl rfl (fun _ HS => (yl_fieldAddr (j := 3) rfl (HF.ev rfl) (by kernel_rfl))) HS.out ?_; clear HF a; intro a HF
  refine wh_y 9 rfl (by kernel_rfl) (by kernel_rfl) (by kernel_rfl) (fun _ _ _ h => h) rfl HF rfl rfl (fun _ HS => (yl_loadR (cs := [.int .i64 x.fOp.fKind, .string x.fOp.fPath, .string x.fOp.fTo, .int .i64 x.fOp.fAt, .string x.fOp.fText]) rfl (HF.ev rfl) ((HS.box 0 rfl).sub 3 5) (by kernel_rfl))) HS.out ?_; clear HF a; intro a HF
  refine wh_one 2 (by kernel_rfl) ?_
  refine wo_callB rfl rfl HF rfl (enter_of Tryz.func65 (by kernel_rfl) rfl) (args := #[.int .i64 x.fTxg]) rfl (v := .string (decB x.fTxg.toNat)) (l6DecI_any x.fTxg (by omega) (by omega) _) rfl rfl ?_
  intro w4 hb; replace HS := Bx.mk (HS.out.later hb); replace HS2 := Bx.mk (HS2.out.later hb); clear hb HF; clear a; intro a HF; refine ⟨HS.out, ?_⟩
  refine wh_one 5 (by kernel_rfl) ?_
  refine wo_callB rfl rfl HF rfl (enter_of Tryz.func65 (by kernel_rfl) rfl) (args := #[.int .i64 x.fSeq]) rfl (v := .string (decB x.fSeq.toNat)) (l6DecI_any x.fSeq (by omega) (by omega) _) rfl rfl ?_
  intro w5 hb; replace HS := Bx.mk (HS.out.later hb); replace HS2 := Bx.mk (HS2.out.later hb); clear hb HF; clear a; intro a HF; refine ⟨HS.out, ?_⟩
  refine wh_one 10 (by kernel_rfl) ?_
  refine wo_callB rfl rfl HF rfl (enter_of Tryz.func133 (by kernel_rfl) rfl) (args := #[.agg #[.int .i64 x.fOp.fKind, .string x.fOp.fPath, .string x.fOp.fTo, .int .i64 x.fOp.fAt, .string x.fOp.fText]]) rfl (v := .string (opB x.fOp)) (specOpPut_any x.fOp _ hfx.o) rfl rfl ?_
  intro w6 hb; replace HS := Bx.mk (HS.out.later hb); replace HS2 := Bx.mk (HS2.out.later hb); clear hb HF; clear a; intro a HF; refine ⟨HS.out, ?_⟩
  refine wh_one 11 (by kernel_rfl) ?_
  refine wo_buildS (enc := encS) (e := 9) (size := 1) rfl rfl HF rfl rfl rfl (ps := [(0, .string (⟨#[108, 111, 103]⟩ : ByteArray)), (1, .string (decB x.fTxg.toNat)), (2, .string (decB x.fSeq.toNat)), (3, .string x.fHead), (4, .string (opB x.fOp))]) rfl (cells := [.string (⟨#[108, 111, 103]⟩ : ByteArray), .string (decB x.fTxg.toNat), .string (decB x.fSeq.toNat), .string x.fHead, .string (opB x.fOp)]) (by kernel_rfl) [(⟨#[108, 111, 103]⟩ : ByteArray), decB x.fTxg.toNat, decB x.fSeq.toNat, x.fHead, opB x.fOp] rfl rfl (by unfold maxLen; omega) rfl HS2.out HS.out ?_; clear HF HS HS2 a; intro b2 a w8 HF HS2 HS; replace HS := Bx.mk HS; replace HS2 := Bx.mk HS2; refine ⟨HS.out, ?_⟩
  refine wh_y 12 rfl (by kernel_rfl) (by kernel_rfl) (by kernel_rfl) (fun _ _ _ h => h) rfl HF rfl rfl (fun _ HS => (yl_assign rfl (HF.ev rfl))) HS.out ?_; clear HF a; intro a HF
  refine wh_done (by kernel_rfl) ?_
  replace HS := HS2; clear HS2
  refine ex_then ?_
  refine wp_sr ?_
  refine wl_mv HF rfl rfl rfl rfl rfl ?_; clear HF a; intro a HF
  refine wl_callB rfl HF rfl (enter_of Tryz.func67 (by kernel_rfl) rfl) (args := #[.slice (some ⟨b2, 0, none⟩) 5 5]) rfl (v := .tuple #[.string ((fieldsPut ([(⟨#[108, 111, 103]⟩ : ByteArray), decB x.fTxg.toNat, decB x.fSeq.toNat, x.fHead, opB x.fOp])).1), .bool ((fieldsPut ([(⟨#[108, 111, 103]⟩ : ByteArray), decB x.fTxg.toNat, decB x.fSeq.toNat, x.fHead, opB x.fOp])).2)]) (fieldsPutS_any _ _ _ ([(⟨#[108, 111, 103]⟩ : ByteArray), decB x.fTxg.toNat, decB x.fSeq.toNat, x.fHead, opB x.fOp]) _ (by (try simp only [List.length_append, List.length_cons, List.length_nil, List.nil_append, List.length_map]); omega) (szs_cons (by decide) (szs_cons (by omega) (szs_cons (by omega) (szs_cons (Nat.le_trans hfx.h (by decide)) (szs_cons (Nat.le_trans (opB_le _) (by decide)) szs_nil))))) (St.rdN HS.out encS_len 0 rfl)) rfl rfl HS.out ?_; clear HF HS a; intro w9 a HS HF; replace HS := Bx.mk HS
  refine wl_mv HF rfl rfl rfl rfl rfl ?_; clear HF a; intro a HF
  refine wl_y rfl HF rfl rfl (yl_extract rfl (HF.ev rfl) rfl) ?_; clear HF a; intro a HF
  refine wl_y rfl HF rfl rfl (yl_extract rfl (HF.ev rfl) rfl) ?_; clear HF a; intro a HF
  refine wl_as HF rfl rfl rfl rfl rfl ?_; clear HF a; intro a HF
  refine wl_as HF rfl rfl rfl rfl rfl ?_; clear HF a; intro a HF
  refine wl_ne ?_
  refine wp_seq ?_
  have hfz := fieldsPut_le ([(⟨#[108, 111, 103]⟩ : ByteArray), decB x.fTxg.toNat, decB x.fSeq.toNat, x.fHead, opB x.fOp]); have hsm := sumOf_le (fieldsPut ([(⟨#[108, 111, 103]⟩ : ByteArray), decB x.fTxg.toNat, decB x.fSeq.toNat, x.fHead, opB x.fOp])).1; have hsl : (decB (sumOf (fieldsPut ([(⟨#[108, 111, 103]⟩ : ByteArray), decB x.fTxg.toNat, decB x.fSeq.toNat, x.fHead, opB x.fOp])).1).toNat).size ≤ 19 := decB_20 (by omega)
  refine wp_region_lit ?_
  refine wl_mv HF rfl rfl rfl rfl rfl ?_; clear HF a; intro a HF
  refine wl_mv HF rfl rfl rfl rfl rfl ?_; clear HF a; intro a HF
  refine wl_callB rfl HF rfl (enter_of Tryz.func68 (by kernel_rfl) rfl) (args := #[.string ((fieldsPut ([(⟨#[108, 111, 103]⟩ : ByteArray), decB x.fTxg.toNat, decB x.fSeq.toNat, x.fHead, opB x.fOp])).1)]) rfl (v := .int .i64 (sumOf ((fieldsPut ([(⟨#[108, 111, 103]⟩ : ByteArray), decB x.fTxg.toNat, decB x.fSeq.toNat, x.fHead, opB x.fOp])).1))) (sumOfS_any ((fieldsPut ([(⟨#[108, 111, 103]⟩ : ByteArray), decB x.fTxg.toNat, decB x.fSeq.toNat, x.fHead, opB x.fOp])).1) _ (by omega)) rfl rfl HS.out ?_; clear HF HS a; intro w10 a HS HF; replace HS := Bx.mk HS
  refine wl_callB rfl HF rfl (enter_of Tryz.func65 (by kernel_rfl) rfl) (args := #[.int .i64 (sumOf ((fieldsPut ([(⟨#[108, 111, 103]⟩ : ByteArray), decB x.fTxg.toNat, decB x.fSeq.toNat, x.fHead, opB x.fOp])).1))]) rfl (v := .string (decB (sumOf ((fieldsPut ([(⟨#[108, 111, 103]⟩ : ByteArray), decB x.fTxg.toNat, decB x.fSeq.toNat, x.fHead, opB x.fOp])).1)).toNat)) (l6DecI_any (sumOf ((fieldsPut ([(⟨#[108, 111, 103]⟩ : ByteArray), decB x.fTxg.toNat, decB x.fSeq.toNat, x.fHead, opB x.fOp])).1)) (by omega) (by omega) _) rfl rfl HS.out ?_; clear HF HS a; intro w11 a HS HF; replace HS := Bx.mk HS
  refine wl_buildS (enc := encS) (e := 9) (size := 1) rfl HF rfl rfl rfl (ps := [(0, .string (decB (sumOf ((fieldsPut ([(⟨#[108, 111, 103]⟩ : ByteArray), decB x.fTxg.toNat, decB x.fSeq.toNat, x.fHead, opB x.fOp])).1)).toNat))]) rfl (cells := [.string (decB (sumOf ((fieldsPut ([(⟨#[108, 111, 103]⟩ : ByteArray), decB x.fTxg.toNat, decB x.fSeq.toNat, x.fHead, opB x.fOp])).1)).toNat)]) (by kernel_rfl) [decB (sumOf ((fieldsPut ([(⟨#[108, 111, 103]⟩ : ByteArray), decB x.fTxg.toNat, decB x.fSeq.toNat, x.fHead, opB x.fOp])).1)).toNat] rfl rfl (by unfold maxLen; omega) rfl HS.out ?_; clear HF HS a; intro b3 a w12 HF HS; replace HS := Bx.mk HS
  refine wl_appL rfl HF rfl rfl rfl (HF.ev rfl) (HF.ev rfl) elemS encS_len HS.out 1 (xs := [(⟨#[108, 111, 103]⟩ : ByteArray), decB x.fTxg.toNat, decB x.fSeq.toNat, x.fHead, opB x.fOp]) rfl (ys := [decB (sumOf ((fieldsPut ([(⟨#[108, 111, 103]⟩ : ByteArray), decB x.fTxg.toNat, decB x.fSeq.toNat, x.fHead, opB x.fOp])).1)).toNat]) (St.rdN HS.out encS_len 0 rfl) (cells_one_S _) (by unfold maxLen; (try simp only [List.length_append, List.length_cons, List.length_nil, List.nil_append, List.length_map]); omega) (by (try simp only [List.length_append, List.length_cons, List.length_nil, List.nil_append, List.length_map]); omega) ?_; clear HF HS a; intro ao4 cp5 w13 a HF HS; replace HS := Bx.mk HS
  replace HS : Bx (St w0 ([rowA encS 1 9 (.slice (some ⟨b3, 0, none⟩) 1 1) ([decB (sumOf ((fieldsPut ([(⟨#[108, 111, 103]⟩ : ByteArray), decB x.fTxg.toNat, decB x.fSeq.toNat, x.fHead, opB x.fOp])).1)).toNat]), rowA encS 1 9 (.slice ao4 (([(⟨#[108, 111, 103]⟩ : ByteArray), decB x.fTxg.toNat, decB x.fSeq.toNat, x.fHead, opB x.fOp]).length + ([decB (sumOf ((fieldsPut ([(⟨#[108, 111, 103]⟩ : ByteArray), decB x.fTxg.toNat, decB x.fSeq.toNat, x.fHead, opB x.fOp])).1)).toNat]).length) cp5) (([(⟨#[108, 111, 103]⟩ : ByteArray), decB x.fTxg.toNat, decB x.fSeq.toNat, x.fHead, opB x.fOp]) ++ ([decB (sumOf ((fieldsPut ([(⟨#[108, 111, 103]⟩ : ByteArray), decB x.fTxg.toNat, decB x.fSeq.toNat, x.fHead, opB x.fOp])).1)).toNat])), boxA b1 8 55 (.agg #[.int .i64 x.fTxg, .int .i64 x.fSeq, .string x.fHead, .int .i64 x.fOp.fKind, .string x.fOp.fPath, .string x.fOp.fTo, .int .i64 x.fOp.fAt, .string x.fOp.fText])]) _) := ⟨HS.out⟩
  refine wl_callB rfl HF rfl (enter_of Tryz.func67 (by kernel_rfl) rfl) (args := #[.slice ao4 (([(⟨#[108, 111, 103]⟩ : ByteArray), decB x.fTxg.toNat, decB x.fSeq.toNat, x.fHead, opB x.fOp]).length + ([decB (sumOf ((fieldsPut ([(⟨#[108, 111, 103]⟩ : ByteArray), decB x.fTxg.toNat, decB x.fSeq.toNat, x.fHead, opB x.fOp])).1)).toNat]).length) cp5]) rfl (v := .tuple #[.string ((fieldsPut (([(⟨#[108, 111, 103]⟩ : ByteArray), decB x.fTxg.toNat, decB x.fSeq.toNat, x.fHead, opB x.fOp]) ++ ([decB (sumOf ((fieldsPut ([(⟨#[108, 111, 103]⟩ : ByteArray), decB x.fTxg.toNat, decB x.fSeq.toNat, x.fHead, opB x.fOp])).1)).toNat]))).1), .bool ((fieldsPut (([(⟨#[108, 111, 103]⟩ : ByteArray), decB x.fTxg.toNat, decB x.fSeq.toNat, x.fHead, opB x.fOp]) ++ ([decB (sumOf ((fieldsPut ([(⟨#[108, 111, 103]⟩ : ByteArray), decB x.fTxg.toNat, decB x.fSeq.toNat, x.fHead, opB x.fOp])).1)).toNat]))).2)]) (fieldsPutS_any _ _ _ (([(⟨#[108, 111, 103]⟩ : ByteArray), decB x.fTxg.toNat, decB x.fSeq.toNat, x.fHead, opB x.fOp]) ++ ([decB (sumOf ((fieldsPut ([(⟨#[108, 111, 103]⟩ : ByteArray), decB x.fTxg.toNat, decB x.fSeq.toNat, x.fHead, opB x.fOp])).1)).toNat])) _ (by (try simp only [List.length_append, List.length_cons, List.length_nil, List.nil_append, List.length_map]); omega) (szs_app (szs_cons (by decide) (szs_cons (by omega) (szs_cons (by omega) (szs_cons (Nat.le_trans hfx.h (by decide)) (szs_cons (Nat.le_trans (opB_le _) (by decide)) szs_nil))))) (szs_cons (by omega) szs_nil)) (St.rdN HS.out encS_len 1 rfl)) rfl rfl HS.out ?_; clear HF HS a; intro w14 a HS HF; replace HS := Bx.mk HS
  refine wl_mv HF rfl rfl rfl rfl rfl ?_; clear HF a; intro a HF
  refine wl_y rfl HF rfl rfl (yl_extract rfl (HF.ev rfl) rfl) ?_; clear HF a; intro a HF
  refine wl_y rfl HF rfl rfl (yl_extract rfl (HF.ev rfl) rfl) ?_; clear HF a; intro a HF
  refine wl_as HF rfl rfl rfl rfl rfl ?_; clear HF a; intro a HF
  refine wl_as HF rfl rfl rfl rfl rfl ?_; clear HF a; intro a HF
  refine wl_ne ?_
  refine wp_sr ?_
  refine wl_mv HF rfl rfl rfl rfl rfl ?_; clear HF a; intro a HF
  refine wl_as HF rfl rfl rfl rfl rfl ?_; clear HF a; intro a HF
  refine wl_ne ?_
  refine wp_ret ?_
  refine bp_ret1 HF Tryz.results89 (HF.res rfl) ?_
  exact ⟨by rw [intentB_yes hok, ← hk1, ← hk2]; rfl, HS.out.bel⟩

theorem l23Write_any (w0 w : World) (ga ca : Nat) (qs : List HD) (F : List Asr) (x : IntentD) (hfx : x.fits) (hxk : x.ok = true) (hok : okR (dsOf qs) = true) (hql : qs.length = 3) (hS : St w0 (rowA HD.cells 3 94 (.slice (some ⟨ga, 0, none⟩) qs.length ca) qs :: sepA (qs.map HD.asr) :: F) w) : Calls Tryz.prog 44 #[.agg #[.slice (some ⟨ga, 0, none⟩) qs.length ca], .agg #[.int .i64 x.fTxg, .int .i64 x.fSeq, .string x.fHead, .int .i64 x.fOp.fKind, .string x.fOp.fPath, .string x.fOp.fTo, .int .i64 x.fOp.fAt, .string x.fOp.fText]] w fun e w' => (sameF (dsOf qs) ((4 : Int) + x.fSeq - (1 : Int)) (intentB x) = none ∧ e = .returned (.tuple #[.agg #[.slice none 0 0], .bool false]) ∧ St w0 F w') ∨ (∃ zs, sameF (dsOf qs) ((4 : Int) + x.fSeq - (1 : Int)) (intentB x) = some (dsOf zs) ∧ zs.length = qs.length ∧ e = .returned (.tuple #[.agg #[.slice (some ⟨ga, 0, none⟩) qs.length ca], .bool true]) ∧ St w0 (rowA HD.cells 3 94 (.slice (some ⟨ga, 0, none⟩) qs.length ca) zs :: sepA (zs.map HD.asr) :: F) w') := by
 have hb := IntentD.ok_parts hxk
 have HS := Bx.mk hS; clear hS
 refine wc_enter Tryz.func44 rfl Tryz.ntmps44 [(0, .agg #[.slice (some ⟨ga, 0, none⟩) qs.length ca]), (1, .agg #[.int .i64 x.fTxg, .int .i64 x.fSeq, .string x.fHead, .int .i64 x.fOp.fKind, .string x.fOp.fPath, .string x.fOp.fTo, .int .i64 x.fOp.fAt, .string x.fOp.fText])] ⟨rfl, rfl, trivial⟩ rfl ?_; intro a HF
 refine wp_sr ?_
 refine wl_box rfl HF rfl (HF.ev rfl) (Z := [.slice (some ⟨ga, 0, none⟩) qs.length ca]) rfl rfl rfl rfl HS.out ?_; clear HF HS a; intro a w1 b1 HF HS; replace HS := Bx.mk HS
 refine wl_box rfl HF rfl (HF.ev rfl) (Z := [.int .i64 x.fTxg, .int .i64 x.fSeq, .string x.fHead, .int .i64 x.fOp.fKind, .string x.fOp.fPath, .string x.fOp.fTo, .int .i64 x.fOp.fAt, .string x.fOp.fText]) rfl rfl rfl rfl HS.out ?_; clear HF HS a; intro a w2 b2 HF HS; replace HS := Bx.mk HS
 refine wl_alloc rfl HF rfl rfl rfl (Z := [.slice none 0 0]) (by kernel_rfl) rfl HS.out ?_; clear HF HS a; intro a w3 b3 HF HS; replace HS := Bx.mk HS
 refine wl_as HF rfl rfl rfl rfl rfl ?_; clear HF a; intro a HF
 refine wl_ne ?_
 refine wp_seq ?_
 refine wr_heldS (s := boxA b2 8 55 (.agg #[.int .i64 x.fTxg, .int .i64 x.fSeq, .string x.fHead, .int .i64 x.fOp.fKind, .string x.fOp.fPath, .string x.fOp.fTo, .int .i64 x.fOp.fAt, .string x.fOp.fText]) :: boxA b1 1 34 (.agg #[.slice (some ⟨ga, 0, none⟩) qs.length ca]) :: F) (by kernel_rfl) (St.drew ((((HS.out.erase 4).erase 3).erase 0))) ?_
 have HS2 := Bx.mk HS.out.drew; replace HS := Bx.mk (show St w0 (boxA b2 8 55 (.agg #[.int .i64 x.fTxg, .int .i64 x.fSeq, .string x.fHead, .int .i64 x.fOp.fKind, .string x.fOp.fPath, .string x.fOp.fTo, .int .i64 x.fOp.fAt, .string x.fOp.fText]) :: boxA b1 1 34 (.agg #[.slice (some ⟨ga, 0, none⟩) qs.length ca]) :: F) _ from (((HS.out.drew.erase 4).erase 3).erase 0))
 generalize World.drew _ = w4 at HS HS2 ⊢
 refine wh_y 0 rfl (by kernel_rfl) (by kernel_rfl) (by kernel_rfl) (fun _ _ _ h => h) rfl HF rfl rfl (fun _ HS => (yl_loadR (cs := [.slice (some ⟨ga, 0, none⟩) qs.length ca]) rfl (HF.ev rfl) ((HS.box 1 rfl).sub 0 1) (by kernel_rfl))) HS.out ?_; clear HF a; intro a HF
 refine wh_y 1 rfl (by kernel_rfl) (by kernel_rfl) (by kernel_rfl) (fun _ _ _ h => h) rfl HF rfl rfl (fun _ HS => (yl_fieldAddr (j := 1) rfl (HF.ev rfl) (by kernel_rfl))) HS.out ?_; clear HF a; intro a HF
 refine wh_y 2 rfl (by kernel_rfl) (by kernel_rfl) (by kernel_rfl) (fun _ _ _ h => h) rfl HF rfl rfl (fun _ HS => (yl_load (v := .int .i64 x.fSeq) rfl (HF.ev rfl) (((HS.box 0 rfl).cell 1).trans rfl) (by kernel_rfl))) HS.out ?_; clear HF a; intro a HF
 refine wh_y 3 rfl (by kernel_rfl) (by kernel_rfl) (by kernel_rfl) (fun _ _ _ h => h) rfl HF rfl rfl (fun _ HS => (yl_addI rfl (HF.ev rfl) (HF.ev rfl) (i64w (by omega)))) HS.out ?_; clear HF a; intro a HF
 refine wh_y 4 rfl (by kernel_rfl) (by kernel_rfl) (by kernel_rfl) (fun _ _ _ h => h) rfl HF rfl rfl (fun _ HS => (yl_subI rfl (HF.ev rfl) (HF.ev rfl) (i64w (by omega)))) HS.out ?_; clear HF a; intro a HF
 refine wh_y 5 rfl (by kernel_rfl) (by kernel_rfl) (by kernel_rfl) (fun _ _ _ h => h) rfl HF rfl rfl (fun _ HS => (yl_loadR (cs := [.int .i64 x.fTxg, .int .i64 x.fSeq, .string x.fHead, .int .i64 x.fOp.fKind, .string x.fOp.fPath, .string x.fOp.fTo, .int .i64 x.fOp.fAt, .string x.fOp.fText]) rfl (HF.ev rfl) ((HS.box 0 rfl).sub 0 8) (by kernel_rfl))) HS.out ?_; clear HF a; intro a HF
 refine wh_one 6 (by kernel_rfl) ?_
 refine wo_callB rfl rfl HF rfl (enter_of Tryz.func89 (by kernel_rfl) rfl) (args := #[.agg #[.int .i64 x.fTxg, .int .i64 x.fSeq, .string x.fHead, .int .i64 x.fOp.fKind, .string x.fOp.fPath, .string x.fOp.fTo, .int .i64 x.fOp.fAt, .string x.fOp.fText]]) rfl (v := .string (intentB x)) (specIntentPut_any x _ hfx) rfl rfl ?_
 intro w5 hb; replace HS := Bx.mk (HS.out.later hb); replace HS2 := Bx.mk (HS2.out.later hb); clear hb HF; clear a; intro a HF; refine ⟨HS.out, ?_⟩
 refine wh_one 7 (by kernel_rfl) ?_
 replace HS2 : Bx (St w0 (rowA HD.cells 3 94 (.slice (some ⟨ga, 0, none⟩) qs.length ca) qs :: sepA (qs.map HD.asr) :: boxA b3 1 34 (.agg #[.slice none 0 0]) :: boxA b2 8 55 (.agg #[.int .i64 x.fTxg, .int .i64 x.fSeq, .string x.fHead, .int .i64 x.fOp.fKind, .string x.fOp.fPath, .string x.fOp.fTo, .int .i64 x.fOp.fAt, .string x.fOp.fText]) :: boxA b1 1 34 (.agg #[.slice (some ⟨ga, 0, none⟩) qs.length ca]) :: F) _) := ⟨((HS2.out).pick 4 rfl).pick 4 rfl⟩
 refine wo_call rfl rfl HF rfl (enter_of Tryz.func30 (by kernel_rfl) rfl) (args := #[.agg #[.slice (some ⟨ga, 0, none⟩) qs.length ca], .int .i64 (((4 : Int) + x.fSeq) - 1), .string (intentB x)]) rfl (l22Same_any w0 _ ga ca qs _ ((4 : Int) + x.fSeq - (1 : Int)) (by omega) (by omega) (intentB x) (intentB_le x) hok hql HS2.out) rfl rfl ?_
 rintro _ w7 (⟨hev, rfl, hs⟩ | ⟨zs, hev, hzl, rfl, hs⟩)
 ·skip
  refine ⟨_, rfl, ?_⟩; replace HS2 := Bx.mk hs; clear hs HF; clear a; intro a HF
  replace HS2 : Bx (St w0 (boxA b3 1 34 (.agg #[.slice none 0 0]) :: boxA b2 8 55 (.agg #[.int .i64 x.fTxg, .int .i64 x.fSeq, .string x.fHead, .int .i64 x.fOp.fKind, .string x.fOp.fPath, .string x.fOp.fTo, .int .i64 x.fOp.fAt, .string x.fOp.fText]) :: boxA b1 1 34 (.agg #[.slice (some ⟨ga, 0, none⟩) qs.length ca]) :: F) _) := ⟨HS2.out⟩; clear HS; have HS : Bx (St w0 (boxA b2 8 55 (.agg #[.int .i64 x.fTxg, .int .i64 x.fSeq, .string x.fHead, .int .i64 x.fOp.fKind, .string x.fOp.fPath, .string x.fOp.fTo, .int .i64 x.fOp.fAt, .string x.fOp.fText]) :: boxA b1 1 34 (.agg #[.slice (some ⟨ga, 0, none⟩) qs.length ca]) :: F) _) := ⟨(HS2.out.erase 0)⟩; refine ⟨HS.out, ?_⟩
  refine wh_y 8 rfl (by kernel_rfl) (by kernel_rfl) (by kernel_rfl) (fun _ _ _ h => h) rfl HF rfl rfl (fun _ HS => (yl_extract rfl (HF.ev rfl) rfl)) HS.out ?_; clear HF a; intro a HF
  refine wh_y 9 rfl (by kernel_rfl) (by kernel_rfl) (by kernel_rfl) (fun _ _ _ h => h) rfl HF rfl rfl (fun _ HS => (yl_extract rfl (HF.ev rfl) rfl)) HS.out ?_; clear HF a; intro a HF
  refine wh_one 10 (by kernel_rfl) ?_
  refine wo_storeBox rfl rfl rfl rfl (HF.ev rfl) (HF.ev rfl) HS2.out 0 rfl (cells_lit [.slice none 0 0] rfl rfl) (by kernel_rfl) ?_
  clear HS HS2; intro w8 HS2; replace HS2 : Bx (St w0 (boxA b3 1 34 (.agg #[.slice none 0 0]) :: boxA b2 8 55 (.agg #[.int .i64 x.fTxg, .int .i64 x.fSeq, .string x.fHead, .int .i64 x.fOp.fKind, .string x.fOp.fPath, .string x.fOp.fTo, .int .i64 x.fOp.fAt, .string x.fOp.fText]) :: boxA b1 1 34 (.agg #[.slice (some ⟨ga, 0, none⟩) qs.length ca]) :: F) _) := ⟨HS2⟩
  have HS : Bx (St w0 (boxA b2 8 55 (.agg #[.int .i64 x.fTxg, .int .i64 x.fSeq, .string x.fHead, .int .i64 x.fOp.fKind, .string x.fOp.fPath, .string x.fOp.fTo, .int .i64 x.fOp.fAt, .string x.fOp.fText]) :: boxA b1 1 34 (.agg #[.slice (some ⟨ga, 0, none⟩) qs.length ca]) :: F) _) := ⟨(HS2.out.erase 0)⟩; refine ⟨HS.out, ?_⟩
  refine wh_y 11 rfl (by kernel_rfl) (by kernel_rfl) (by kernel_rfl) (fun _ _ _ h => h) rfl HF rfl rfl (fun _ HS => (yl_assign rfl (HF.ev rfl))) HS.out ?_; clear HF a; intro a HF
  refine wh_done (by kernel_rfl) ?_
  replace HS := HS2; clear HS2
  refine ex_then ?_
  refine wp_ret ?_
  refine bp_ret2 HF Tryz.results44 (HF.resBox rfl (HS.out.box 0 rfl) (by kernel_rfl)) (HF.res rfl) ?_
  exact .inl ⟨hev, rfl, (((HS.out.erase 2).erase 1).erase 0)⟩
 ·skip
  refine ⟨_, rfl, ?_⟩; replace HS2 := Bx.mk hs; clear hs HF; clear a; intro a HF
  replace HS2 : Bx (St w0 (rowA HD.cells 3 94 (.slice (some ⟨ga, 0, none⟩) qs.length ca) zs :: sepA (zs.map HD.asr) :: boxA b3 1 34 (.agg #[.slice none 0 0]) :: boxA b2 8 55 (.agg #[.int .i64 x.fTxg, .int .i64 x.fSeq, .string x.fHead, .int .i64 x.fOp.fKind, .string x.fOp.fPath, .string x.fOp.fTo, .int .i64 x.fOp.fAt, .string x.fOp.fText]) :: boxA b1 1 34 (.agg #[.slice (some ⟨ga, 0, none⟩) qs.length ca]) :: F) _) := ⟨HS2.out⟩; clear HS; have HS : Bx (St w0 (boxA b2 8 55 (.agg #[.int .i64 x.fTxg, .int .i64 x.fSeq, .string x.fHead, .int .i64 x.fOp.fKind, .string x.fOp.fPath, .string x.fOp.fTo, .int .i64 x.fOp.fAt, .string x.fOp.fText]) :: boxA b1 1 34 (.agg #[.slice (some ⟨ga, 0, none⟩) qs.length ca]) :: F) _) := ⟨(((HS2.out.erase 2).erase 1).erase 0)⟩; refine ⟨HS.out, ?_⟩
  refine wh_y 8 rfl (by kernel_rfl) (by kernel_rfl) (by kernel_rfl) (fun _ _ _ h => h) rfl HF rfl rfl (fun _ HS => (yl_extract rfl (HF.ev rfl) rfl)) HS.out ?_; clear HF a; intro a HF
  refine wh_y 9 rfl (by kernel_rfl) (by kernel_rfl) (by kernel_rfl) (fun _ _ _ h => h) rfl HF rfl rfl (fun _ HS => (yl_extract rfl (HF.ev rfl) rfl)) HS.out ?_; clear HF a; intro a HF
  refine wh_one 10 (by kernel_rfl) ?_
  refine wo_storeBox rfl rfl rfl rfl (HF.ev rfl) (HF.ev rfl) HS2.out 2 rfl (cells_lit [.slice (some ⟨ga, 0, none⟩) qs.length ca] rfl rfl) (by kernel_rfl) ?_
  clear HS HS2; intro w9 HS2; replace HS2 : Bx (St w0 (rowA HD.cells 3 94 (.slice (some ⟨ga, 0, none⟩) qs.length ca) zs :: sepA (zs.map HD.asr) :: boxA b3 1 34 (.agg #[.slice (some ⟨ga, 0, none⟩) qs.length ca]) :: boxA b2 8 55 (.agg #[.int .i64 x.fTxg, .int .i64 x.fSeq, .string x.fHead, .int .i64 x.fOp.fKind, .string x.fOp.fPath, .string x.fOp.fTo, .int .i64 x.fOp.fAt, .string x.fOp.fText]) :: boxA b1 1 34 (.agg #[.slice (some ⟨ga, 0, none⟩) qs.length ca]) :: F) _) := ⟨HS2⟩
  have HS : Bx (St w0 (boxA b2 8 55 (.agg #[.int .i64 x.fTxg, .int .i64 x.fSeq, .string x.fHead, .int .i64 x.fOp.fKind, .string x.fOp.fPath, .string x.fOp.fTo, .int .i64 x.fOp.fAt, .string x.fOp.fText]) :: boxA b1 1 34 (.agg #[.slice (some ⟨ga, 0, none⟩) qs.length ca]) :: F) _) := ⟨(((HS2.out.erase 2).erase 1).erase 0)⟩; refine ⟨HS.out, ?_⟩
  refine wh_y 11 rfl (by kernel_rfl) (by kernel_rfl) (by kernel_rfl) (fun _ _ _ h => h) rfl HF rfl rfl (fun _ HS => (yl_assign rfl (HF.ev rfl))) HS.out ?_; clear HF a; intro a HF
  refine wh_done (by kernel_rfl) ?_
  replace HS := HS2; clear HS2
  refine ex_then ?_
  refine wp_ret ?_
  refine bp_ret2 HF Tryz.results44 (HF.resBox rfl (HS.out.box 2 rfl) (by kernel_rfl)) (HF.res rfl) ?_
  replace HS : Bx (St w0 (rowA HD.cells 3 94 (.slice (some ⟨ga, 0, none⟩) qs.length ca) zs :: sepA (zs.map HD.asr) :: boxA b3 1 34 (.agg #[.slice (some ⟨ga, 0, none⟩) qs.length ca]) :: boxA b2 8 55 (.agg #[.int .i64 x.fTxg, .int .i64 x.fSeq, .string x.fHead, .int .i64 x.fOp.fKind, .string x.fOp.fPath, .string x.fOp.fTo, .int .i64 x.fOp.fAt, .string x.fOp.fText]) :: boxA b1 1 34 (.agg #[.slice (some ⟨ga, 0, none⟩) qs.length ca]) :: F) _) := ⟨((HS.out).pick 1 rfl).pick 1 rfl⟩
  exact .inr ⟨zs, hev, hzl, rfl, (((HS.out.erase 4).erase 3).erase 2)⟩

theorem implIntentWrite_any (a0 : Option Addr) (c0 : Nat) (ps : List HD) (w0 : World) (hl : ps.length ≤ 1048576) (hf : fitsL ps) (hp : rdsP a0 ps w0) (hT : TabP w0) (hM : MaxP w0) (x : IntentD) (hfx : x.fits) : Calls Tryz.prog 18 #[.agg #[.slice a0 ps.length c0], .agg #[.int .i64 x.fTxg, .int .i64 x.fSeq, .string x.fHead, .int .i64 x.fOp.fKind, .string x.fOp.fPath, .string x.fOp.fTo, .int .i64 x.fOp.fAt, .string x.fOp.fText]] w0 fun e w' => (intF (dsOf ps) x = none ∧ e = .returned (.tuple #[.agg #[.slice none 0 0], .bool false]) ∧ St w0 [] w') ∨ (∃ ao cp qs, intF (dsOf ps) x = some (dsOf qs) ∧ e = .returned (.tuple #[.agg #[.slice ao qs.length cp], .bool true]) ∧ St w0 [rowA HD.cells 3 94 (.slice ao qs.length cp) qs, sepA (qs.map HD.asr)] w') := by
 have HT := Bx.mk hT; clear hT
 have HM := Bx.mk hM; clear hM
 have HS := Bx.mk (St.start w0)
 refine wc_enter Tryz.func18 rfl Tryz.ntmps18 [(0, .agg #[.slice a0 ps.length c0]), (1, .agg #[.int .i64 x.fTxg, .int .i64 x.fSeq, .string x.fHead, .int .i64 x.fOp.fKind, .string x.fOp.fPath, .string x.fOp.fTo, .int .i64 x.fOp.fAt, .string x.fOp.fText])] ⟨rfl, rfl, trivial⟩ rfl ?_; intro a HF
 refine wp_sr ?_
 refine wl_box rfl HF rfl (HF.ev rfl) (Z := [.slice a0 ps.length c0]) rfl rfl rfl rfl HS.out ?_; clear HF HS a; intro a w1 b1 HF HS; replace HS := Bx.mk HS
 refine wl_box rfl HF rfl (HF.ev rfl) (Z := [.int .i64 x.fTxg, .int .i64 x.fSeq, .string x.fHead, .int .i64 x.fOp.fKind, .string x.fOp.fPath, .string x.fOp.fTo, .int .i64 x.fOp.fAt, .string x.fOp.fText]) rfl rfl rfl rfl HS.out ?_; clear HF HS a; intro a w2 b2 HF HS; replace HS := Bx.mk HS
 refine wl_alloc rfl HF rfl rfl rfl (Z := [.slice none 0 0]) (by kernel_rfl) rfl HS.out ?_; clear HF HS a; intro a w3 b3 HF HS; replace HS := Bx.mk HS
 refine wl_as HF rfl rfl rfl rfl rfl ?_; clear HF a; intro a HF
 refine wl_ne ?_
 refine wp_seq ?_
 refine wp_sr ?_
 refine wl_y rfl HF rfl rfl (yl_loadR (cs := [.slice a0 ps.length c0]) rfl (HF.ev rfl) ((HS.out.box 2 rfl).sub 0 1) (by kernel_rfl)) ?_; clear HF a; intro a HF
 refine wl_callB rfl HF rfl (enter_of Tryz.func35 (by kernel_rfl) rfl) (args := #[.agg #[.slice a0 ps.length c0]]) rfl (v := .bool (okR (dsOf ps))) (implRaidOk_any a0 c0 ps _ hl hf.at (hp.1.below HS.out.bel) (fun k hk => (hp.at k hk).below HS.out.bel)) rfl rfl HS.out ?_; clear HF HS a; intro w4 a HS HF; replace HS := Bx.mk HS
 refine wl_y rfl HF rfl rfl (yl_not rfl (HF.ev rfl)) ?_; clear HF a; intro a HF
 refine wl_mv HF rfl rfl rfl rfl rfl ?_; clear HF a; intro a HF
 refine HF.cases 9 rfl (fun cc1 HF1 => ?_) (fun cc1 HF1 => ?_)
 ·clear HF; have HF := HF1; clear HF1
  have hok : okR (dsOf ps) = false := by simpa using cc1
  refine wl_skip HF rfl rfl rfl rfl rfl rfl ?_; clear HF a; intro a HF
  refine wl_skip HF rfl rfl rfl rfl rfl rfl ?_; clear HF a; intro a HF
  refine wl_skip HF rfl rfl rfl rfl rfl rfl ?_; clear HF a; intro a HF
  refine wl_y rfl HF rfl rfl (yl_pick_t rfl (HF.ev rfl) (HF.ev rfl)) ?_; clear HF a; intro a HF
  refine wl_ne ?_
  refine wc_true HF rfl ?_
  refine wp_sr ?_
  refine wl_y rfl HF rfl rfl (yl_build HF rfl (ps := []) rfl (cs := #[.slice none 0 0]) (by kernel_rfl)) ?_; clear HF a; intro a HF
  refine wl_storeBox rfl HF rfl rfl (HF.ev rfl) (HF.ev rfl) HS.out 0 rfl (cells_lit [.slice none 0 0] rfl rfl) (by kernel_rfl) ?_; clear HS; intro w5 HS; replace HS := Bx.mk HS
  have HS : Bx (St w0 ([boxA b3 1 34 (.agg #[.slice none 0 0]), boxA b2 8 55 (.agg #[.int .i64 x.fTxg, .int .i64 x.fSeq, .string x.fHead, .int .i64 x.fOp.fKind, .string x.fOp.fPath, .string x.fOp.fTo, .int .i64 x.fOp.fAt, .string x.fOp.fText]), boxA b1 1 34 (.agg #[.slice a0 ps.length c0])]) _) := HS
  refine wl_as HF rfl rfl rfl rfl rfl ?_; clear HF a; intro a HF
  refine wl_ne ?_
  refine wp_ret ?_
  refine ex_then_ret ?_
  refine bp_ret2 HF Tryz.results18 (HF.resBox rfl (HS.out.box 0 rfl) (by kernel_rfl)) (HF.res rfl) ?_
  exact .inl ⟨intF_no (by rw [hok] <;> simp), rfl, (((HS.out.erase 2).erase 1).erase 0)⟩
 ·clear HF; have HF := HF1; clear HF1
  have hok : okR (dsOf ps) = true := by simpa using cc1
  refine wl_yg HF rfl rfl rfl rfl rfl (yl_loadR (cs := [.int .i64 x.fTxg, .int .i64 x.fSeq, .string x.fHead, .int .i64 x.fOp.fKind, .string x.fOp.fPath, .string x.fOp.fTo, .int .i64 x.fOp.fAt, .string x.fOp.fText]) rfl (HF.ev rfl) ((HS.out.box 1 rfl).sub 0 8) (by kernel_rfl)) ?_; clear HF a; intro a HF
  refine wl_callBg HF rfl rfl rfl rfl (enter_of Tryz.func46 (by kernel_rfl) rfl) (args := #[.agg #[.int .i64 x.fTxg, .int .i64 x.fSeq, .string x.fHead, .int .i64 x.fOp.fKind, .string x.fOp.fPath, .string x.fOp.fTo, .int .i64 x.fOp.fAt, .string x.fOp.fText]]) rfl (v := .bool x.ok) (implIntentOk_any x _ (HM.out.below HS.out.bel) hfx) rfl rfl HS.out ?_; clear HF HS a; intro w6 a HS HF; replace HS := Bx.mk HS
  refine wl_yg HF rfl rfl rfl rfl rfl (yl_not rfl (HF.ev rfl)) ?_; clear HF a; intro a HF
  refine wl_y rfl HF rfl rfl (yl_pick_f rfl (HF.ev rfl) (HF.ev rfl)) ?_; clear HF a; intro a HF
  refine wl_ne ?_
  refine HF.cases 13 rfl (fun cc2 HF1 => ?_) (fun cc2 HF1 => ?_)
  ·clear HF; have HF := HF1; clear HF1
   have hxk : x.ok = false := by simpa using cc2
   refine wc_true HF rfl ?_
   refine wp_sr ?_
   refine wl_y rfl HF rfl rfl (yl_build HF rfl (ps := []) rfl (cs := #[.slice none 0 0]) (by kernel_rfl)) ?_; clear HF a; intro a HF
   refine wl_storeBox rfl HF rfl rfl (HF.ev rfl) (HF.ev rfl) HS.out 0 rfl (cells_lit [.slice none 0 0] rfl rfl) (by kernel_rfl) ?_; clear HS; intro w7 HS; replace HS := Bx.mk HS
   have HS : Bx (St w0 ([boxA b3 1 34 (.agg #[.slice none 0 0]), boxA b2 8 55 (.agg #[.int .i64 x.fTxg, .int .i64 x.fSeq, .string x.fHead, .int .i64 x.fOp.fKind, .string x.fOp.fPath, .string x.fOp.fTo, .int .i64 x.fOp.fAt, .string x.fOp.fText]), boxA b1 1 34 (.agg #[.slice a0 ps.length c0])]) _) := HS
   refine wl_as HF rfl rfl rfl rfl rfl ?_; clear HF a; intro a HF
   refine wl_ne ?_
   refine wp_ret ?_
   refine ex_then_ret ?_
   refine bp_ret2 HF Tryz.results18 (HF.resBox rfl (HS.out.box 0 rfl) (by kernel_rfl)) (HF.res rfl) ?_
   exact .inl ⟨intF_no (by rw [hok, hxk] <;> simp), rfl, (((HS.out.erase 2).erase 1).erase 0)⟩
  ·clear HF; have HF := HF1; clear HF1
   have hxk : x.ok = true := by simpa using cc2
   refine wc_false HF rfl ?_
   refine wp_skip ?_
   refine ex_then ?_
   refine wp_seq ?_
   have hb := IntentD.ok_parts hxk; have h3 := okR_three hok
   refine wr_heldS (s := [boxA b2 8 55 (.agg #[.int .i64 x.fTxg, .int .i64 x.fSeq, .string x.fHead, .int .i64 x.fOp.fKind, .string x.fOp.fPath, .string x.fOp.fTo, .int .i64 x.fOp.fAt, .string x.fOp.fText]), boxA b1 1 34 (.agg #[.slice a0 ps.length c0])]) (by kernel_rfl) (St.drew ((HS.out.erase 0))) ?_
   have HS2 := Bx.mk HS.out.drew; replace HS := Bx.mk (show St w0 ([boxA b2 8 55 (.agg #[.int .i64 x.fTxg, .int .i64 x.fSeq, .string x.fHead, .int .i64 x.fOp.fKind, .string x.fOp.fPath, .string x.fOp.fTo, .int .i64 x.fOp.fAt, .string x.fOp.fText]), boxA b1 1 34 (.agg #[.slice a0 ps.length c0])]) _ from (HS.out.drew.erase 0))
   generalize World.drew _ = w8 at HS HS2 ⊢
   refine wh_y 0 rfl (by kernel_rfl) (by kernel_rfl) (by kernel_rfl) (fun _ _ _ h => h) rfl HF rfl rfl (fun _ HS => (yl_loadR (cs := [.slice a0 ps.length c0]) rfl (HF.ev rfl) ((HS.box 1 rfl).sub 0 1) (by kernel_rfl))) HS.out ?_; clear HF a; intro a HF
   refine wh_y 1 rfl (by kernel_rfl) (by kernel_rfl) (by kernel_rfl) (fun _ _ _ h => h) rfl HF rfl rfl (fun _ HS => (yl_fieldAddr (j := 1) rfl (HF.ev rfl) (by kernel_rfl))) HS.out ?_; clear HF a; intro a HF
   refine wh_y 2 rfl (by kernel_rfl) (by kernel_rfl) (by kernel_rfl) (fun _ _ _ h => h) rfl HF rfl rfl (fun _ HS => (yl_load (v := .int .i64 x.fSeq) rfl (HF.ev rfl) (((HS.box 0 rfl).cell 1).trans rfl) (by kernel_rfl))) HS.out ?_; clear HF a; intro a HF
   refine wh_y 3 rfl (by kernel_rfl) (by kernel_rfl) (by kernel_rfl) (fun _ _ _ h => h) rfl HF rfl rfl (fun _ HS => (yl_addI rfl (HF.ev rfl) (HF.ev rfl) (i64w (by omega)))) HS.out ?_; clear HF a; intro a HF
   refine wh_y 4 rfl (by kernel_rfl) (by kernel_rfl) (by kernel_rfl) (fun _ _ _ h => h) rfl HF rfl rfl (fun _ HS => (yl_subI rfl (HF.ev rfl) (HF.ev rfl) (i64w (by omega)))) HS.out ?_; clear HF a; intro a HF
   refine wh_y 5 rfl (by kernel_rfl) (by kernel_rfl) (by kernel_rfl) (fun _ _ _ h => h) rfl HF rfl rfl (fun _ HS => (yl_loadR (cs := [.int .i64 x.fTxg, .int .i64 x.fSeq, .string x.fHead, .int .i64 x.fOp.fKind, .string x.fOp.fPath, .string x.fOp.fTo, .int .i64 x.fOp.fAt, .string x.fOp.fText]) rfl (HF.ev rfl) ((HS.box 0 rfl).sub 0 8) (by kernel_rfl))) HS.out ?_; clear HF a; intro a HF
   refine wh_one 6 (by kernel_rfl) ?_
   refine wo_callB rfl rfl HF rfl (enter_of Tryz.func47 (by kernel_rfl) rfl) (args := #[.agg #[.int .i64 x.fTxg, .int .i64 x.fSeq, .string x.fHead, .int .i64 x.fOp.fKind, .string x.fOp.fPath, .string x.fOp.fTo, .int .i64 x.fOp.fAt, .string x.fOp.fText]]) rfl (v := .string (intentB x)) (implIntentPut_any x _ (HT.out.below HS2.out.bel) (HM.out.below HS2.out.bel) hfx) rfl rfl ?_
   intro w9 hb; replace HS := Bx.mk (HS.out.later hb); replace HS2 := Bx.mk (HS2.out.later hb); clear hb HF; clear a; intro a HF; refine ⟨HS.out, ?_⟩
   refine wh_one 7 (by kernel_rfl) ?_
   refine wo_call rfl rfl HF rfl (enter_of Tryz.func37 (by kernel_rfl) rfl) (args := #[.agg #[.slice a0 ps.length c0], .int .i64 (((4 : Int) + x.fSeq) - 1), .string (intentB x)]) rfl (writeRow_any a0 c0 ps _ hl hf ⟨hp.1.below HS2.out.bel, fun p hm => (hp.2 p hm).below HS2.out.bel⟩ ((4 : Int) + x.fSeq - (1 : Int)) (by omega) (by omega) (intentB x) (intentB_le x) hok) rfl rfl ?_
   rintro _ w11 (⟨hev, rfl, hs⟩ | ⟨ao, cp, qs, hev, rfl, hs⟩)
   ·skip
    refine ⟨_, rfl, ?_⟩; replace HS := Bx.mk (HS.out.later hs.bel); replace HS2 := Bx.mk (HS2.out.add hs); clear hs HF; clear a; intro a HF
    replace HS2 : Bx (St w0 ([boxA b3 1 34 (.agg #[.slice none 0 0]), boxA b2 8 55 (.agg #[.int .i64 x.fTxg, .int .i64 x.fSeq, .string x.fHead, .int .i64 x.fOp.fKind, .string x.fOp.fPath, .string x.fOp.fTo, .int .i64 x.fOp.fAt, .string x.fOp.fText]), boxA b1 1 34 (.agg #[.slice a0 ps.length c0])]) _) := ⟨HS2.out⟩; refine ⟨HS.out, ?_⟩
    refine wh_y 8 rfl (by kernel_rfl) (by kernel_rfl) (by kernel_rfl) (fun _ _ _ h => h) rfl HF rfl rfl (fun _ HS => (yl_extract rfl (HF.ev rfl) rfl)) HS.out ?_; clear HF a; intro a HF
    refine wh_y 9 rfl (by kernel_rfl) (by kernel_rfl) (by kernel_rfl) (fun _ _ _ h => h) rfl HF rfl rfl (fun _ HS => (yl_extract rfl (HF.ev rfl) rfl)) HS.out ?_; clear HF a; intro a HF
    refine wh_one 10 (by kernel_rfl) ?_
    refine wo_storeBox rfl rfl rfl rfl (HF.ev rfl) (HF.ev rfl) HS2.out 0 rfl (cells_lit [.slice none 0 0] rfl rfl) (by kernel_rfl) ?_
    clear HS HS2; intro w12 HS2; replace HS2 : Bx (St w0 ([boxA b3 1 34 (.agg #[.slice none 0 0]), boxA b2 8 55 (.agg #[.int .i64 x.fTxg, .int .i64 x.fSeq, .string x.fHead, .int .i64 x.fOp.fKind, .string x.fOp.fPath, .string x.fOp.fTo, .int .i64 x.fOp.fAt, .string x.fOp.fText]), boxA b1 1 34 (.agg #[.slice a0 ps.length c0])]) _) := ⟨HS2⟩
    have HS : Bx (St w0 ([boxA b2 8 55 (.agg #[.int .i64 x.fTxg, .int .i64 x.fSeq, .string x.fHead, .int .i64 x.fOp.fKind, .string x.fOp.fPath, .string x.fOp.fTo, .int .i64 x.fOp.fAt, .string x.fOp.fText]), boxA b1 1 34 (.agg #[.slice a0 ps.length c0])]) _) := ⟨(HS2.out.erase 0)⟩; refine ⟨HS.out, ?_⟩
    refine wh_y 11 rfl (by kernel_rfl) (by kernel_rfl) (by kernel_rfl) (fun _ _ _ h => h) rfl HF rfl rfl (fun _ HS => (yl_assign rfl (HF.ev rfl))) HS.out ?_; clear HF a; intro a HF
    refine wh_done (by kernel_rfl) ?_
    replace HS := HS2; clear HS2
    refine ex_then ?_
    refine wp_ret ?_
    refine bp_ret2 HF Tryz.results18 (HF.resBox rfl (HS.out.box 0 rfl) (by kernel_rfl)) (HF.res rfl) ?_
    exact .inl ⟨by rw [intF_yes hok hxk]; exact hev, rfl, (((HS.out.erase 2).erase 1).erase 0)⟩
   ·skip
    refine ⟨_, rfl, ?_⟩; replace HS := Bx.mk (HS.out.later hs.bel); replace HS2 := Bx.mk (HS2.out.add hs); clear hs HF; clear a; intro a HF
    replace HS2 : Bx (St w0 ([rowA HD.cells 3 94 (.slice ao qs.length cp) qs, sepA (qs.map HD.asr), boxA b3 1 34 (.agg #[.slice none 0 0]), boxA b2 8 55 (.agg #[.int .i64 x.fTxg, .int .i64 x.fSeq, .string x.fHead, .int .i64 x.fOp.fKind, .string x.fOp.fPath, .string x.fOp.fTo, .int .i64 x.fOp.fAt, .string x.fOp.fText]), boxA b1 1 34 (.agg #[.slice a0 ps.length c0])]) _) := ⟨HS2.out⟩; refine ⟨HS.out, ?_⟩
    refine wh_y 8 rfl (by kernel_rfl) (by kernel_rfl) (by kernel_rfl) (fun _ _ _ h => h) rfl HF rfl rfl (fun _ HS => (yl_extract rfl (HF.ev rfl) rfl)) HS.out ?_; clear HF a; intro a HF
    refine wh_y 9 rfl (by kernel_rfl) (by kernel_rfl) (by kernel_rfl) (fun _ _ _ h => h) rfl HF rfl rfl (fun _ HS => (yl_extract rfl (HF.ev rfl) rfl)) HS.out ?_; clear HF a; intro a HF
    refine wh_one 10 (by kernel_rfl) ?_
    refine wo_storeBox rfl rfl rfl rfl (HF.ev rfl) (HF.ev rfl) HS2.out 2 rfl (cells_lit [.slice ao qs.length cp] rfl rfl) (by kernel_rfl) ?_
    clear HS HS2; intro w13 HS2; replace HS2 : Bx (St w0 ([rowA HD.cells 3 94 (.slice ao qs.length cp) qs, sepA (qs.map HD.asr), boxA b3 1 34 (.agg #[.slice ao qs.length cp]), boxA b2 8 55 (.agg #[.int .i64 x.fTxg, .int .i64 x.fSeq, .string x.fHead, .int .i64 x.fOp.fKind, .string x.fOp.fPath, .string x.fOp.fTo, .int .i64 x.fOp.fAt, .string x.fOp.fText]), boxA b1 1 34 (.agg #[.slice a0 ps.length c0])]) _) := ⟨HS2⟩
    have HS : Bx (St w0 ([boxA b2 8 55 (.agg #[.int .i64 x.fTxg, .int .i64 x.fSeq, .string x.fHead, .int .i64 x.fOp.fKind, .string x.fOp.fPath, .string x.fOp.fTo, .int .i64 x.fOp.fAt, .string x.fOp.fText]), boxA b1 1 34 (.agg #[.slice a0 ps.length c0])]) _) := ⟨(((HS2.out.erase 2).erase 1).erase 0)⟩; refine ⟨HS.out, ?_⟩
    refine wh_y 11 rfl (by kernel_rfl) (by kernel_rfl) (by kernel_rfl) (fun _ _ _ h => h) rfl HF rfl rfl (fun _ HS => (yl_assign rfl (HF.ev rfl))) HS.out ?_; clear HF a; intro a HF
    refine wh_done (by kernel_rfl) ?_
    replace HS := HS2; clear HS2
    refine ex_then ?_
    refine wp_ret ?_
    refine bp_ret2 HF Tryz.results18 (HF.resBox rfl (HS.out.box 2 rfl) (by kernel_rfl)) (HF.res rfl) ?_
    replace HS : Bx (St w0 ([rowA HD.cells 3 94 (.slice ao qs.length cp) qs, sepA (qs.map HD.asr), boxA b3 1 34 (.agg #[.slice ao qs.length cp]), boxA b2 8 55 (.agg #[.int .i64 x.fTxg, .int .i64 x.fSeq, .string x.fHead, .int .i64 x.fOp.fKind, .string x.fOp.fPath, .string x.fOp.fTo, .int .i64 x.fOp.fAt, .string x.fOp.fText]), boxA b1 1 34 (.agg #[.slice a0 ps.length c0])]) _) := ⟨((HS.out).pick 1 rfl).pick 1 rfl⟩
    exact .inr ⟨_, _, qs, by rw [intF_yes hok hxk]; exact hev, rfl, (((HS.out.erase 4).erase 3).erase 2)⟩

theorem specIntentWrite_any (a0 : Option Addr) (c0 : Nat) (ps : List HD) (w0 : World) (hl : ps.length ≤ 1048576) (hf : fitsL ps) (hp : rdsP a0 ps w0) (x : IntentD) (hfx : x.fits) : Calls Tryz.prog 16 #[.agg #[.slice a0 ps.length c0], .agg #[.int .i64 x.fTxg, .int .i64 x.fSeq, .string x.fHead, .int .i64 x.fOp.fKind, .string x.fOp.fPath, .string x.fOp.fTo, .int .i64 x.fOp.fAt, .string x.fOp.fText]] w0 fun e w' => (intF (dsOf ps) x = none ∧ e = .returned (.tuple #[.agg #[.slice none 0 0], .bool false]) ∧ St w0 [] w') ∨ (∃ ao cp qs, intF (dsOf ps) x = some (dsOf qs) ∧ e = .returned (.tuple #[.agg #[.slice ao qs.length cp], .bool true]) ∧ St w0 [rowA HD.cells 3 94 (.slice ao qs.length cp) qs, sepA (qs.map HD.asr)] w') := by
 have HS := Bx.mk (St.start w0)
 refine wc_enter Tryz.func16 rfl Tryz.ntmps16 [(0, .agg #[.slice a0 ps.length c0]), (1, .agg #[.int .i64 x.fTxg, .int .i64 x.fSeq, .string x.fHead, .int .i64 x.fOp.fKind, .string x.fOp.fPath, .string x.fOp.fTo, .int .i64 x.fOp.fAt, .string x.fOp.fText])] ⟨rfl, rfl, trivial⟩ rfl ?_; intro a HF
 refine wp_sr ?_
 refine wl_box rfl HF rfl (HF.ev rfl) (Z := [.slice a0 ps.length c0]) rfl rfl rfl rfl HS.out ?_; clear HF HS a; intro a w1 b1 HF HS; replace HS := Bx.mk HS
 refine wl_box rfl HF rfl (HF.ev rfl) (Z := [.int .i64 x.fTxg, .int .i64 x.fSeq, .string x.fHead, .int .i64 x.fOp.fKind, .string x.fOp.fPath, .string x.fOp.fTo, .int .i64 x.fOp.fAt, .string x.fOp.fText]) rfl rfl rfl rfl HS.out ?_; clear HF HS a; intro a w2 b2 HF HS; replace HS := Bx.mk HS
 refine wl_alloc rfl HF rfl rfl rfl (Z := [.slice none 0 0]) (by kernel_rfl) rfl HS.out ?_; clear HF HS a; intro a w3 b3 HF HS; replace HS := Bx.mk HS
 refine wl_as HF rfl rfl rfl rfl rfl ?_; clear HF a; intro a HF
 refine wl_ne ?_
 refine wp_seq ?_
 refine wp_sr ?_
 refine wl_y rfl HF rfl rfl (yl_loadR (cs := [.slice a0 ps.length c0]) rfl (HF.ev rfl) ((HS.out.box 2 rfl).sub 0 1) (by kernel_rfl)) ?_; clear HF a; intro a HF
 refine wl_callB rfl HF rfl (enter_of Tryz.func28 (by kernel_rfl) rfl) (args := #[.agg #[.slice a0 ps.length c0]]) rfl (v := .bool (okR (dsOf ps))) (specRaidOk_any a0 c0 ps _ hl hf.at (hp.1.below HS.out.bel) (fun k hk => (hp.at k hk).below HS.out.bel)) rfl rfl HS.out ?_; clear HF HS a; intro w4 a HS HF; replace HS := Bx.mk HS
 refine wl_y rfl HF rfl rfl (yl_not rfl (HF.ev rfl)) ?_; clear HF a; intro a HF
 refine wl_mv HF rfl rfl rfl rfl rfl ?_; clear HF a; intro a HF
 refine HF.cases 9 rfl (fun cc1 HF1 => ?_) (fun cc1 HF1 => ?_)
 ·clear HF; have HF := HF1; clear HF1
  have hok : okR (dsOf ps) = false := by simpa using cc1
  refine wl_skip HF rfl rfl rfl rfl rfl rfl ?_; clear HF a; intro a HF
  refine wl_skip HF rfl rfl rfl rfl rfl rfl ?_; clear HF a; intro a HF
  refine wl_skip HF rfl rfl rfl rfl rfl rfl ?_; clear HF a; intro a HF
  refine wl_y rfl HF rfl rfl (yl_pick_t rfl (HF.ev rfl) (HF.ev rfl)) ?_; clear HF a; intro a HF
  refine wl_ne ?_
  refine wc_true HF rfl ?_
  refine wp_sr ?_
  refine wl_y rfl HF rfl rfl (yl_build HF rfl (ps := []) rfl (cs := #[.slice none 0 0]) (by kernel_rfl)) ?_; clear HF a; intro a HF
  refine wl_storeBox rfl HF rfl rfl (HF.ev rfl) (HF.ev rfl) HS.out 0 rfl (cells_lit [.slice none 0 0] rfl rfl) (by kernel_rfl) ?_; clear HS; intro w5 HS; replace HS := Bx.mk HS
  have HS : Bx (St w0 ([boxA b3 1 34 (.agg #[.slice none 0 0]), boxA b2 8 55 (.agg #[.int .i64 x.fTxg, .int .i64 x.fSeq, .string x.fHead, .int .i64 x.fOp.fKind, .string x.fOp.fPath, .string x.fOp.fTo, .int .i64 x.fOp.fAt, .string x.fOp.fText]), boxA b1 1 34 (.agg #[.slice a0 ps.length c0])]) _) := HS
  refine wl_as HF rfl rfl rfl rfl rfl ?_; clear HF a; intro a HF
  refine wl_ne ?_
  refine wp_ret ?_
  refine ex_then_ret ?_
  refine bp_ret2 HF Tryz.results16 (HF.resBox rfl (HS.out.box 0 rfl) (by kernel_rfl)) (HF.res rfl) ?_
  exact .inl ⟨intF_no (by rw [hok] <;> simp), rfl, (((HS.out.erase 2).erase 1).erase 0)⟩
 ·clear HF; have HF := HF1; clear HF1
  have hok : okR (dsOf ps) = true := by simpa using cc1
  refine wl_yg HF rfl rfl rfl rfl rfl (yl_loadR (cs := [.int .i64 x.fTxg, .int .i64 x.fSeq, .string x.fHead, .int .i64 x.fOp.fKind, .string x.fOp.fPath, .string x.fOp.fTo, .int .i64 x.fOp.fAt, .string x.fOp.fText]) rfl (HF.ev rfl) ((HS.out.box 1 rfl).sub 0 8) (by kernel_rfl)) ?_; clear HF a; intro a HF
  refine wl_callBg HF rfl rfl rfl rfl (enter_of Tryz.func43 (by kernel_rfl) rfl) (args := #[.agg #[.int .i64 x.fTxg, .int .i64 x.fSeq, .string x.fHead, .int .i64 x.fOp.fKind, .string x.fOp.fPath, .string x.fOp.fTo, .int .i64 x.fOp.fAt, .string x.fOp.fText]]) rfl (v := .bool x.ok) (specIntentOk_any x _ hfx) rfl rfl HS.out ?_; clear HF HS a; intro w6 a HS HF; replace HS := Bx.mk HS
  refine wl_yg HF rfl rfl rfl rfl rfl (yl_not rfl (HF.ev rfl)) ?_; clear HF a; intro a HF
  refine wl_y rfl HF rfl rfl (yl_pick_f rfl (HF.ev rfl) (HF.ev rfl)) ?_; clear HF a; intro a HF
  refine wl_ne ?_
  refine HF.cases 13 rfl (fun cc2 HF1 => ?_) (fun cc2 HF1 => ?_)
  ·clear HF; have HF := HF1; clear HF1
   have hxk : x.ok = false := by simpa using cc2
   refine wc_true HF rfl ?_
   refine wp_sr ?_
   refine wl_y rfl HF rfl rfl (yl_build HF rfl (ps := []) rfl (cs := #[.slice none 0 0]) (by kernel_rfl)) ?_; clear HF a; intro a HF
   refine wl_storeBox rfl HF rfl rfl (HF.ev rfl) (HF.ev rfl) HS.out 0 rfl (cells_lit [.slice none 0 0] rfl rfl) (by kernel_rfl) ?_; clear HS; intro w7 HS; replace HS := Bx.mk HS
   have HS : Bx (St w0 ([boxA b3 1 34 (.agg #[.slice none 0 0]), boxA b2 8 55 (.agg #[.int .i64 x.fTxg, .int .i64 x.fSeq, .string x.fHead, .int .i64 x.fOp.fKind, .string x.fOp.fPath, .string x.fOp.fTo, .int .i64 x.fOp.fAt, .string x.fOp.fText]), boxA b1 1 34 (.agg #[.slice a0 ps.length c0])]) _) := HS
   refine wl_as HF rfl rfl rfl rfl rfl ?_; clear HF a; intro a HF
   refine wl_ne ?_
   refine wp_ret ?_
   refine ex_then_ret ?_
   refine bp_ret2 HF Tryz.results16 (HF.resBox rfl (HS.out.box 0 rfl) (by kernel_rfl)) (HF.res rfl) ?_
   exact .inl ⟨intF_no (by rw [hok, hxk] <;> simp), rfl, (((HS.out.erase 2).erase 1).erase 0)⟩
  ·clear HF; have HF := HF1; clear HF1
   have hxk : x.ok = true := by simpa using cc2
   refine wc_false HF rfl ?_
   refine wp_skip ?_
   refine ex_then ?_
   refine wp_seq ?_
   have hb := IntentD.ok_parts hxk; have h3 := okR_three hok
   refine wr_heldS (s := [boxA b2 8 55 (.agg #[.int .i64 x.fTxg, .int .i64 x.fSeq, .string x.fHead, .int .i64 x.fOp.fKind, .string x.fOp.fPath, .string x.fOp.fTo, .int .i64 x.fOp.fAt, .string x.fOp.fText]), boxA b1 1 34 (.agg #[.slice a0 ps.length c0])]) (by kernel_rfl) (St.drew ((HS.out.erase 0))) ?_
   have HS2 := Bx.mk HS.out.drew; replace HS := Bx.mk (show St w0 ([boxA b2 8 55 (.agg #[.int .i64 x.fTxg, .int .i64 x.fSeq, .string x.fHead, .int .i64 x.fOp.fKind, .string x.fOp.fPath, .string x.fOp.fTo, .int .i64 x.fOp.fAt, .string x.fOp.fText]), boxA b1 1 34 (.agg #[.slice a0 ps.length c0])]) _ from (HS.out.drew.erase 0))
   generalize World.drew _ = w8 at HS HS2 ⊢
   refine wh_y 0 rfl (by kernel_rfl) (by kernel_rfl) (by kernel_rfl) (fun _ _ _ h => h) rfl HF rfl rfl (fun _ HS => (yl_loadR (cs := [.slice a0 ps.length c0]) rfl (HF.ev rfl) ((HS.box 1 rfl).sub 0 1) (by kernel_rfl))) HS.out ?_; clear HF a; intro a HF
   refine wh_y 2 rfl (by kernel_rfl) (by kernel_rfl) (by kernel_rfl) (fun _ _ _ h => h) rfl HF rfl rfl (fun _ HS => (yl_loadR (cs := [.int .i64 x.fTxg, .int .i64 x.fSeq, .string x.fHead, .int .i64 x.fOp.fKind, .string x.fOp.fPath, .string x.fOp.fTo, .int .i64 x.fOp.fAt, .string x.fOp.fText]) rfl (HF.ev rfl) ((HS.box 0 rfl).sub 0 8) (by kernel_rfl))) HS.out ?_; clear HF a; intro a HF
   refine wh_one 1 (by kernel_rfl) ?_
   refine wo_call rfl rfl HF rfl (enter_of Tryz.func31 (by kernel_rfl) rfl) (args := #[.agg #[.slice a0 ps.length c0]]) rfl (l4Copy_any a0 c0 ps _ hl hf.at (hp.1.below HS2.out.bel) (fun k hk => (hp.at k hk).below HS2.out.bel)) rfl rfl ?_
   rintro _ w10 ⟨ao, cp, qs, rfl, hqd, hs⟩
   have hql : qs.length = 3 := by rw [← dsOf_len, hqd, dsOf_len]; exact h3.1
   refine ⟨_, rfl, ?_⟩; replace HS := Bx.mk (HS.out.later hs.bel); replace HS2 := Bx.mk (HS2.out.add hs); clear hs HF; clear a; intro a HF
   replace HS2 : Bx (St w0 ([rowA HD.cells 3 94 (.slice ao qs.length cp) qs, sepA (qs.map HD.asr), boxA b3 1 34 (.agg #[.slice none 0 0]), boxA b2 8 55 (.agg #[.int .i64 x.fTxg, .int .i64 x.fSeq, .string x.fHead, .int .i64 x.fOp.fKind, .string x.fOp.fPath, .string x.fOp.fTo, .int .i64 x.fOp.fAt, .string x.fOp.fText]), boxA b1 1 34 (.agg #[.slice a0 ps.length c0])]) _) := ⟨HS2.out⟩
   obtain ⟨g4, rfl, _, _, _, _⟩ := HS2.out.rowOpen 0 rfl (by omega)
   refine ⟨HS.out, ?_⟩
   refine wh_one 3 (by kernel_rfl) ?_
   replace HS2 : Bx (St w0 ([rowA HD.cells 3 94 (.slice (some ⟨g4, 0, none⟩) qs.length cp) qs, sepA (qs.map HD.asr), boxA b3 1 34 (.agg #[.slice none 0 0]), boxA b2 8 55 (.agg #[.int .i64 x.fTxg, .int .i64 x.fSeq, .string x.fHead, .int .i64 x.fOp.fKind, .string x.fOp.fPath, .string x.fOp.fTo, .int .i64 x.fOp.fAt, .string x.fOp.fText]), boxA b1 1 34 (.agg #[.slice a0 ps.length c0])]) _) := ⟨((HS2.out).pick 1 rfl).pick 1 rfl⟩
   refine wo_call rfl rfl HF rfl (enter_of Tryz.func44 (by kernel_rfl) rfl) (args := #[.agg #[.slice (some ⟨g4, 0, none⟩) qs.length cp], .agg #[.int .i64 x.fTxg, .int .i64 x.fSeq, .string x.fHead, .int .i64 x.fOp.fKind, .string x.fOp.fPath, .string x.fOp.fTo, .int .i64 x.fOp.fAt, .string x.fOp.fText]]) rfl (l23Write_any w0 _ g4 cp qs _ x hfx hxk (by rw [hqd]; exact hok) hql HS2.out) rfl rfl ?_
   rintro _ w12 (⟨hev, rfl, hs⟩ | ⟨zs, hev, hzl, rfl, hs⟩)
   ·skip
    refine ⟨_, rfl, ?_⟩; replace HS2 := Bx.mk hs; clear hs HF; clear a; intro a HF
    replace HS2 : Bx (St w0 ([boxA b3 1 34 (.agg #[.slice none 0 0]), boxA b2 8 55 (.agg #[.int .i64 x.fTxg, .int .i64 x.fSeq, .string x.fHead, .int .i64 x.fOp.fKind, .string x.fOp.fPath, .string x.fOp.fTo, .int .i64 x.fOp.fAt, .string x.fOp.fText]), boxA b1 1 34 (.agg #[.slice a0 ps.length c0])]) _) := ⟨HS2.out⟩; clear HS; have HS : Bx (St w0 ([boxA b2 8 55 (.agg #[.int .i64 x.fTxg, .int .i64 x.fSeq, .string x.fHead, .int .i64 x.fOp.fKind, .string x.fOp.fPath, .string x.fOp.fTo, .int .i64 x.fOp.fAt, .string x.fOp.fText]), boxA b1 1 34 (.agg #[.slice a0 ps.length c0])]) _) := ⟨(HS2.out.erase 0)⟩; refine ⟨HS.out, ?_⟩
    refine wh_y 4 rfl (by kernel_rfl) (by kernel_rfl) (by kernel_rfl) (fun _ _ _ h => h) rfl HF rfl rfl (fun _ HS => (yl_extract rfl (HF.ev rfl) rfl)) HS.out ?_; clear HF a; intro a HF
    refine wh_y 5 rfl (by kernel_rfl) (by kernel_rfl) (by kernel_rfl) (fun _ _ _ h => h) rfl HF rfl rfl (fun _ HS => (yl_extract rfl (HF.ev rfl) rfl)) HS.out ?_; clear HF a; intro a HF
    refine wh_one 6 (by kernel_rfl) ?_
    refine wo_storeBox rfl rfl rfl rfl (HF.ev rfl) (HF.ev rfl) HS2.out 0 rfl (cells_lit [.slice none 0 0] rfl rfl) (by kernel_rfl) ?_
    clear HS HS2; intro w13 HS2; replace HS2 : Bx (St w0 ([boxA b3 1 34 (.agg #[.slice none 0 0]), boxA b2 8 55 (.agg #[.int .i64 x.fTxg, .int .i64 x.fSeq, .string x.fHead, .int .i64 x.fOp.fKind, .string x.fOp.fPath, .string x.fOp.fTo, .int .i64 x.fOp.fAt, .string x.fOp.fText]), boxA b1 1 34 (.agg #[.slice a0 ps.length c0])]) _) := ⟨HS2⟩
    have HS : Bx (St w0 ([boxA b2 8 55 (.agg #[.int .i64 x.fTxg, .int .i64 x.fSeq, .string x.fHead, .int .i64 x.fOp.fKind, .string x.fOp.fPath, .string x.fOp.fTo, .int .i64 x.fOp.fAt, .string x.fOp.fText]), boxA b1 1 34 (.agg #[.slice a0 ps.length c0])]) _) := ⟨(HS2.out.erase 0)⟩; refine ⟨HS.out, ?_⟩
    refine wh_y 7 rfl (by kernel_rfl) (by kernel_rfl) (by kernel_rfl) (fun _ _ _ h => h) rfl HF rfl rfl (fun _ HS => (yl_assign rfl (HF.ev rfl))) HS.out ?_; clear HF a; intro a HF
    refine wh_done (by kernel_rfl) ?_
    replace HS := HS2; clear HS2
    refine ex_then ?_
    refine wp_ret ?_
    refine bp_ret2 HF Tryz.results16 (HF.resBox rfl (HS.out.box 0 rfl) (by kernel_rfl)) (HF.res rfl) ?_
    exact .inl ⟨by rw [intF_yes hok hxk, ← hqd]; exact hev, rfl, (((HS.out.erase 2).erase 1).erase 0)⟩
   ·skip
    refine ⟨_, rfl, ?_⟩; replace HS2 := Bx.mk hs; clear hs HF; clear a; intro a HF
    replace HS2 : Bx (St w0 ([rowA HD.cells 3 94 (.slice (some ⟨g4, 0, none⟩) qs.length cp) zs, sepA (zs.map HD.asr), boxA b3 1 34 (.agg #[.slice none 0 0]), boxA b2 8 55 (.agg #[.int .i64 x.fTxg, .int .i64 x.fSeq, .string x.fHead, .int .i64 x.fOp.fKind, .string x.fOp.fPath, .string x.fOp.fTo, .int .i64 x.fOp.fAt, .string x.fOp.fText]), boxA b1 1 34 (.agg #[.slice a0 ps.length c0])]) _) := ⟨HS2.out⟩; clear HS; have HS : Bx (St w0 ([boxA b2 8 55 (.agg #[.int .i64 x.fTxg, .int .i64 x.fSeq, .string x.fHead, .int .i64 x.fOp.fKind, .string x.fOp.fPath, .string x.fOp.fTo, .int .i64 x.fOp.fAt, .string x.fOp.fText]), boxA b1 1 34 (.agg #[.slice a0 ps.length c0])]) _) := ⟨(((HS2.out.erase 2).erase 1).erase 0)⟩; refine ⟨HS.out, ?_⟩
    refine wh_y 4 rfl (by kernel_rfl) (by kernel_rfl) (by kernel_rfl) (fun _ _ _ h => h) rfl HF rfl rfl (fun _ HS => (yl_extract rfl (HF.ev rfl) rfl)) HS.out ?_; clear HF a; intro a HF
    refine wh_y 5 rfl (by kernel_rfl) (by kernel_rfl) (by kernel_rfl) (fun _ _ _ h => h) rfl HF rfl rfl (fun _ HS => (yl_extract rfl (HF.ev rfl) rfl)) HS.out ?_; clear HF a; intro a HF
    refine wh_one 6 (by kernel_rfl) ?_
    refine wo_storeBox rfl rfl rfl rfl (HF.ev rfl) (HF.ev rfl) HS2.out 2 rfl (cells_lit [.slice (some ⟨g4, 0, none⟩) qs.length cp] rfl rfl) (by kernel_rfl) ?_
    clear HS HS2; intro w14 HS2; replace HS2 : Bx (St w0 ([rowA HD.cells 3 94 (.slice (some ⟨g4, 0, none⟩) qs.length cp) zs, sepA (zs.map HD.asr), boxA b3 1 34 (.agg #[.slice (some ⟨g4, 0, none⟩) qs.length cp]), boxA b2 8 55 (.agg #[.int .i64 x.fTxg, .int .i64 x.fSeq, .string x.fHead, .int .i64 x.fOp.fKind, .string x.fOp.fPath, .string x.fOp.fTo, .int .i64 x.fOp.fAt, .string x.fOp.fText]), boxA b1 1 34 (.agg #[.slice a0 ps.length c0])]) _) := ⟨HS2⟩
    have HS : Bx (St w0 ([boxA b2 8 55 (.agg #[.int .i64 x.fTxg, .int .i64 x.fSeq, .string x.fHead, .int .i64 x.fOp.fKind, .string x.fOp.fPath, .string x.fOp.fTo, .int .i64 x.fOp.fAt, .string x.fOp.fText]), boxA b1 1 34 (.agg #[.slice a0 ps.length c0])]) _) := ⟨(((HS2.out.erase 2).erase 1).erase 0)⟩; refine ⟨HS.out, ?_⟩
    refine wh_y 7 rfl (by kernel_rfl) (by kernel_rfl) (by kernel_rfl) (fun _ _ _ h => h) rfl HF rfl rfl (fun _ HS => (yl_assign rfl (HF.ev rfl))) HS.out ?_; clear HF a; intro a HF
    refine wh_done (by kernel_rfl) ?_
    replace HS := HS2; clear HS2
    refine ex_then ?_
    refine wp_ret ?_
    refine bp_ret2 HF Tryz.results16 (HF.resBox rfl (HS.out.box 2 rfl) (by kernel_rfl)) (HF.res rfl) ?_
    replace HS : Bx (St w0 ([rowA HD.cells 3 94 (.slice (some ⟨g4, 0, none⟩) qs.length cp) zs, sepA (zs.map HD.asr), boxA b3 1 34 (.agg #[.slice (some ⟨g4, 0, none⟩) qs.length cp]), boxA b2 8 55 (.agg #[.int .i64 x.fTxg, .int .i64 x.fSeq, .string x.fHead, .int .i64 x.fOp.fKind, .string x.fOp.fPath, .string x.fOp.fTo, .int .i64 x.fOp.fAt, .string x.fOp.fText]), boxA b1 1 34 (.agg #[.slice a0 ps.length c0])]) _) := ⟨((HS.out).pick 1 rfl).pick 1 rfl⟩
    have HT2 := (((HS.out.erase 4).erase 3).erase 2); rw [← hzl] at HT2
    exact .inr ⟨_, _, zs, by rw [intF_yes hok hxk, ← hqd]; exact hev, by rw [hzl]; rfl, HT2⟩

end Go.Proofs.YtoaopmkbfifhaaaGreatDoor

/- Intents handed in. -/
namespace Go.Proofs.YtoaopmkbfifhaaaGreatDoor
set_option linter.unusedVariables false
set_option linter.unusedSimpArgs false
set_option maxHeartbeats 1000000
set_option maxRecDepth 100000
open Go.RowKit

def OpD.bulk (o : OpD) : Nat := o.fPath.size + o.fTo.size + o.fText.size
structure OpD.Small (o : OpD) : Prop where
  p : o.fPath.size ≤ 9223372036854775807
  t : o.fTo.size ≤ 9223372036854775807
  x : o.fText.size ≤ 9223372036854775807
def IntentD.bulk (x : IntentD) : Nat := x.fHead.size + x.fOp.bulk
structure IntentD.Small (x : IntentD) : Prop where
  h : x.fHead.size ≤ 9223372036854775807
  o : x.fOp.Small
theorem IntentD.fit {x : IntentD} (h : x.bulk ≤ 1048576) : x.fits := by
  unfold IntentD.bulk OpD.bulk at h
  exact ⟨by omega, by omega, by omega, by omega⟩

theorem szOp_any (o : OpD) (l : Int) (w0 : World) (hl0 : 0 ≤ l) (hl1 : l ≤ 1048576) (hs : o.Small) : Calls Tryz.prog 42 #[.agg #[.int .i64 o.fKind, .string o.fPath, .string o.fTo, .int .i64 o.fAt, .string o.fText], .int .i64 l] w0 fun e w' => e = .returned (.int .i64 (leftOf l o.bulk)) ∧ Below w0.heap.size w0 w' := by
 obtain ⟨hs1, hs2, hs3⟩ := hs
 have HS := Bx.mk (St.start w0)
 refine wc_enter Tryz.func42 rfl Tryz.ntmps42 [(0, .agg #[.int .i64 o.fKind, .string o.fPath, .string o.fTo, .int .i64 o.fAt, .string o.fText]), (1, .int .i64 l)] ⟨rfl, rfl, trivial⟩ rfl ?_; intro a HF
 refine wp_sr ?_
 refine wl_box rfl HF rfl (HF.ev rfl) (Z := [.int .i64 o.fKind, .string o.fPath, .string o.fTo, .int .i64 o.fAt, .string o.fText]) rfl rfl rfl rfl HS.out ?_; clear HF HS a; intro a w1 b1 HF HS; replace HS := Bx.mk HS
 refine wl_as HF rfl rfl rfl rfl rfl ?_; clear HF a; intro a HF
 refine wl_ne ?_
 refine wp_sr ?_
 refine wl_mv HF rfl rfl rfl rfl rfl ?_; clear HF a; intro a HF
 refine wl_y rfl HF rfl rfl (yl_fieldAddr (j := 1) rfl (HF.ev rfl) (by kernel_rfl)) ?_; clear HF a; intro a HF
 refine wl_y rfl HF rfl rfl (yl_load (v := .string o.fPath) rfl (HF.ev rfl) (((HS.out.box 0 rfl).cell 1).trans rfl) (by kernel_rfl)) ?_; clear HF a; intro a HF
 refine wl_y rfl HF rfl rfl (yl_lenS rfl (HF.ev rfl) (by kernel_rfl)) ?_; clear HF a; intro a HF
 refine wl_y rfl HF rfl rfl (yl_subI rfl (HF.ev rfl) (HF.ev rfl) (i64w (by omega))) ?_; clear HF a; intro a HF
 refine wl_as HF rfl rfl rfl rfl rfl ?_; clear HF a; intro a HF
 refine wl_ne ?_
 refine wp_seq ?_
 refine wp_sr ?_
 refine wl_mv HF rfl rfl rfl rfl rfl ?_; clear HF a; intro a HF
 refine wl_y rfl HF rfl rfl (yl_lssI rfl (HF.ev rfl) (HF.ev rfl)) ?_; clear HF a; intro a HF
 refine wl_ne ?_
 refine HF.cases 11 rfl (fun cc1 HF1 => ?_) (fun cc1 HF1 => ?_)
 ·clear HF; have HF := HF1; clear HF1
  have dcc1 := of_decide_eq_true cc1
  refine wc_true HF rfl ?_
  refine wp_sr ?_
  refine wl_as HF rfl rfl rfl rfl rfl ?_; clear HF a; intro a HF
  refine wl_ne ?_
  refine wp_ret ?_
  refine ex_then_ret ?_
  refine bp_ret1 HF Tryz.results42 (HF.res rfl) ?_
  exact ⟨by rw [leftOf_no (by unfold OpD.bulk; omega)], HS.out.bel⟩
 ·clear HF; have HF := HF1; clear HF1
  have dcc1 := of_decide_eq_false cc1
  refine wc_false HF rfl ?_
  refine wp_skip ?_
  refine ex_then ?_
  refine wp_sr ?_
  refine wl_mv HF rfl rfl rfl rfl rfl ?_; clear HF a; intro a HF
  refine wl_y rfl HF rfl rfl (yl_fieldAddr (j := 2) rfl (HF.ev rfl) (by kernel_rfl)) ?_; clear HF a; intro a HF
  refine wl_y rfl HF rfl rfl (yl_load (v := .string o.fTo) rfl (HF.ev rfl) (((HS.out.box 0 rfl).cell 2).trans rfl) (by kernel_rfl)) ?_; clear HF a; intro a HF
  refine wl_y rfl HF rfl rfl (yl_lenS rfl (HF.ev rfl) (by kernel_rfl)) ?_; clear HF a; intro a HF
  refine wl_y rfl HF rfl rfl (yl_subI rfl (HF.ev rfl) (HF.ev rfl) (i64w (by omega))) ?_; clear HF a; intro a HF
  refine wl_as HF rfl rfl rfl rfl rfl ?_; clear HF a; intro a HF
  refine wl_ne ?_
  refine wp_seq ?_
  refine wp_sr ?_
  refine wl_mv HF rfl rfl rfl rfl rfl ?_; clear HF a; intro a HF
  refine wl_y rfl HF rfl rfl (yl_lssI rfl (HF.ev rfl) (HF.ev rfl)) ?_; clear HF a; intro a HF
  refine wl_ne ?_
  refine HF.cases 18 rfl (fun cc2 HF1 => ?_) (fun cc2 HF1 => ?_)
  ·clear HF; have HF := HF1; clear HF1
   have dcc2 := of_decide_eq_true cc2
   refine wc_true HF rfl ?_
   refine wp_sr ?_
   refine wl_as HF rfl rfl rfl rfl rfl ?_; clear HF a; intro a HF
   refine wl_ne ?_
   refine wp_ret ?_
   refine ex_then_ret ?_
   refine bp_ret1 HF Tryz.results42 (HF.res rfl) ?_
   exact ⟨by rw [leftOf_no (by unfold OpD.bulk; omega)], HS.out.bel⟩
  ·clear HF; have HF := HF1; clear HF1
   have dcc2 := of_decide_eq_false cc2
   refine wc_false HF rfl ?_
   refine wp_skip ?_
   refine ex_then ?_
   refine wp_sr ?_
   refine wl_mv HF rfl rfl rfl rfl rfl ?_; clear HF a; intro a HF
   refine wl_y rfl HF rfl rfl (yl_fieldAddr (j := 4) rfl (HF.ev rfl) (by kernel_rfl)) ?_; clear HF a; intro a HF
   refine wl_y rfl HF rfl rfl (yl_load (v := .string o.fText) rfl (HF.ev rfl) (((HS.out.box 0 rfl).cell 4).trans rfl) (by kernel_rfl)) ?_; clear HF a; intro a HF
   refine wl_y rfl HF rfl rfl (yl_lenS rfl (HF.ev rfl) (by kernel_rfl)) ?_; clear HF a; intro a HF
   refine wl_y rfl HF rfl rfl (yl_subI rfl (HF.ev rfl) (HF.ev rfl) (i64w (by omega))) ?_; clear HF a; intro a HF
   refine wl_as HF rfl rfl rfl rfl rfl ?_; clear HF a; intro a HF
   refine wl_ne ?_
   refine wp_seq ?_
   refine wp_sr ?_
   refine wl_mv HF rfl rfl rfl rfl rfl ?_; clear HF a; intro a HF
   refine wl_y rfl HF rfl rfl (yl_lssI rfl (HF.ev rfl) (HF.ev rfl)) ?_; clear HF a; intro a HF
   refine wl_ne ?_
   refine HF.cases 25 rfl (fun cc3 HF1 => ?_) (fun cc3 HF1 => ?_)
   ·clear HF; have HF := HF1; clear HF1
    have dcc3 := of_decide_eq_true cc3
    refine wc_true HF rfl ?_
    refine wp_sr ?_
    refine wl_as HF rfl rfl rfl rfl rfl ?_; clear HF a; intro a HF
    refine wl_ne ?_
    refine wp_ret ?_
    refine ex_then_ret ?_
    refine bp_ret1 HF Tryz.results42 (HF.res rfl) ?_
    exact ⟨by rw [leftOf_no (by unfold OpD.bulk; omega)], HS.out.bel⟩
   ·clear HF; have HF := HF1; clear HF1
    have dcc3 := of_decide_eq_false cc3
    refine wc_false HF rfl ?_
    refine wp_skip ?_
    refine ex_then ?_
    refine wp_sr ?_
    refine wl_mv HF rfl rfl rfl rfl rfl ?_; clear HF a; intro a HF
    refine wl_as HF rfl rfl rfl rfl rfl ?_; clear HF a; intro a HF
    refine wl_ne ?_
    refine wp_ret ?_
    refine bp_ret1 HF Tryz.results42 (HF.res rfl) ?_
    have hyes : ((o.bulk : Nat) : Int) ≤ l := by unfold OpD.bulk; omega
    have e : ((l - (o.fPath.size : Int)) - (o.fTo.size : Int)) - (o.fText.size : Int) = l - ((o.bulk : Nat) : Int) := by unfold OpD.bulk; omega
    exact ⟨by rw [leftOf_yes hyes, e], HS.out.bel⟩

theorem szIntent_any (x : IntentD) (l : Int) (w0 : World) (hl0 : 0 ≤ l) (hl1 : l ≤ 1048576) (hs : x.Small) : Calls Tryz.prog 15 #[.agg #[.int .i64 x.fTxg, .int .i64 x.fSeq, .string x.fHead, .int .i64 x.fOp.fKind, .string x.fOp.fPath, .string x.fOp.fTo, .int .i64 x.fOp.fAt, .string x.fOp.fText], .int .i64 l] w0 fun e w' => e = .returned (.int .i64 (leftOf l x.bulk)) ∧ Below w0.heap.size w0 w' := by
 obtain ⟨hs1, hs2⟩ := hs
 have HS := Bx.mk (St.start w0)
 refine wc_enter Tryz.func15 rfl Tryz.ntmps15 [(0, .agg #[.int .i64 x.fTxg, .int .i64 x.fSeq, .string x.fHead, .int .i64 x.fOp.fKind, .string x.fOp.fPath, .string x.fOp.fTo, .int .i64 x.fOp.fAt, .string x.fOp.fText]), (1, .int .i64 l)] ⟨rfl, rfl, trivial⟩ rfl ?_; intro a HF
 refine wp_sr ?_
 refine wl_box rfl HF rfl (HF.ev rfl) (Z := [.int .i64 x.fTxg, .int .i64 x.fSeq, .string x.fHead, .int .i64 x.fOp.fKind, .string x.fOp.fPath, .string x.fOp.fTo, .int .i64 x.fOp.fAt, .string x.fOp.fText]) rfl rfl rfl rfl HS.out ?_; clear HF HS a; intro a w1 b1 HF HS; replace HS := Bx.mk HS
 refine wl_as HF rfl rfl rfl rfl rfl ?_; clear HF a; intro a HF
 refine wl_ne ?_
 refine wp_sr ?_
 refine wl_mv HF rfl rfl rfl rfl rfl ?_; clear HF a; intro a HF
 refine wl_y rfl HF rfl rfl (yl_fieldAddr (j := 2) rfl (HF.ev rfl) (by kernel_rfl)) ?_; clear HF a; intro a HF
 refine wl_y rfl HF rfl rfl (yl_load (v := .string x.fHead) rfl (HF.ev rfl) (((HS.out.box 0 rfl).cell 2).trans rfl) (by kernel_rfl)) ?_; clear HF a; intro a HF
 refine wl_y rfl HF rfl rfl (yl_lenS rfl (HF.ev rfl) (by kernel_rfl)) ?_; clear HF a; intro a HF
 refine wl_y rfl HF rfl rfl (yl_subI rfl (HF.ev rfl) (HF.ev rfl) (i64w (by omega))) ?_; clear HF a; intro a HF
 refine wl_as HF rfl rfl rfl rfl rfl ?_; clear HF a; intro a HF
 refine wl_ne ?_
 refine wp_seq ?_
 refine wp_sr ?_
 refine wl_mv HF rfl rfl rfl rfl rfl ?_; clear HF a; intro a HF
 refine wl_y rfl HF rfl rfl (yl_lssI rfl (HF.ev rfl) (HF.ev rfl)) ?_; clear HF a; intro a HF
 refine wl_ne ?_
 refine HF.cases 11 rfl (fun cc1 HF1 => ?_) (fun cc1 HF1 => ?_)
 ·clear HF; have HF := HF1; clear HF1
  have dcc1 := of_decide_eq_true cc1
  refine wc_true HF rfl ?_
  refine wp_sr ?_
  refine wl_as HF rfl rfl rfl rfl rfl ?_; clear HF a; intro a HF
  refine wl_ne ?_
  refine wp_ret ?_
  refine ex_then_ret ?_
  refine bp_ret1 HF Tryz.results15 (HF.res rfl) ?_
  exact ⟨by rw [leftOf_no (by unfold IntentD.bulk; omega)], HS.out.bel⟩
 ·clear HF; have HF := HF1; clear HF1
  have dcc1 := of_decide_eq_false cc1
  refine wc_false HF rfl ?_
  refine wp_skip ?_
  refine ex_then ?_
  refine wp_sr ?_
  refine wl_y rfl HF rfl rfl (yl_fieldAddr (j := 3) rfl (HF.ev rfl) (by kernel_rfl)) ?_; clear HF a; intro a HF
  refine wl_y rfl HF rfl rfl (yl_loadR (cs := [.int .i64 x.fOp.fKind, .string x.fOp.fPath, .string x.fOp.fTo, .int .i64 x.fOp.fAt, .string x.fOp.fText]) rfl (HF.ev rfl) ((HS.out.box 0 rfl).sub 3 5) (by kernel_rfl)) ?_; clear HF a; intro a HF
  refine wl_mv HF rfl rfl rfl rfl rfl ?_; clear HF a; intro a HF
  refine wl_callB rfl HF rfl (enter_of Tryz.func42 (by kernel_rfl) rfl) (args := #[.agg #[.int .i64 x.fOp.fKind, .string x.fOp.fPath, .string x.fOp.fTo, .int .i64 x.fOp.fAt, .string x.fOp.fText], .int .i64 (l - (x.fHead.size : Int))]) rfl (v := .int .i64 (leftOf (l - (x.fHead.size : Int)) x.fOp.bulk)) (szOp_any x.fOp (l - (x.fHead.size : Int)) _ (by omega) (by omega) hs2) rfl rfl HS.out ?_; clear HF HS a; intro w2 a HS HF; replace HS := Bx.mk HS
  refine wl_as HF rfl rfl rfl rfl rfl ?_; clear HF a; intro a HF
  refine wl_ne ?_
  refine wp_seq ?_
  refine wp_sr ?_
  refine wl_mv HF rfl rfl rfl rfl rfl ?_; clear HF a; intro a HF
  refine wl_y rfl HF rfl rfl (yl_lssI rfl (HF.ev rfl) (HF.ev rfl)) ?_; clear HF a; intro a HF
  refine wl_ne ?_
  refine HF.cases 17 rfl (fun cc2 HF1 => ?_) (fun cc2 HF1 => ?_)
  ·clear HF; have HF := HF1; clear HF1
   have dcc2 := of_decide_eq_true cc2
   refine wc_true HF rfl ?_
   refine wp_sr ?_
   refine wl_as HF rfl rfl rfl rfl rfl ?_; clear HF a; intro a HF
   refine wl_ne ?_
   refine wp_ret ?_
   refine ex_then_ret ?_
   refine bp_ret1 HF Tryz.results15 (HF.res rfl) ?_
   have hno : l < ((x.bulk : Nat) : Int) := by unfold leftOf at dcc2; unfold IntentD.bulk; split at dcc2 <;> omega
   exact ⟨by rw [leftOf_no hno], HS.out.bel⟩
  ·clear HF; have HF := HF1; clear HF1
   have dcc2 := of_decide_eq_false cc2
   refine wc_false HF rfl ?_
   refine wp_skip ?_
   refine ex_then ?_
   refine wp_sr ?_
   refine wl_mv HF rfl rfl rfl rfl rfl ?_; clear HF a; intro a HF
   refine wl_as HF rfl rfl rfl rfl rfl ?_; clear HF a; intro a HF
   refine wl_ne ?_
   refine wp_ret ?_
   refine bp_ret1 HF Tryz.results15 (HF.res rfl) ?_
   have hle : ((x.fOp.bulk : Nat) : Int) ≤ l - (x.fHead.size : Int) := by unfold leftOf at dcc2; split at dcc2 <;> omega
   have hyes : ((x.bulk : Nat) : Int) ≤ l := by unfold IntentD.bulk; omega
   have e : leftOf (l - (x.fHead.size : Int)) x.fOp.bulk = l - ((x.bulk : Nat) : Int) := by rw [leftOf_yes hle]; unfold IntentD.bulk; omega
   exact ⟨by rw [leftOf_yes hyes, ← e], HS.out.bel⟩

theorem toOp_any (o : OpD) (w0 : World) : Calls Tryz.prog 45 #[.agg #[.int .i64 o.fKind, .string o.fPath, .string o.fTo, .int .i64 o.fAt, .string o.fText]] w0 fun e w' => e = .returned (.agg #[.int .i64 o.fKind, .string o.fPath, .string o.fTo, .int .i64 o.fAt, .string o.fText]) ∧ Below w0.heap.size w0 w' := by
 have HS := Bx.mk (St.start w0)
 refine wc_enter Tryz.func45 rfl Tryz.ntmps45 [(0, .agg #[.int .i64 o.fKind, .string o.fPath, .string o.fTo, .int .i64 o.fAt, .string o.fText])] ⟨rfl, trivial⟩ rfl ?_; intro a HF
 refine wp_sr ?_
 refine wl_box rfl HF rfl (HF.ev rfl) (Z := [.int .i64 o.fKind, .string o.fPath, .string o.fTo, .int .i64 o.fAt, .string o.fText]) rfl rfl rfl rfl HS.out ?_; clear HF HS a; intro a w1 b1 HF HS; replace HS := Bx.mk HS
 refine wl_alloc rfl HF rfl rfl rfl (Z := [.int .i64 0, .string ByteArray.empty, .string ByteArray.empty, .int .i64 0, .string ByteArray.empty]) (by kernel_rfl) rfl HS.out ?_; clear HF HS a; intro a w2 b2 HF HS; replace HS := Bx.mk HS
 refine wl_ne ?_
 refine wp_sr ?_
 refine wl_alloc rfl HF rfl rfl rfl (Z := [.int .i64 0, .string ByteArray.empty, .string ByteArray.empty, .int .i64 0, .string ByteArray.empty]) (by kernel_rfl) rfl HS.out ?_; clear HF HS a; intro a w3 b3 HF HS; replace HS := Bx.mk HS
 refine wl_ne ?_
 refine wp_sr ?_
 refine wl_y rfl HF rfl rfl (yl_fieldAddr (j := 0) rfl (HF.ev rfl) (by kernel_rfl)) ?_; clear HF a; intro a HF
 refine wl_y rfl HF rfl rfl (yl_load (v := .int .i64 o.fKind) rfl (HF.ev rfl) (((HS.out.box 2 rfl).cell 0).trans rfl) (by kernel_rfl)) ?_; clear HF a; intro a HF
 refine wl_y rfl HF rfl rfl (yl_fieldAddr (j := 0) rfl (HF.ev rfl) (by kernel_rfl)) ?_; clear HF a; intro a HF
 refine wl_storeF rfl rfl rfl (HF.ev rfl) (HF.ev rfl) (by kernel_rfl) HS.out 0 rfl rfl rfl ?_; clear HS; intro w4 HS; replace HS := Bx.mk HS
 have HS : Bx (St w0 ([boxA b3 5 53 (.agg #[.int .i64 o.fKind, .string ByteArray.empty, .string ByteArray.empty, .int .i64 0, .string ByteArray.empty]), boxA b2 5 53 (.agg #[.int .i64 0, .string ByteArray.empty, .string ByteArray.empty, .int .i64 0, .string ByteArray.empty]), boxA b1 5 48 (.agg #[.int .i64 o.fKind, .string o.fPath, .string o.fTo, .int .i64 o.fAt, .string o.fText])]) _) := HS
 refine wl_ne ?_
 refine wp_sr ?_
 refine wl_y rfl HF rfl rfl (yl_fieldAddr (j := 1) rfl (HF.ev rfl) (by kernel_rfl)) ?_; clear HF a; intro a HF
 refine wl_y rfl HF rfl rfl (yl_load (v := .string o.fPath) rfl (HF.ev rfl) (((HS.out.box 2 rfl).cell 1).trans rfl) (by kernel_rfl)) ?_; clear HF a; intro a HF
 refine wl_y rfl HF rfl rfl (yl_fieldAddr (j := 1) rfl (HF.ev rfl) (by kernel_rfl)) ?_; clear HF a; intro a HF
 refine wl_storeF rfl rfl rfl (HF.ev rfl) (HF.ev rfl) (by kernel_rfl) HS.out 0 rfl rfl rfl ?_; clear HS; intro w5 HS; replace HS := Bx.mk HS
 have HS : Bx (St w0 ([boxA b3 5 53 (.agg #[.int .i64 o.fKind, .string o.fPath, .string ByteArray.empty, .int .i64 0, .string ByteArray.empty]), boxA b2 5 53 (.agg #[.int .i64 0, .string ByteArray.empty, .string ByteArray.empty, .int .i64 0, .string ByteArray.empty]), boxA b1 5 48 (.agg #[.int .i64 o.fKind, .string o.fPath, .string o.fTo, .int .i64 o.fAt, .string o.fText])]) _) := HS
 refine wl_ne ?_
 refine wp_sr ?_
 refine wl_y rfl HF rfl rfl (yl_fieldAddr (j := 2) rfl (HF.ev rfl) (by kernel_rfl)) ?_; clear HF a; intro a HF
 refine wl_y rfl HF rfl rfl (yl_load (v := .string o.fTo) rfl (HF.ev rfl) (((HS.out.box 2 rfl).cell 2).trans rfl) (by kernel_rfl)) ?_; clear HF a; intro a HF
 refine wl_y rfl HF rfl rfl (yl_fieldAddr (j := 2) rfl (HF.ev rfl) (by kernel_rfl)) ?_; clear HF a; intro a HF
 refine wl_storeF rfl rfl rfl (HF.ev rfl) (HF.ev rfl) (by kernel_rfl) HS.out 0 rfl rfl rfl ?_; clear HS; intro w6 HS; replace HS := Bx.mk HS
 have HS : Bx (St w0 ([boxA b3 5 53 (.agg #[.int .i64 o.fKind, .string o.fPath, .string o.fTo, .int .i64 0, .string ByteArray.empty]), boxA b2 5 53 (.agg #[.int .i64 0, .string ByteArray.empty, .string ByteArray.empty, .int .i64 0, .string ByteArray.empty]), boxA b1 5 48 (.agg #[.int .i64 o.fKind, .string o.fPath, .string o.fTo, .int .i64 o.fAt, .string o.fText])]) _) := HS
 refine wl_ne ?_
 refine wp_sr ?_
 refine wl_y rfl HF rfl rfl (yl_fieldAddr (j := 3) rfl (HF.ev rfl) (by kernel_rfl)) ?_; clear HF a; intro a HF
 refine wl_y rfl HF rfl rfl (yl_load (v := .int .i64 o.fAt) rfl (HF.ev rfl) (((HS.out.box 2 rfl).cell 3).trans rfl) (by kernel_rfl)) ?_; clear HF a; intro a HF
 refine wl_y rfl HF rfl rfl (yl_fieldAddr (j := 3) rfl (HF.ev rfl) (by kernel_rfl)) ?_; clear HF a; intro a HF
 refine wl_storeF rfl rfl rfl (HF.ev rfl) (HF.ev rfl) (by kernel_rfl) HS.out 0 rfl rfl rfl ?_; clear HS; intro w7 HS; replace HS := Bx.mk HS
 have HS : Bx (St w0 ([boxA b3 5 53 (.agg #[.int .i64 o.fKind, .string o.fPath, .string o.fTo, .int .i64 o.fAt, .string ByteArray.empty]), boxA b2 5 53 (.agg #[.int .i64 0, .string ByteArray.empty, .string ByteArray.empty, .int .i64 0, .string ByteArray.empty]), boxA b1 5 48 (.agg #[.int .i64 o.fKind, .string o.fPath, .string o.fTo, .int .i64 o.fAt, .string o.fText])]) _) := HS
 refine wl_ne ?_
 refine wp_sr ?_
 refine wl_y rfl HF rfl rfl (yl_fieldAddr (j := 4) rfl (HF.ev rfl) (by kernel_rfl)) ?_; clear HF a; intro a HF
 refine wl_y rfl HF rfl rfl (yl_load (v := .string o.fText) rfl (HF.ev rfl) (((HS.out.box 2 rfl).cell 4).trans rfl) (by kernel_rfl)) ?_; clear HF a; intro a HF
 refine wl_y rfl HF rfl rfl (yl_fieldAddr (j := 4) rfl (HF.ev rfl) (by kernel_rfl)) ?_; clear HF a; intro a HF
 refine wl_storeF rfl rfl rfl (HF.ev rfl) (HF.ev rfl) (by kernel_rfl) HS.out 0 rfl rfl rfl ?_; clear HS; intro w8 HS; replace HS := Bx.mk HS
 have HS : Bx (St w0 ([boxA b3 5 53 (.agg #[.int .i64 o.fKind, .string o.fPath, .string o.fTo, .int .i64 o.fAt, .string o.fText]), boxA b2 5 53 (.agg #[.int .i64 0, .string ByteArray.empty, .string ByteArray.empty, .int .i64 0, .string ByteArray.empty]), boxA b1 5 48 (.agg #[.int .i64 o.fKind, .string o.fPath, .string o.fTo, .int .i64 o.fAt, .string o.fText])]) _) := HS
 refine wl_ne ?_
 refine wp_sr ?_
 refine wl_y rfl HF rfl rfl (yl_loadR (cs := [.int .i64 o.fKind, .string o.fPath, .string o.fTo, .int .i64 o.fAt, .string o.fText]) rfl (HF.ev rfl) ((HS.out.box 0 rfl).sub 0 5) (by kernel_rfl)) ?_; clear HF a; intro a HF
 refine wl_storeBox rfl HF rfl rfl (HF.ev rfl) (HF.ev rfl) HS.out 1 rfl (cells_lit [.int .i64 o.fKind, .string o.fPath, .string o.fTo, .int .i64 o.fAt, .string o.fText] rfl rfl) (by kernel_rfl) ?_; clear HS; intro w9 HS; replace HS := Bx.mk HS
 have HS : Bx (St w0 ([boxA b3 5 53 (.agg #[.int .i64 o.fKind, .string o.fPath, .string o.fTo, .int .i64 o.fAt, .string o.fText]), boxA b2 5 53 (.agg #[.int .i64 o.fKind, .string o.fPath, .string o.fTo, .int .i64 o.fAt, .string o.fText]), boxA b1 5 48 (.agg #[.int .i64 o.fKind, .string o.fPath, .string o.fTo, .int .i64 o.fAt, .string o.fText])]) _) := HS
 refine wl_ne ?_
 refine wp_ret ?_
 refine bp_ret1 HF Tryz.results45 (HF.resBox rfl (HS.out.box 1 rfl) (by kernel_rfl)) ?_
 exact ⟨rfl, HS.out.bel⟩

theorem toIntent_any (x : IntentD) (w0 : World) : Calls Tryz.prog 17 #[.agg #[.int .i64 x.fTxg, .int .i64 x.fSeq, .string x.fHead, .int .i64 x.fOp.fKind, .string x.fOp.fPath, .string x.fOp.fTo, .int .i64 x.fOp.fAt, .string x.fOp.fText]] w0 fun e w' => e = .returned (.agg #[.int .i64 x.fTxg, .int .i64 x.fSeq, .string x.fHead, .int .i64 x.fOp.fKind, .string x.fOp.fPath, .string x.fOp.fTo, .int .i64 x.fOp.fAt, .string x.fOp.fText]) ∧ Below w0.heap.size w0 w' := by
 have HS := Bx.mk (St.start w0)
 refine wc_enter Tryz.func17 rfl Tryz.ntmps17 [(0, .agg #[.int .i64 x.fTxg, .int .i64 x.fSeq, .string x.fHead, .int .i64 x.fOp.fKind, .string x.fOp.fPath, .string x.fOp.fTo, .int .i64 x.fOp.fAt, .string x.fOp.fText])] ⟨rfl, trivial⟩ rfl ?_; intro a HF
 refine wp_sr ?_
 refine wl_box rfl HF rfl (HF.ev rfl) (Z := [.int .i64 x.fTxg, .int .i64 x.fSeq, .string x.fHead, .int .i64 x.fOp.fKind, .string x.fOp.fPath, .string x.fOp.fTo, .int .i64 x.fOp.fAt, .string x.fOp.fText]) rfl rfl rfl rfl HS.out ?_; clear HF HS a; intro a w1 b1 HF HS; replace HS := Bx.mk HS
 refine wl_alloc rfl HF rfl rfl rfl (Z := [.int .i64 0, .int .i64 0, .string ByteArray.empty, .int .i64 0, .string ByteArray.empty, .string ByteArray.empty, .int .i64 0, .string ByteArray.empty]) (by kernel_rfl) rfl HS.out ?_; clear HF HS a; intro a w2 b2 HF HS; replace HS := Bx.mk HS
 refine wl_ne ?_
 refine wp_sr ?_
 refine wl_alloc rfl HF rfl rfl rfl (Z := [.int .i64 0, .int .i64 0, .string ByteArray.empty, .int .i64 0, .string ByteArray.empty, .string ByteArray.empty, .int .i64 0, .string ByteArray.empty]) (by kernel_rfl) rfl HS.out ?_; clear HF HS a; intro a w3 b3 HF HS; replace HS := Bx.mk HS
 refine wl_ne ?_
 refine wp_sr ?_
 refine wl_y rfl HF rfl rfl (yl_fieldAddr (j := 0) rfl (HF.ev rfl) (by kernel_rfl)) ?_; clear HF a; intro a HF
 refine wl_y rfl HF rfl rfl (yl_load (v := .int .i64 x.fTxg) rfl (HF.ev rfl) (((HS.out.box 2 rfl).cell 0).trans rfl) (by kernel_rfl)) ?_; clear HF a; intro a HF
 refine wl_y rfl HF rfl rfl (yl_fieldAddr (j := 0) rfl (HF.ev rfl) (by kernel_rfl)) ?_; clear HF a; intro a HF
 refine wl_storeF rfl rfl rfl (HF.ev rfl) (HF.ev rfl) (by kernel_rfl) HS.out 0 rfl rfl rfl ?_; clear HS; intro w4 HS; replace HS := Bx.mk HS
 have HS : Bx (St w0 ([boxA b3 8 55 (.agg #[.int .i64 x.fTxg, .int .i64 0, .string ByteArray.empty, .int .i64 0, .string ByteArray.empty, .string ByteArray.empty, .int .i64 0, .string ByteArray.empty]), boxA b2 8 55 (.agg #[.int .i64 0, .int .i64 0, .string ByteArray.empty, .int .i64 0, .string ByteArray.empty, .string ByteArray.empty, .int .i64 0, .string ByteArray.empty]), boxA b1 8 50 (.agg #[.int .i64 x.fTxg, .int .i64 x.fSeq, .string x.fHead, .int .i64 x.fOp.fKind, .string x.fOp.fPath, .string x.fOp.fTo, .int .i64 x.fOp.fAt, .string x.fOp.fText])]) _) := HS
 refine wl_ne ?_
 refine wp_sr ?_
 refine wl_y rfl HF rfl rfl (yl_fieldAddr (j := 1) rfl (HF.ev rfl) (by kernel_rfl)) ?_; clear HF a; intro a HF
 refine wl_y rfl HF rfl rfl (yl_load (v := .int .i64 x.fSeq) rfl (HF.ev rfl) (((HS.out.box 2 rfl).cell 1).trans rfl) (by kernel_rfl)) ?_; clear HF a; intro a HF
 refine wl_y rfl HF rfl rfl (yl_fieldAddr (j := 1) rfl (HF.ev rfl) (by kernel_rfl)) ?_; clear HF a; intro a HF
 refine wl_storeF rfl rfl rfl (HF.ev rfl) (HF.ev rfl) (by kernel_rfl) HS.out 0 rfl rfl rfl ?_; clear HS; intro w5 HS; replace HS := Bx.mk HS
 have HS : Bx (St w0 ([boxA b3 8 55 (.agg #[.int .i64 x.fTxg, .int .i64 x.fSeq, .string ByteArray.empty, .int .i64 0, .string ByteArray.empty, .string ByteArray.empty, .int .i64 0, .string ByteArray.empty]), boxA b2 8 55 (.agg #[.int .i64 0, .int .i64 0, .string ByteArray.empty, .int .i64 0, .string ByteArray.empty, .string ByteArray.empty, .int .i64 0, .string ByteArray.empty]), boxA b1 8 50 (.agg #[.int .i64 x.fTxg, .int .i64 x.fSeq, .string x.fHead, .int .i64 x.fOp.fKind, .string x.fOp.fPath, .string x.fOp.fTo, .int .i64 x.fOp.fAt, .string x.fOp.fText])]) _) := HS
 refine wl_ne ?_
 refine wp_sr ?_
 refine wl_y rfl HF rfl rfl (yl_fieldAddr (j := 2) rfl (HF.ev rfl) (by kernel_rfl)) ?_; clear HF a; intro a HF
 refine wl_y rfl HF rfl rfl (yl_load (v := .string x.fHead) rfl (HF.ev rfl) (((HS.out.box 2 rfl).cell 2).trans rfl) (by kernel_rfl)) ?_; clear HF a; intro a HF
 refine wl_y rfl HF rfl rfl (yl_fieldAddr (j := 2) rfl (HF.ev rfl) (by kernel_rfl)) ?_; clear HF a; intro a HF
 refine wl_storeF rfl rfl rfl (HF.ev rfl) (HF.ev rfl) (by kernel_rfl) HS.out 0 rfl rfl rfl ?_; clear HS; intro w6 HS; replace HS := Bx.mk HS
 have HS : Bx (St w0 ([boxA b3 8 55 (.agg #[.int .i64 x.fTxg, .int .i64 x.fSeq, .string x.fHead, .int .i64 0, .string ByteArray.empty, .string ByteArray.empty, .int .i64 0, .string ByteArray.empty]), boxA b2 8 55 (.agg #[.int .i64 0, .int .i64 0, .string ByteArray.empty, .int .i64 0, .string ByteArray.empty, .string ByteArray.empty, .int .i64 0, .string ByteArray.empty]), boxA b1 8 50 (.agg #[.int .i64 x.fTxg, .int .i64 x.fSeq, .string x.fHead, .int .i64 x.fOp.fKind, .string x.fOp.fPath, .string x.fOp.fTo, .int .i64 x.fOp.fAt, .string x.fOp.fText])]) _) := HS
 refine wl_ne ?_
 refine wp_sr ?_
 refine wl_y rfl HF rfl rfl (yl_fieldAddr (j := 3) rfl (HF.ev rfl) (by kernel_rfl)) ?_; clear HF a; intro a HF
 refine wl_y rfl HF rfl rfl (yl_loadR (cs := [.int .i64 x.fOp.fKind, .string x.fOp.fPath, .string x.fOp.fTo, .int .i64 x.fOp.fAt, .string x.fOp.fText]) rfl (HF.ev rfl) ((HS.out.box 2 rfl).sub 3 5) (by kernel_rfl)) ?_; clear HF a; intro a HF
 refine wl_callB rfl HF rfl (enter_of Tryz.func45 (by kernel_rfl) rfl) (args := #[.agg #[.int .i64 x.fOp.fKind, .string x.fOp.fPath, .string x.fOp.fTo, .int .i64 x.fOp.fAt, .string x.fOp.fText]]) rfl (v := .agg #[.int .i64 x.fOp.fKind, .string x.fOp.fPath, .string x.fOp.fTo, .int .i64 x.fOp.fAt, .string x.fOp.fText]) (toOp_any x.fOp _) rfl rfl HS.out ?_; clear HF HS a; intro w7 a HS HF; replace HS := Bx.mk HS
 refine wl_y rfl HF rfl rfl (yl_fieldAddr (j := 3) rfl (HF.ev rfl) (by kernel_rfl)) ?_; clear HF a; intro a HF
 refine wl_storeSub rfl rfl rfl (HF.ev rfl) (HF.ev rfl) HS.out 0 rfl (by kernel_rfl) rfl (by kernel_rfl) (rs := [.int .i64 x.fTxg, .int .i64 x.fSeq, .string x.fHead, .int .i64 x.fOp.fKind, .string x.fOp.fPath, .string x.fOp.fTo, .int .i64 x.fOp.fAt, .string x.fOp.fText]) rfl ?_; clear HS; intro w8 HS; replace HS := Bx.mk HS
 have HS : Bx (St w0 ([boxA b3 8 55 (.agg #[.int .i64 x.fTxg, .int .i64 x.fSeq, .string x.fHead, .int .i64 x.fOp.fKind, .string x.fOp.fPath, .string x.fOp.fTo, .int .i64 x.fOp.fAt, .string x.fOp.fText]), boxA b2 8 55 (.agg #[.int .i64 0, .int .i64 0, .string ByteArray.empty, .int .i64 0, .string ByteArray.empty, .string ByteArray.empty, .int .i64 0, .string ByteArray.empty]), boxA b1 8 50 (.agg #[.int .i64 x.fTxg, .int .i64 x.fSeq, .string x.fHead, .int .i64 x.fOp.fKind, .string x.fOp.fPath, .string x.fOp.fTo, .int .i64 x.fOp.fAt, .string x.fOp.fText])]) _) := HS
 refine wl_ne ?_
 refine wp_sr ?_
 refine wl_y rfl HF rfl rfl (yl_loadR (cs := [.int .i64 x.fTxg, .int .i64 x.fSeq, .string x.fHead, .int .i64 x.fOp.fKind, .string x.fOp.fPath, .string x.fOp.fTo, .int .i64 x.fOp.fAt, .string x.fOp.fText]) rfl (HF.ev rfl) ((HS.out.box 0 rfl).sub 0 8) (by kernel_rfl)) ?_; clear HF a; intro a HF
 refine wl_storeBox rfl HF rfl rfl (HF.ev rfl) (HF.ev rfl) HS.out 1 rfl (cells_lit [.int .i64 x.fTxg, .int .i64 x.fSeq, .string x.fHead, .int .i64 x.fOp.fKind, .string x.fOp.fPath, .string x.fOp.fTo, .int .i64 x.fOp.fAt, .string x.fOp.fText] rfl rfl) (by kernel_rfl) ?_; clear HS; intro w9 HS; replace HS := Bx.mk HS
 have HS : Bx (St w0 ([boxA b3 8 55 (.agg #[.int .i64 x.fTxg, .int .i64 x.fSeq, .string x.fHead, .int .i64 x.fOp.fKind, .string x.fOp.fPath, .string x.fOp.fTo, .int .i64 x.fOp.fAt, .string x.fOp.fText]), boxA b2 8 55 (.agg #[.int .i64 x.fTxg, .int .i64 x.fSeq, .string x.fHead, .int .i64 x.fOp.fKind, .string x.fOp.fPath, .string x.fOp.fTo, .int .i64 x.fOp.fAt, .string x.fOp.fText]), boxA b1 8 50 (.agg #[.int .i64 x.fTxg, .int .i64 x.fSeq, .string x.fHead, .int .i64 x.fOp.fKind, .string x.fOp.fPath, .string x.fOp.fTo, .int .i64 x.fOp.fAt, .string x.fOp.fText])]) _) := HS
 refine wl_ne ?_
 refine wp_ret ?_
 refine bp_ret1 HF Tryz.results17 (HF.resBox rfl (HS.out.box 1 rfl) (by kernel_rfl)) ?_
 exact ⟨rfl, HS.out.bel⟩

end Go.Proofs.YtoaopmkbfifhaaaGreatDoor

/- FnExactIntentWrite: the law's walk. -/
namespace Go.Proofs.YtoaopmkbfifhaaaGreatDoor
set_option linter.unusedVariables false
set_option linter.unusedSimpArgs false
set_option maxHeartbeats 1000000
set_option maxRecDepth 100000
open Go.RowKit

def intY (r : RaidD) (x : IntentD) : RaidD := ⟨match intF r.fDisks x with | some ds => ds | none => []⟩
def intY2 (r : RaidD) (x : IntentD) : Bool := match intF r.fDisks x with | some _ => true | none => false
theorem intY_fit {r : RaidD} (x : IntentD) (hf : r.Fit) : (intY r x).Fit := by
  unfold intY
  cases h : intF r.fDisks x with
  | none => exact ⟨Nat.zero_le _, Nat.zero_le _, fun k => by simp [List.getD]; exact ⟨Nat.zero_le _, Nat.zero_le _⟩⟩
  | some ds =>
    cases h1 : (okR r.fDisks && x.ok) with
    | false => rw [intF_no h1] at h; cases h
    | true =>
      rw [Bool.and_eq_true] at h1
      rw [intF_yes h1.1 h1.2] at h
      exact same_fit h1.1 h

theorem specIntW_own (v : Value) (r : RaidD) (x : IntentD) (w : World) (hf : ∀ k, (r.fDisks.getD k default).fits) (hr : RaidD.Reads w v r) (hrl0 : r.fDisks.length ≤ 1048576) (hfx : x.fits) : Calls Tryz.prog 16 #[v, .agg #[.int .i64 x.fTxg, .int .i64 x.fSeq, .string x.fHead, .int .i64 x.fOp.fKind, .string x.fOp.fPath, .string x.fOp.fTo, .int .i64 x.fOp.fAt, .string x.fOp.fText]] w fun e w' => ∃ v', e = .returned (.tuple #[v', .bool (intY2 r x)]) ∧ RaidD.Own w' w.heap.size w'.heap.size v' (intY r x) ∧ Below w.heap.size w w' := by
  obtain ⟨a, c, ps, rfl, hx, hr, hp⟩ := hr
  have hl : ps.length ≤ 1048576 := by rw [← dsOf_len, hx]; exact hrl0
  refine (specIntentWrite_any a c ps w hl (fitsL_of fun d hd => by obtain ⟨i, hi, rfl⟩ := List.getElem_of_mem hd; have := hf i; rw [← hx] at this; simpa [List.getD, hi] using this) ⟨hr, fun p hm => by obtain ⟨i, hi, rfl⟩ := List.getElem_of_mem hm; have := hp i hi; rwa [getD_get hi] at this⟩ x hfx).mono ?_
  rw [hx]
  rintro e w' (⟨h1, rfl, hs⟩ | ⟨ao, cp, qs, h1, rfl, hs⟩)
  · exact ⟨_, by unfold intY2; rw [h1], by unfold intY; rw [h1]; exact own_nil _ _, hs.bel⟩
  · exact ⟨_, by unfold intY2; rw [h1], by unfold intY; rw [h1]; exact RaidD.st_own hs rfl, hs.bel⟩

theorem implIntW_own (v : Value) (r : RaidD) (x : IntentD) (w : World) (hf : ∀ k, (r.fDisks.getD k default).fits) (hr : RaidD.Reads w v r) (hrl0 : r.fDisks.length ≤ 1048576) (hfx : x.fits) (hT : TabP w) (hM : MaxP w) : Calls Tryz.prog 18 #[v, .agg #[.int .i64 x.fTxg, .int .i64 x.fSeq, .string x.fHead, .int .i64 x.fOp.fKind, .string x.fOp.fPath, .string x.fOp.fTo, .int .i64 x.fOp.fAt, .string x.fOp.fText]] w fun e w' => ∃ v', e = .returned (.tuple #[v', .bool (intY2 r x)]) ∧ RaidD.Own w' w.heap.size w'.heap.size v' (intY r x) ∧ Below w.heap.size w w' := by
  obtain ⟨a, c, ps, rfl, hx, hr, hp⟩ := hr
  have hl : ps.length ≤ 1048576 := by rw [← dsOf_len, hx]; exact hrl0
  refine (implIntentWrite_any a c ps w hl (fitsL_of fun d hd => by obtain ⟨i, hi, rfl⟩ := List.getElem_of_mem hd; have := hf i; rw [← hx] at this; simpa [List.getD, hi] using this) ⟨hr, fun p hm => by obtain ⟨i, hi, rfl⟩ := List.getElem_of_mem hm; have := hp i hi; rwa [getD_get hi] at this⟩ hT hM x hfx).mono ?_
  rw [hx]
  rintro e w' (⟨h1, rfl, hs⟩ | ⟨ao, cp, qs, h1, rfl, hs⟩)
  · exact ⟨_, by unfold intY2; rw [h1], by unfold intY; rw [h1]; exact own_nil _ _, hs.bel⟩
  · exact ⟨_, by unfold intY2; rw [h1], by unfold intY; rw [h1]; exact RaidD.st_own hs rfl, hs.bel⟩

set_option maxHeartbeats 4000000 in
theorem lawIntentWrite_any (va : Value) (r : RaidD) (x : IntentD) (w0 : World) (hT : TabP w0) (hM : MaxP w0) (hr : RaidD.Reads w0 va r) (hsm : r.Small) (hxs : x.Small) : Calls Tryz.prog 4 #[va, .agg #[.int .i64 x.fTxg, .int .i64 x.fSeq, .string x.fHead, .int .i64 x.fOp.fKind, .string x.fOp.fPath, .string x.fOp.fTo, .int .i64 x.fOp.fAt, .string x.fOp.fText]] w0 fun e w' => e = .returned (.bool true) ∧ Below w0.heap.size w0 w' := by
 have HR := Bx.mk hr; have HT := Bx.mk hT; have HM := Bx.mk hM; clear hT hM
 obtain ⟨a0, c0, ps, rfl, _⟩ := hr
 have HS := Bx.mk (St.start w0)
 refine wc_enter Tryz.func4 rfl Tryz.ntmps4 [(0, .agg #[.slice a0 ps.length c0]), (1, .agg #[.int .i64 x.fTxg, .int .i64 x.fSeq, .string x.fHead, .int .i64 x.fOp.fKind, .string x.fOp.fPath, .string x.fOp.fTo, .int .i64 x.fOp.fAt, .string x.fOp.fText])] ⟨rfl, rfl, trivial⟩ rfl ?_; intro a HF
 refine wp_sr ?_
 refine wl_box rfl HF rfl (HF.ev rfl) (Z := [.slice a0 ps.length c0]) rfl rfl rfl rfl HS.out ?_; clear HF HS a; intro a w1 b1 HF HS; replace HS := Bx.mk HS
 refine wl_box rfl HF rfl (HF.ev rfl) (Z := [.int .i64 x.fTxg, .int .i64 x.fSeq, .string x.fHead, .int .i64 x.fOp.fKind, .string x.fOp.fPath, .string x.fOp.fTo, .int .i64 x.fOp.fAt, .string x.fOp.fText]) rfl rfl rfl rfl HS.out ?_; clear HF HS a; intro a w2 b2 HF HS; replace HS := Bx.mk HS
 refine wl_as HF rfl rfl rfl rfl rfl ?_; clear HF a; intro a HF
 refine wl_ne ?_
 refine wp_sr ?_
 refine wl_as HF rfl rfl rfl rfl rfl ?_; clear HF a; intro a HF
 refine wl_ne ?_
 refine wp_sr ?_
 refine wl_y rfl HF rfl rfl (yl_loadR (cs := [.slice a0 ps.length c0]) rfl (HF.ev rfl) ((HS.out.box 1 rfl).sub 0 1) (by kernel_rfl)) ?_; clear HF a; intro a HF
 refine wl_mv HF rfl rfl rfl rfl rfl ?_; clear HF a; intro a HF
 refine wl_callB rfl HF rfl (enter_of Tryz.func7 (by kernel_rfl) rfl) (args := #[.agg #[.slice a0 ps.length c0], .int .i64 1048576]) rfl (v := .int .i64 (leftOf 1048576 r.bulk)) (szRaid_any _ r 1048576 _ (by omega) (by omega) (HR.out.below HS.out.bel) hsm) rfl rfl HS.out ?_; clear HF HS a; intro w3 a HS HF; replace HS := Bx.mk HS
 refine wl_as HF rfl rfl rfl rfl rfl ?_; clear HF a; intro a HF
 refine wl_ne ?_
 refine wp_seq ?_
 refine wp_sr ?_
 refine wl_mv HF rfl rfl rfl rfl rfl ?_; clear HF a; intro a HF
 refine wl_y rfl HF rfl rfl (yl_lssI rfl (HF.ev rfl) (HF.ev rfl)) ?_; clear HF a; intro a HF
 refine wl_ne ?_
 refine HF.cases 20 rfl (fun cc1 HF1 => ?_) (fun cc1 HF1 => ?_)
 ·clear HF; have HF := HF1; clear HF1
  refine wc_true HF rfl ?_
  refine wp_sr ?_
  refine wl_as HF rfl rfl rfl rfl rfl ?_; clear HF a; intro a HF
  refine wl_ne ?_
  refine wp_ret ?_
  refine ex_then_ret ?_
  refine bp_ret1 HF Tryz.results4 (HF.res rfl) ?_
  exact ⟨rfl, HS.out.bel⟩
 ·clear HF; have HF := HF1; clear HF1
  have hbk : r.bulk ≤ 1048576 := by have := of_decide_eq_false cc1; unfold leftOf at this; split at this <;> omega
  have hlf : 0 ≤ leftOf 1048576 r.bulk ∧ leftOf 1048576 r.bulk ≤ 1048576 := by rw [leftOf_yes (by omega)]; omega
  refine wc_false HF rfl ?_
  refine wp_skip ?_
  refine ex_then ?_
  refine wp_sr ?_
  refine wl_y rfl HF rfl rfl (yl_loadR (cs := [.int .i64 x.fTxg, .int .i64 x.fSeq, .string x.fHead, .int .i64 x.fOp.fKind, .string x.fOp.fPath, .string x.fOp.fTo, .int .i64 x.fOp.fAt, .string x.fOp.fText]) rfl (HF.ev rfl) ((HS.out.box 0 rfl).sub 0 8) (by kernel_rfl)) ?_; clear HF a; intro a HF
  refine wl_mv HF rfl rfl rfl rfl rfl ?_; clear HF a; intro a HF
  refine wl_callB rfl HF rfl (enter_of Tryz.func15 (by kernel_rfl) rfl) (args := #[.agg #[.int .i64 x.fTxg, .int .i64 x.fSeq, .string x.fHead, .int .i64 x.fOp.fKind, .string x.fOp.fPath, .string x.fOp.fTo, .int .i64 x.fOp.fAt, .string x.fOp.fText], .int .i64 (leftOf 1048576 r.bulk)]) rfl (v := .int .i64 (leftOf (leftOf 1048576 r.bulk) x.bulk)) (szIntent_any x (leftOf 1048576 r.bulk) _ hlf.1 hlf.2 hxs) rfl rfl HS.out ?_; clear HF HS a; intro w4 a HS HF; replace HS := Bx.mk HS
  refine wl_as HF rfl rfl rfl rfl rfl ?_; clear HF a; intro a HF
  refine wl_ne ?_
  refine wp_seq ?_
  refine wp_sr ?_
  refine wl_mv HF rfl rfl rfl rfl rfl ?_; clear HF a; intro a HF
  refine wl_y rfl HF rfl rfl (yl_lssI rfl (HF.ev rfl) (HF.ev rfl)) ?_; clear HF a; intro a HF
  refine wl_ne ?_
  refine HF.cases 25 rfl (fun cc2 HF1 => ?_) (fun cc2 HF1 => ?_)
  ·clear HF; have HF := HF1; clear HF1
   refine wc_true HF rfl ?_
   refine wp_sr ?_
   refine wl_as HF rfl rfl rfl rfl rfl ?_; clear HF a; intro a HF
   refine wl_ne ?_
   refine wp_ret ?_
   refine ex_then_ret ?_
   refine bp_ret1 HF Tryz.results4 (HF.res rfl) ?_
   exact ⟨rfl, HS.out.bel⟩
  ·clear HF; have HF := HF1; clear HF1
   have hbx : x.bulk ≤ 1048576 := by have h7 := of_decide_eq_false cc2; unfold leftOf at h7; split at h7 <;> (try split at h7) <;> omega
   have hfx := IntentD.fit hbx
   have hf := RaidD.fit hbk; have hft := RaidD.fits hbk; have hfy : (intY r x).Fit := intY_fit x hf
   refine wc_false HF rfl ?_
   refine wp_skip ?_
   refine ex_then ?_
   refine wp_seq ?_
   refine wp_join (R := fun a w => ∃ (b9 : Nat) (u6 : Value) (B7 : Nat) (C8 : Nat) (B4 : Nat) (C5 : Nat) (u3 : Value), Fr 109 a [(0, .agg #[.slice a0 ps.length c0]), (1, .agg #[.int .i64 x.fTxg, .int .i64 x.fSeq, .string x.fHead, .int .i64 x.fOp.fKind, .string x.fOp.fPath, .string x.fOp.fTo, .int .i64 x.fOp.fAt, .string x.fOp.fText]), (2, .pointer (some ⟨b1, 0, none⟩)), (3, .pointer (some ⟨b2, 0, none⟩)), (4, .bool false), (5, .int .i64 (leftOf (leftOf 1048576 r.bulk) x.bulk)), (16, .agg #[.slice a0 ps.length c0]), (17, .int .i64 1048576), (18, .int .i64 (leftOf 1048576 r.bulk)), (19, .int .i64 (leftOf 1048576 r.bulk)), (20, .bool false), (21, .agg #[.int .i64 x.fTxg, .int .i64 x.fSeq, .string x.fHead, .int .i64 x.fOp.fKind, .string x.fOp.fPath, .string x.fOp.fTo, .int .i64 x.fOp.fAt, .string x.fOp.fText]), (22, .int .i64 (leftOf 1048576 r.bulk)), (23, .int .i64 (leftOf (leftOf 1048576 r.bulk) x.bulk)), (24, .int .i64 (leftOf (leftOf 1048576 r.bulk) x.bulk)), (25, .bool false), (6, .pointer (some ⟨b9, 0, none⟩)), (7, .bool (intY2 r x))] ∧ St w0 ([boxA b9 1 34 u6, ivA RaidD.Own RaidD.Own.loc B7 C8 u6 (intY r x), ivA RaidD.Own RaidD.Own.loc B4 C5 u3 r, boxA b2 8 50 (.agg #[.int .i64 x.fTxg, .int .i64 x.fSeq, .string x.fHead, .int .i64 x.fOp.fKind, .string x.fOp.fPath, .string x.fOp.fTo, .int .i64 x.fOp.fAt, .string x.fOp.fText]), boxA b1 1 24 (.agg #[.slice a0 ps.length c0])]) w) ?_ ?_
   ·skip
    refine wr_heldS (s := [boxA b2 8 50 (.agg #[.int .i64 x.fTxg, .int .i64 x.fSeq, .string x.fHead, .int .i64 x.fOp.fKind, .string x.fOp.fPath, .string x.fOp.fTo, .int .i64 x.fOp.fAt, .string x.fOp.fText]), boxA b1 1 24 (.agg #[.slice a0 ps.length c0])]) (by kernel_rfl) (St.drew (HS.out)) ?_
    have HS2 := Bx.mk HS.out.drew; replace HS := Bx.mk (show St w0 ([boxA b2 8 50 (.agg #[.int .i64 x.fTxg, .int .i64 x.fSeq, .string x.fHead, .int .i64 x.fOp.fKind, .string x.fOp.fPath, .string x.fOp.fTo, .int .i64 x.fOp.fAt, .string x.fOp.fText]), boxA b1 1 24 (.agg #[.slice a0 ps.length c0])]) _ from HS.out.drew)
    generalize World.drew _ = w5 at HS HS2 ⊢
    refine wh_y 0 rfl (by kernel_rfl) (by kernel_rfl) (by kernel_rfl) (fun _ _ _ h => h) rfl HF rfl rfl (fun _ HS => (yl_loadR (cs := [.slice a0 ps.length c0]) rfl (HF.ev rfl) ((HS.box 1 rfl).sub 0 1) (by kernel_rfl))) HS.out ?_; clear HF a; intro a HF
    refine wh_y 2 rfl (by kernel_rfl) (by kernel_rfl) (by kernel_rfl) (fun _ _ _ h => h) rfl HF rfl rfl (fun _ HS => (yl_loadR (cs := [.int .i64 x.fTxg, .int .i64 x.fSeq, .string x.fHead, .int .i64 x.fOp.fKind, .string x.fOp.fPath, .string x.fOp.fTo, .int .i64 x.fOp.fAt, .string x.fOp.fText]) rfl (HF.ev rfl) ((HS.box 0 rfl).sub 0 8) (by kernel_rfl))) HS.out ?_; clear HF a; intro a HF
    refine wh_two 1 8 (by kernel_rfl) ?_ ?_
    ·skip
     refine wo_call rfl rfl HF rfl (enter_of Tryz.func9 (by kernel_rfl) rfl) (args := #[.agg #[.slice a0 ps.length c0]]) rfl (toRaid_any _ r _ hf (HR.out.below HS.out.bel)) rfl rfl ?_
     rintro _ w7 ⟨u3, rfl, ho, hb⟩
     refine ⟨_, rfl, ?_⟩; replace HS := Bx.mk (HS.out.later hb); replace HS2 := Bx.mk (HS2.out.add (St.ivNew (loc := RaidD.Own.loc) ho hb)); clear ho hb HF; clear a; intro a HF; refine ⟨HS.out, ?_⟩
     obtain ⟨B4, C5, hh⟩ : ∃ B B1, St w0 ([ivA RaidD.Own RaidD.Own.loc B B1 u3 r, boxA b2 8 50 (.agg #[.int .i64 x.fTxg, .int .i64 x.fSeq, .string x.fHead, .int .i64 x.fOp.fKind, .string x.fOp.fPath, .string x.fOp.fTo, .int .i64 x.fOp.fAt, .string x.fOp.fText]), boxA b1 1 24 (.agg #[.slice a0 ps.length c0])]) w7 := ⟨_, _, HS2.out⟩; replace HS2 := Bx.mk hh; clear hh
     refine wh_two 3 8 (by kernel_rfl) ?_ ?_
     ·skip
      refine wo_callB rfl rfl HF rfl (enter_of Tryz.func17 (by kernel_rfl) rfl) (args := #[.agg #[.int .i64 x.fTxg, .int .i64 x.fSeq, .string x.fHead, .int .i64 x.fOp.fKind, .string x.fOp.fPath, .string x.fOp.fTo, .int .i64 x.fOp.fAt, .string x.fOp.fText]]) rfl (v := .agg #[.int .i64 x.fTxg, .int .i64 x.fSeq, .string x.fHead, .int .i64 x.fOp.fKind, .string x.fOp.fPath, .string x.fOp.fTo, .int .i64 x.fOp.fAt, .string x.fOp.fText]) (toIntent_any x _) rfl rfl ?_
      intro w8 hb; replace HS := Bx.mk (HS.out.later hb); replace HS2 := Bx.mk (HS2.out.later hb); clear hb HF; clear a; intro a HF; refine ⟨HS.out, ?_⟩
      refine wh_two 4 8 (by kernel_rfl) ?_ ?_
      ·skip
       refine wo_call rfl rfl HF rfl (enter_of Tryz.func16 (by kernel_rfl) rfl) (args := #[u3, .agg #[.int .i64 x.fTxg, .int .i64 x.fSeq, .string x.fHead, .int .i64 x.fOp.fKind, .string x.fOp.fPath, .string x.fOp.fTo, .int .i64 x.fOp.fAt, .string x.fOp.fText]]) rfl (specIntW_own _ r x _ hft (RaidD.Own.rd (HS2.out.iv 0 rfl)) hf.n hfx) rfl rfl ?_
       rintro _ w10 ⟨u6, rfl, ho, hb⟩
       refine ⟨_, rfl, ?_⟩; replace HS := Bx.mk (HS.out.later hb); replace HS2 := Bx.mk (HS2.out.add (St.ivNew (loc := RaidD.Own.loc) ho hb)); clear ho hb HF; clear a; intro a HF; refine ⟨HS.out, ?_⟩
       obtain ⟨B7, C8, hh⟩ : ∃ B B1, St w0 ([ivA RaidD.Own RaidD.Own.loc B B1 u6 (intY r x), ivA RaidD.Own RaidD.Own.loc B4 C5 u3 r, boxA b2 8 50 (.agg #[.int .i64 x.fTxg, .int .i64 x.fSeq, .string x.fHead, .int .i64 x.fOp.fKind, .string x.fOp.fPath, .string x.fOp.fTo, .int .i64 x.fOp.fAt, .string x.fOp.fText]), boxA b1 1 24 (.agg #[.slice a0 ps.length c0])]) w10 := ⟨_, _, HS2.out⟩; replace HS2 := Bx.mk hh; clear hh
       refine wh_y 5 rfl (by kernel_rfl) (by kernel_rfl) (by kernel_rfl) (fun _ _ _ h => h) rfl HF rfl rfl (fun _ HS => (yl_move rfl (HF.ev rfl))) HS.out ?_; clear HF a; intro a HF
       refine wh_y 6 rfl (by kernel_rfl) (by kernel_rfl) (by kernel_rfl) (fun _ _ _ h => h) rfl HF rfl rfl (fun _ HS => (yl_extract rfl (HF.ev rfl) rfl)) HS.out ?_; clear HF a; intro a HF
       refine wh_y 7 rfl (by kernel_rfl) (by kernel_rfl) (by kernel_rfl) (fun _ _ _ h => h) rfl HF rfl rfl (fun _ HS => (yl_extract rfl (HF.ev rfl) rfl)) HS.out ?_; clear HF a; intro a HF
       refine wh_one 8 (by kernel_rfl) ?_
       refine wo_alloc rfl rfl HF rfl rfl rfl (Z := [.slice none 0 0]) (by kernel_rfl) rfl HS2.out HS.out ?_; clear HF HS HS2 a; intro a w11 b9 HF HS2 HS; replace HS := Bx.mk HS; replace HS2 := Bx.mk HS2; refine ⟨HS.out, ?_⟩
       refine wh_one 9 (by kernel_rfl) ?_
       refine wo_storeBox rfl rfl rfl rfl (HF.ev rfl) (HF.ev rfl) HS2.out 0 rfl (RaidD.Own.cells (HS2.out.iv 1 rfl)) (by kernel_rfl) ?_
       clear HS HS2; intro w12 HS2; replace HS2 : Bx (St w0 ([boxA b9 1 34 u6, ivA RaidD.Own RaidD.Own.loc B7 C8 u6 (intY r x), ivA RaidD.Own RaidD.Own.loc B4 C5 u3 r, boxA b2 8 50 (.agg #[.int .i64 x.fTxg, .int .i64 x.fSeq, .string x.fHead, .int .i64 x.fOp.fKind, .string x.fOp.fPath, .string x.fOp.fTo, .int .i64 x.fOp.fAt, .string x.fOp.fText]), boxA b1 1 24 (.agg #[.slice a0 ps.length c0])]) _) := ⟨HS2⟩
       have HS : Bx (St w0 ([boxA b2 8 50 (.agg #[.int .i64 x.fTxg, .int .i64 x.fSeq, .string x.fHead, .int .i64 x.fOp.fKind, .string x.fOp.fPath, .string x.fOp.fTo, .int .i64 x.fOp.fAt, .string x.fOp.fText]), boxA b1 1 24 (.agg #[.slice a0 ps.length c0])]) _) := ⟨(((HS2.out.erase 2).erase 1).erase 0)⟩; refine ⟨HS.out, ?_⟩
       refine wh_y 10 rfl (by kernel_rfl) (by kernel_rfl) (by kernel_rfl) (fun _ _ _ h => h) rfl HF rfl rfl (fun _ HS => (yl_assign rfl (HF.ev rfl))) HS.out ?_; clear HF a; intro a HF
       refine wh_done (by kernel_rfl) ?_
       replace HS := HS2; clear HS2
       exact on_mk ⟨_, _, _, _, _, _, _, HF.less _ ⟨rfl, rfl, rfl, rfl, rfl, rfl, rfl, rfl, rfl, rfl, rfl, rfl, rfl, rfl, rfl, rfl, rfl, rfl, trivial⟩, HS.out⟩
      ·skip
       refine wo_alloc rfl rfl HF rfl rfl rfl (Z := [.slice none 0 0]) (by kernel_rfl) rfl HS2.out HS.out ?_; clear HF HS HS2 a; intro a w13 b10 HF HS2 HS; replace HS := Bx.mk HS; replace HS2 := Bx.mk HS2; refine ⟨HS.out, ?_⟩
       refine wh_one 4 (by kernel_rfl) ?_
       refine wo_call rfl rfl HF rfl (enter_of Tryz.func16 (by kernel_rfl) rfl) (args := #[u3, .agg #[.int .i64 x.fTxg, .int .i64 x.fSeq, .string x.fHead, .int .i64 x.fOp.fKind, .string x.fOp.fPath, .string x.fOp.fTo, .int .i64 x.fOp.fAt, .string x.fOp.fText]]) rfl (specIntW_own _ r x _ hft (RaidD.Own.rd (HS2.out.iv 1 rfl)) hf.n hfx) rfl rfl ?_
       rintro _ w15 ⟨u11, rfl, ho, hb⟩
       refine ⟨_, rfl, ?_⟩; replace HS := Bx.mk (HS.out.later hb); replace HS2 := Bx.mk (HS2.out.add (St.ivNew (loc := RaidD.Own.loc) ho hb)); clear ho hb HF; clear a; intro a HF; refine ⟨HS.out, ?_⟩
       obtain ⟨B12, C13, hh⟩ : ∃ B B1, St w0 ([ivA RaidD.Own RaidD.Own.loc B B1 u11 (intY r x), boxA b10 1 34 (.agg #[.slice none 0 0]), ivA RaidD.Own RaidD.Own.loc B4 C5 u3 r, boxA b2 8 50 (.agg #[.int .i64 x.fTxg, .int .i64 x.fSeq, .string x.fHead, .int .i64 x.fOp.fKind, .string x.fOp.fPath, .string x.fOp.fTo, .int .i64 x.fOp.fAt, .string x.fOp.fText]), boxA b1 1 24 (.agg #[.slice a0 ps.length c0])]) w15 := ⟨_, _, HS2.out⟩; replace HS2 := Bx.mk hh; clear hh
       refine wh_y 5 rfl (by kernel_rfl) (by kernel_rfl) (by kernel_rfl) (fun _ _ _ h => h) rfl HF rfl rfl (fun _ HS => (yl_move rfl (HF.ev rfl))) HS.out ?_; clear HF a; intro a HF
       refine wh_y 6 rfl (by kernel_rfl) (by kernel_rfl) (by kernel_rfl) (fun _ _ _ h => h) rfl HF rfl rfl (fun _ HS => (yl_extract rfl (HF.ev rfl) rfl)) HS.out ?_; clear HF a; intro a HF
       refine wh_y 7 rfl (by kernel_rfl) (by kernel_rfl) (by kernel_rfl) (fun _ _ _ h => h) rfl HF rfl rfl (fun _ HS => (yl_extract rfl (HF.ev rfl) rfl)) HS.out ?_; clear HF a; intro a HF
       refine wh_one 9 (by kernel_rfl) ?_
       refine wo_storeBox rfl rfl rfl rfl (HF.ev rfl) (HF.ev rfl) HS2.out 1 rfl (RaidD.Own.cells (HS2.out.iv 0 rfl)) (by kernel_rfl) ?_
       clear HS HS2; intro w16 HS2; replace HS2 : Bx (St w0 ([ivA RaidD.Own RaidD.Own.loc B12 C13 u11 (intY r x), boxA b10 1 34 u11, ivA RaidD.Own RaidD.Own.loc B4 C5 u3 r, boxA b2 8 50 (.agg #[.int .i64 x.fTxg, .int .i64 x.fSeq, .string x.fHead, .int .i64 x.fOp.fKind, .string x.fOp.fPath, .string x.fOp.fTo, .int .i64 x.fOp.fAt, .string x.fOp.fText]), boxA b1 1 24 (.agg #[.slice a0 ps.length c0])]) _) := ⟨HS2⟩
       have HS : Bx (St w0 ([boxA b2 8 50 (.agg #[.int .i64 x.fTxg, .int .i64 x.fSeq, .string x.fHead, .int .i64 x.fOp.fKind, .string x.fOp.fPath, .string x.fOp.fTo, .int .i64 x.fOp.fAt, .string x.fOp.fText]), boxA b1 1 24 (.agg #[.slice a0 ps.length c0])]) _) := ⟨(((HS2.out.erase 2).erase 1).erase 0)⟩; refine ⟨HS.out, ?_⟩
       refine wh_y 10 rfl (by kernel_rfl) (by kernel_rfl) (by kernel_rfl) (fun _ _ _ h => h) rfl HF rfl rfl (fun _ HS => (yl_assign rfl (HF.ev rfl))) HS.out ?_; clear HF a; intro a HF
       refine wh_done (by kernel_rfl) ?_
       replace HS := HS2; clear HS2
       replace HS : Bx (St w0 ([boxA b10 1 34 u11, ivA RaidD.Own RaidD.Own.loc B12 C13 u11 (intY r x), ivA RaidD.Own RaidD.Own.loc B4 C5 u3 r, boxA b2 8 50 (.agg #[.int .i64 x.fTxg, .int .i64 x.fSeq, .string x.fHead, .int .i64 x.fOp.fKind, .string x.fOp.fPath, .string x.fOp.fTo, .int .i64 x.fOp.fAt, .string x.fOp.fText]), boxA b1 1 24 (.agg #[.slice a0 ps.length c0])]) _) := ⟨(((((HS.out).pick 4 rfl).pick 4 rfl).pick 4 rfl).pick 3 rfl).pick 4 rfl⟩
       exact on_mk ⟨_, _, _, _, _, _, _, HF.less _ ⟨rfl, rfl, rfl, rfl, rfl, rfl, rfl, rfl, rfl, rfl, rfl, rfl, rfl, rfl, rfl, rfl, rfl, rfl, trivial⟩, HS.out⟩
     ·skip
      refine wo_alloc rfl rfl HF rfl rfl rfl (Z := [.slice none 0 0]) (by kernel_rfl) rfl HS2.out HS.out ?_; clear HF HS HS2 a; intro a w17 b14 HF HS2 HS; replace HS := Bx.mk HS; replace HS2 := Bx.mk HS2; refine ⟨HS.out, ?_⟩
      refine wh_one 3 (by kernel_rfl) ?_
      refine wo_callB rfl rfl HF rfl (enter_of Tryz.func17 (by kernel_rfl) rfl) (args := #[.agg #[.int .i64 x.fTxg, .int .i64 x.fSeq, .string x.fHead, .int .i64 x.fOp.fKind, .string x.fOp.fPath, .string x.fOp.fTo, .int .i64 x.fOp.fAt, .string x.fOp.fText]]) rfl (v := .agg #[.int .i64 x.fTxg, .int .i64 x.fSeq, .string x.fHead, .int .i64 x.fOp.fKind, .string x.fOp.fPath, .string x.fOp.fTo, .int .i64 x.fOp.fAt, .string x.fOp.fText]) (toIntent_any x _) rfl rfl ?_
      intro w18 hb; replace HS := Bx.mk (HS.out.later hb); replace HS2 := Bx.mk (HS2.out.later hb); clear hb HF; clear a; intro a HF; refine ⟨HS.out, ?_⟩
      refine wh_one 4 (by kernel_rfl) ?_
      refine wo_call rfl rfl HF rfl (enter_of Tryz.func16 (by kernel_rfl) rfl) (args := #[u3, .agg #[.int .i64 x.fTxg, .int .i64 x.fSeq, .string x.fHead, .int .i64 x.fOp.fKind, .string x.fOp.fPath, .string x.fOp.fTo, .int .i64 x.fOp.fAt, .string x.fOp.fText]]) rfl (specIntW_own _ r x _ hft (RaidD.Own.rd (HS2.out.iv 1 rfl)) hf.n hfx) rfl rfl ?_
      rintro _ w20 ⟨u15, rfl, ho, hb⟩
      refine ⟨_, rfl, ?_⟩; replace HS := Bx.mk (HS.out.later hb); replace HS2 := Bx.mk (HS2.out.add (St.ivNew (loc := RaidD.Own.loc) ho hb)); clear ho hb HF; clear a; intro a HF; refine ⟨HS.out, ?_⟩
      obtain ⟨B16, C17, hh⟩ : ∃ B B1, St w0 ([ivA RaidD.Own RaidD.Own.loc B B1 u15 (intY r x), boxA b14 1 34 (.agg #[.slice none 0 0]), ivA RaidD.Own RaidD.Own.loc B4 C5 u3 r, boxA b2 8 50 (.agg #[.int .i64 x.fTxg, .int .i64 x.fSeq, .string x.fHead, .int .i64 x.fOp.fKind, .string x.fOp.fPath, .string x.fOp.fTo, .int .i64 x.fOp.fAt, .string x.fOp.fText]), boxA b1 1 24 (.agg #[.slice a0 ps.length c0])]) w20 := ⟨_, _, HS2.out⟩; replace HS2 := Bx.mk hh; clear hh
      refine wh_y 5 rfl (by kernel_rfl) (by kernel_rfl) (by kernel_rfl) (fun _ _ _ h => h) rfl HF rfl rfl (fun _ HS => (yl_move rfl (HF.ev rfl))) HS.out ?_; clear HF a; intro a HF
      refine wh_y 6 rfl (by kernel_rfl) (by kernel_rfl) (by kernel_rfl) (fun _ _ _ h => h) rfl HF rfl rfl (fun _ HS => (yl_extract rfl (HF.ev rfl) rfl)) HS.out ?_; clear HF a; intro a HF
      refine wh_y 7 rfl (by kernel_rfl) (by kernel_rfl) (by kernel_rfl) (fun _ _ _ h => h) rfl HF rfl rfl (fun _ HS => (yl_extract rfl (HF.ev rfl) rfl)) HS.out ?_; clear HF a; intro a HF
      refine wh_one 9 (by kernel_rfl) ?_
      refine wo_storeBox rfl rfl rfl rfl (HF.ev rfl) (HF.ev rfl) HS2.out 1 rfl (RaidD.Own.cells (HS2.out.iv 0 rfl)) (by kernel_rfl) ?_
      clear HS HS2; intro w21 HS2; replace HS2 : Bx (St w0 ([ivA RaidD.Own RaidD.Own.loc B16 C17 u15 (intY r x), boxA b14 1 34 u15, ivA RaidD.Own RaidD.Own.loc B4 C5 u3 r, boxA b2 8 50 (.agg #[.int .i64 x.fTxg, .int .i64 x.fSeq, .string x.fHead, .int .i64 x.fOp.fKind, .string x.fOp.fPath, .string x.fOp.fTo, .int .i64 x.fOp.fAt, .string x.fOp.fText]), boxA b1 1 24 (.agg #[.slice a0 ps.length c0])]) _) := ⟨HS2⟩
      have HS : Bx (St w0 ([boxA b2 8 50 (.agg #[.int .i64 x.fTxg, .int .i64 x.fSeq, .string x.fHead, .int .i64 x.fOp.fKind, .string x.fOp.fPath, .string x.fOp.fTo, .int .i64 x.fOp.fAt, .string x.fOp.fText]), boxA b1 1 24 (.agg #[.slice a0 ps.length c0])]) _) := ⟨(((HS2.out.erase 2).erase 1).erase 0)⟩; refine ⟨HS.out, ?_⟩
      refine wh_y 10 rfl (by kernel_rfl) (by kernel_rfl) (by kernel_rfl) (fun _ _ _ h => h) rfl HF rfl rfl (fun _ HS => (yl_assign rfl (HF.ev rfl))) HS.out ?_; clear HF a; intro a HF
      refine wh_done (by kernel_rfl) ?_
      replace HS := HS2; clear HS2
      replace HS : Bx (St w0 ([boxA b14 1 34 u15, ivA RaidD.Own RaidD.Own.loc B16 C17 u15 (intY r x), ivA RaidD.Own RaidD.Own.loc B4 C5 u3 r, boxA b2 8 50 (.agg #[.int .i64 x.fTxg, .int .i64 x.fSeq, .string x.fHead, .int .i64 x.fOp.fKind, .string x.fOp.fPath, .string x.fOp.fTo, .int .i64 x.fOp.fAt, .string x.fOp.fText]), boxA b1 1 24 (.agg #[.slice a0 ps.length c0])]) _) := ⟨(((((HS.out).pick 4 rfl).pick 4 rfl).pick 4 rfl).pick 3 rfl).pick 4 rfl⟩
      exact on_mk ⟨_, _, _, _, _, _, _, HF.less _ ⟨rfl, rfl, rfl, rfl, rfl, rfl, rfl, rfl, rfl, rfl, rfl, rfl, rfl, rfl, rfl, rfl, rfl, rfl, trivial⟩, HS.out⟩
    ·skip
     refine wo_alloc rfl rfl HF rfl rfl rfl (Z := [.slice none 0 0]) (by kernel_rfl) rfl HS2.out HS.out ?_; clear HF HS HS2 a; intro a w22 b18 HF HS2 HS; replace HS := Bx.mk HS; replace HS2 := Bx.mk HS2; refine ⟨HS.out, ?_⟩
     refine wh_one 1 (by kernel_rfl) ?_
     refine wo_call rfl rfl HF rfl (enter_of Tryz.func9 (by kernel_rfl) rfl) (args := #[.agg #[.slice a0 ps.length c0]]) rfl (toRaid_any _ r _ hf (HR.out.below HS.out.bel)) rfl rfl ?_
     rintro _ w24 ⟨u19, rfl, ho, hb⟩
     refine ⟨_, rfl, ?_⟩; replace HS := Bx.mk (HS.out.later hb); replace HS2 := Bx.mk (HS2.out.add (St.ivNew (loc := RaidD.Own.loc) ho hb)); clear ho hb HF; clear a; intro a HF; refine ⟨HS.out, ?_⟩
     obtain ⟨B20, C21, hh⟩ : ∃ B B1, St w0 ([ivA RaidD.Own RaidD.Own.loc B B1 u19 r, boxA b18 1 34 (.agg #[.slice none 0 0]), boxA b2 8 50 (.agg #[.int .i64 x.fTxg, .int .i64 x.fSeq, .string x.fHead, .int .i64 x.fOp.fKind, .string x.fOp.fPath, .string x.fOp.fTo, .int .i64 x.fOp.fAt, .string x.fOp.fText]), boxA b1 1 24 (.agg #[.slice a0 ps.length c0])]) w24 := ⟨_, _, HS2.out⟩; replace HS2 := Bx.mk hh; clear hh
     refine wh_one 3 (by kernel_rfl) ?_
     refine wo_callB rfl rfl HF rfl (enter_of Tryz.func17 (by kernel_rfl) rfl) (args := #[.agg #[.int .i64 x.fTxg, .int .i64 x.fSeq, .string x.fHead, .int .i64 x.fOp.fKind, .string x.fOp.fPath, .string x.fOp.fTo, .int .i64 x.fOp.fAt, .string x.fOp.fText]]) rfl (v := .agg #[.int .i64 x.fTxg, .int .i64 x.fSeq, .string x.fHead, .int .i64 x.fOp.fKind, .string x.fOp.fPath, .string x.fOp.fTo, .int .i64 x.fOp.fAt, .string x.fOp.fText]) (toIntent_any x _) rfl rfl ?_
     intro w25 hb; replace HS := Bx.mk (HS.out.later hb); replace HS2 := Bx.mk (HS2.out.later hb); clear hb HF; clear a; intro a HF; refine ⟨HS.out, ?_⟩
     refine wh_one 4 (by kernel_rfl) ?_
     refine wo_call rfl rfl HF rfl (enter_of Tryz.func16 (by kernel_rfl) rfl) (args := #[u19, .agg #[.int .i64 x.fTxg, .int .i64 x.fSeq, .string x.fHead, .int .i64 x.fOp.fKind, .string x.fOp.fPath, .string x.fOp.fTo, .int .i64 x.fOp.fAt, .string x.fOp.fText]]) rfl (specIntW_own _ r x _ hft (RaidD.Own.rd (HS2.out.iv 0 rfl)) hf.n hfx) rfl rfl ?_
     rintro _ w27 ⟨u22, rfl, ho, hb⟩
     refine ⟨_, rfl, ?_⟩; replace HS := Bx.mk (HS.out.later hb); replace HS2 := Bx.mk (HS2.out.add (St.ivNew (loc := RaidD.Own.loc) ho hb)); clear ho hb HF; clear a; intro a HF; refine ⟨HS.out, ?_⟩
     obtain ⟨B23, C24, hh⟩ : ∃ B B1, St w0 ([ivA RaidD.Own RaidD.Own.loc B B1 u22 (intY r x), ivA RaidD.Own RaidD.Own.loc B20 C21 u19 r, boxA b18 1 34 (.agg #[.slice none 0 0]), boxA b2 8 50 (.agg #[.int .i64 x.fTxg, .int .i64 x.fSeq, .string x.fHead, .int .i64 x.fOp.fKind, .string x.fOp.fPath, .string x.fOp.fTo, .int .i64 x.fOp.fAt, .string x.fOp.fText]), boxA b1 1 24 (.agg #[.slice a0 ps.length c0])]) w27 := ⟨_, _, HS2.out⟩; replace HS2 := Bx.mk hh; clear hh
     refine wh_y 5 rfl (by kernel_rfl) (by kernel_rfl) (by kernel_rfl) (fun _ _ _ h => h) rfl HF rfl rfl (fun _ HS => (yl_move rfl (HF.ev rfl))) HS.out ?_; clear HF a; intro a HF
     refine wh_y 6 rfl (by kernel_rfl) (by kernel_rfl) (by kernel_rfl) (fun _ _ _ h => h) rfl HF rfl rfl (fun _ HS => (yl_extract rfl (HF.ev rfl) rfl)) HS.out ?_; clear HF a; intro a HF
     refine wh_y 7 rfl (by kernel_rfl) (by kernel_rfl) (by kernel_rfl) (fun _ _ _ h => h) rfl HF rfl rfl (fun _ HS => (yl_extract rfl (HF.ev rfl) rfl)) HS.out ?_; clear HF a; intro a HF
     refine wh_one 9 (by kernel_rfl) ?_
     refine wo_storeBox rfl rfl rfl rfl (HF.ev rfl) (HF.ev rfl) HS2.out 2 rfl (RaidD.Own.cells (HS2.out.iv 0 rfl)) (by kernel_rfl) ?_
     clear HS HS2; intro w28 HS2; replace HS2 : Bx (St w0 ([ivA RaidD.Own RaidD.Own.loc B23 C24 u22 (intY r x), ivA RaidD.Own RaidD.Own.loc B20 C21 u19 r, boxA b18 1 34 u22, boxA b2 8 50 (.agg #[.int .i64 x.fTxg, .int .i64 x.fSeq, .string x.fHead, .int .i64 x.fOp.fKind, .string x.fOp.fPath, .string x.fOp.fTo, .int .i64 x.fOp.fAt, .string x.fOp.fText]), boxA b1 1 24 (.agg #[.slice a0 ps.length c0])]) _) := ⟨HS2⟩
     have HS : Bx (St w0 ([boxA b2 8 50 (.agg #[.int .i64 x.fTxg, .int .i64 x.fSeq, .string x.fHead, .int .i64 x.fOp.fKind, .string x.fOp.fPath, .string x.fOp.fTo, .int .i64 x.fOp.fAt, .string x.fOp.fText]), boxA b1 1 24 (.agg #[.slice a0 ps.length c0])]) _) := ⟨(((HS2.out.erase 2).erase 1).erase 0)⟩; refine ⟨HS.out, ?_⟩
     refine wh_y 10 rfl (by kernel_rfl) (by kernel_rfl) (by kernel_rfl) (fun _ _ _ h => h) rfl HF rfl rfl (fun _ HS => (yl_assign rfl (HF.ev rfl))) HS.out ?_; clear HF a; intro a HF
     refine wh_done (by kernel_rfl) ?_
     replace HS := HS2; clear HS2
     replace HS : Bx (St w0 ([boxA b18 1 34 u22, ivA RaidD.Own RaidD.Own.loc B23 C24 u22 (intY r x), ivA RaidD.Own RaidD.Own.loc B20 C21 u19 r, boxA b2 8 50 (.agg #[.int .i64 x.fTxg, .int .i64 x.fSeq, .string x.fHead, .int .i64 x.fOp.fKind, .string x.fOp.fPath, .string x.fOp.fTo, .int .i64 x.fOp.fAt, .string x.fOp.fText]), boxA b1 1 24 (.agg #[.slice a0 ps.length c0])]) _) := ⟨(((((HS.out).pick 4 rfl).pick 4 rfl).pick 3 rfl).pick 3 rfl).pick 4 rfl⟩
     exact on_mk ⟨_, _, _, _, _, _, _, HF.less _ ⟨rfl, rfl, rfl, rfl, rfl, rfl, rfl, rfl, rfl, rfl, rfl, rfl, rfl, rfl, rfl, rfl, rfl, rfl, trivial⟩, HS.out⟩
   clear HF HS a; rintro a w29 ⟨b9, u6, B7, C8, B4, C5, u3, HF, HS⟩; replace HS := Bx.mk HS
   refine ex_then ?_
   refine wp_sr ?_
   refine wl_y rfl HF rfl rfl (yl_loadR (cs := [.slice a0 ps.length c0]) rfl (HF.ev rfl) ((HS.out.box 4 rfl).sub 0 1) (by kernel_rfl)) ?_; clear HF a; intro a HF
   refine wl_call rfl HF rfl (enter_of Tryz.func9 (by kernel_rfl) rfl) (args := #[.agg #[.slice a0 ps.length c0]]) rfl (toRaid_any _ r _ hf (HR.out.below HS.out.bel)) rfl rfl ?_
   rintro _ w30 ⟨u25, rfl, ho, hb⟩
   refine ⟨_, rfl, ?_⟩; replace HS := Bx.mk (HS.out.add (St.ivNew (loc := RaidD.Own.loc) ho hb)); clear ho hb HF; clear a; intro a HF
   obtain ⟨B26, C27, hh⟩ : ∃ B B1, St w0 ([ivA RaidD.Own RaidD.Own.loc B B1 u25 r, boxA b9 1 34 u6, ivA RaidD.Own RaidD.Own.loc B7 C8 u6 (intY r x), ivA RaidD.Own RaidD.Own.loc B4 C5 u3 r, boxA b2 8 50 (.agg #[.int .i64 x.fTxg, .int .i64 x.fSeq, .string x.fHead, .int .i64 x.fOp.fKind, .string x.fOp.fPath, .string x.fOp.fTo, .int .i64 x.fOp.fAt, .string x.fOp.fText]), boxA b1 1 24 (.agg #[.slice a0 ps.length c0])]) w30 := ⟨_, _, HS.out⟩; replace HS := Bx.mk hh; clear hh
   refine wl_alloc rfl HF rfl rfl rfl (Z := [.slice none 0 0]) (by kernel_rfl) rfl HS.out ?_; clear HF HS a; intro a w31 b28 HF HS; replace HS := Bx.mk HS
   refine wl_storeBox rfl HF rfl rfl (HF.ev rfl) (HF.ev rfl) HS.out 0 rfl (RaidD.Own.cells (HS.out.iv 1 rfl)) (by kernel_rfl) ?_; clear HS; intro w32 HS; replace HS := Bx.mk HS
   have HS : Bx (St w0 ([boxA b28 1 34 u25, ivA RaidD.Own RaidD.Own.loc B26 C27 u25 r, boxA b9 1 34 u6, ivA RaidD.Own RaidD.Own.loc B7 C8 u6 (intY r x), ivA RaidD.Own RaidD.Own.loc B4 C5 u3 r, boxA b2 8 50 (.agg #[.int .i64 x.fTxg, .int .i64 x.fSeq, .string x.fHead, .int .i64 x.fOp.fKind, .string x.fOp.fPath, .string x.fOp.fTo, .int .i64 x.fOp.fAt, .string x.fOp.fText]), boxA b1 1 24 (.agg #[.slice a0 ps.length c0])]) _) := HS
   refine wl_ne ?_
   refine wp_seq ?_
   refine wp_join (R := fun a w => ∃ (b32 : Nat) (u29 : Value) (B30 : Nat) (C31 : Nat), Fr 109 a [(0, .agg #[.slice a0 ps.length c0]), (1, .agg #[.int .i64 x.fTxg, .int .i64 x.fSeq, .string x.fHead, .int .i64 x.fOp.fKind, .string x.fOp.fPath, .string x.fOp.fTo, .int .i64 x.fOp.fAt, .string x.fOp.fText]), (2, .pointer (some ⟨b1, 0, none⟩)), (3, .pointer (some ⟨b2, 0, none⟩)), (4, .bool false), (5, .int .i64 (leftOf (leftOf 1048576 r.bulk) x.bulk)), (16, .agg #[.slice a0 ps.length c0]), (17, .int .i64 1048576), (18, .int .i64 (leftOf 1048576 r.bulk)), (19, .int .i64 (leftOf 1048576 r.bulk)), (20, .bool false), (21, .agg #[.int .i64 x.fTxg, .int .i64 x.fSeq, .string x.fHead, .int .i64 x.fOp.fKind, .string x.fOp.fPath, .string x.fOp.fTo, .int .i64 x.fOp.fAt, .string x.fOp.fText]), (22, .int .i64 (leftOf 1048576 r.bulk)), (23, .int .i64 (leftOf (leftOf 1048576 r.bulk) x.bulk)), (24, .int .i64 (leftOf (leftOf 1048576 r.bulk) x.bulk)), (25, .bool false), (6, .pointer (some ⟨b9, 0, none⟩)), (7, .bool (intY2 r x)), (34, .agg #[.slice a0 ps.length c0]), (35, u25), (8, .pointer (some ⟨b28, 0, none⟩)), (9, .pointer (some ⟨b32, 0, none⟩)), (10, .bool (intY2 r x))] ∧ St w0 ([boxA b32 1 34 u29, ivA RaidD.Own RaidD.Own.loc B30 C31 u29 (intY r x), boxA b28 1 34 u25, ivA RaidD.Own RaidD.Own.loc B26 C27 u25 r, boxA b9 1 34 u6, ivA RaidD.Own RaidD.Own.loc B7 C8 u6 (intY r x), ivA RaidD.Own RaidD.Own.loc B4 C5 u3 r, boxA b2 8 50 (.agg #[.int .i64 x.fTxg, .int .i64 x.fSeq, .string x.fHead, .int .i64 x.fOp.fKind, .string x.fOp.fPath, .string x.fOp.fTo, .int .i64 x.fOp.fAt, .string x.fOp.fText]), boxA b1 1 24 (.agg #[.slice a0 ps.length c0])]) w) ?_ ?_
   ·skip
    refine wr_heldS (s := [boxA b28 1 34 u25, ivA RaidD.Own RaidD.Own.loc B26 C27 u25 r, boxA b9 1 34 u6, ivA RaidD.Own RaidD.Own.loc B7 C8 u6 (intY r x), ivA RaidD.Own RaidD.Own.loc B4 C5 u3 r, boxA b2 8 50 (.agg #[.int .i64 x.fTxg, .int .i64 x.fSeq, .string x.fHead, .int .i64 x.fOp.fKind, .string x.fOp.fPath, .string x.fOp.fTo, .int .i64 x.fOp.fAt, .string x.fOp.fText]), boxA b1 1 24 (.agg #[.slice a0 ps.length c0])]) (by kernel_rfl) (St.drew (HS.out)) ?_
    have HS2 := Bx.mk HS.out.drew; replace HS := Bx.mk (show St w0 ([boxA b28 1 34 u25, ivA RaidD.Own RaidD.Own.loc B26 C27 u25 r, boxA b9 1 34 u6, ivA RaidD.Own RaidD.Own.loc B7 C8 u6 (intY r x), ivA RaidD.Own RaidD.Own.loc B4 C5 u3 r, boxA b2 8 50 (.agg #[.int .i64 x.fTxg, .int .i64 x.fSeq, .string x.fHead, .int .i64 x.fOp.fKind, .string x.fOp.fPath, .string x.fOp.fTo, .int .i64 x.fOp.fAt, .string x.fOp.fText]), boxA b1 1 24 (.agg #[.slice a0 ps.length c0])]) _ from HS.out.drew)
    generalize World.drew _ = w33 at HS HS2 ⊢
    refine wh_y 0 rfl (by kernel_rfl) (by kernel_rfl) (by kernel_rfl) (fun _ _ _ h => h) rfl HF rfl rfl (fun _ HS => (yl_loadB (v := u25) rfl (HF.ev rfl) (HS.box 0 rfl) (by kernel_rfl))) HS.out ?_; clear HF a; intro a HF
    refine wh_y 1 rfl (by kernel_rfl) (by kernel_rfl) (by kernel_rfl) (fun _ _ _ h => h) rfl HF rfl rfl (fun _ HS => (yl_loadR (cs := [.int .i64 x.fTxg, .int .i64 x.fSeq, .string x.fHead, .int .i64 x.fOp.fKind, .string x.fOp.fPath, .string x.fOp.fTo, .int .i64 x.fOp.fAt, .string x.fOp.fText]) rfl (HF.ev rfl) ((HS.box 5 rfl).sub 0 8) (by kernel_rfl))) HS.out ?_; clear HF a; intro a HF
    refine wh_two 2 7 (by kernel_rfl) ?_ ?_
    ·skip
     refine wo_callB rfl rfl HF rfl (enter_of Tryz.func17 (by kernel_rfl) rfl) (args := #[.agg #[.int .i64 x.fTxg, .int .i64 x.fSeq, .string x.fHead, .int .i64 x.fOp.fKind, .string x.fOp.fPath, .string x.fOp.fTo, .int .i64 x.fOp.fAt, .string x.fOp.fText]]) rfl (v := .agg #[.int .i64 x.fTxg, .int .i64 x.fSeq, .string x.fHead, .int .i64 x.fOp.fKind, .string x.fOp.fPath, .string x.fOp.fTo, .int .i64 x.fOp.fAt, .string x.fOp.fText]) (toIntent_any x _) rfl rfl ?_
     intro w34 hb; replace HS := Bx.mk (HS.out.later hb); replace HS2 := Bx.mk (HS2.out.later hb); clear hb HF; clear a; intro a HF; refine ⟨HS.out, ?_⟩
     refine wh_two 3 7 (by kernel_rfl) ?_ ?_
     ·skip
      refine wo_call rfl rfl HF rfl (enter_of Tryz.func18 (by kernel_rfl) rfl) (args := #[u25, .agg #[.int .i64 x.fTxg, .int .i64 x.fSeq, .string x.fHead, .int .i64 x.fOp.fKind, .string x.fOp.fPath, .string x.fOp.fTo, .int .i64 x.fOp.fAt, .string x.fOp.fText]]) rfl (implIntW_own _ r x _ hft (RaidD.Own.rd (HS2.out.iv 1 rfl)) hf.n hfx (HT.out.below HS2.out.bel) (HM.out.below HS2.out.bel)) rfl rfl ?_
      rintro _ w36 ⟨u29, rfl, ho, hb⟩
      refine ⟨_, rfl, ?_⟩; replace HS := Bx.mk (HS.out.later hb); replace HS2 := Bx.mk (HS2.out.add (St.ivNew (loc := RaidD.Own.loc) ho hb)); clear ho hb HF; clear a; intro a HF; refine ⟨HS.out, ?_⟩
      obtain ⟨B30, C31, hh⟩ : ∃ B B1, St w0 ([ivA RaidD.Own RaidD.Own.loc B B1 u29 (intY r x), boxA b28 1 34 u25, ivA RaidD.Own RaidD.Own.loc B26 C27 u25 r, boxA b9 1 34 u6, ivA RaidD.Own RaidD.Own.loc B7 C8 u6 (intY r x), ivA RaidD.Own RaidD.Own.loc B4 C5 u3 r, boxA b2 8 50 (.agg #[.int .i64 x.fTxg, .int .i64 x.fSeq, .string x.fHead, .int .i64 x.fOp.fKind, .string x.fOp.fPath, .string x.fOp.fTo, .int .i64 x.fOp.fAt, .string x.fOp.fText]), boxA b1 1 24 (.agg #[.slice a0 ps.length c0])]) w36 := ⟨_, _, HS2.out⟩; replace HS2 := Bx.mk hh; clear hh
      refine wh_y 4 rfl (by kernel_rfl) (by kernel_rfl) (by kernel_rfl) (fun _ _ _ h => h) rfl HF rfl rfl (fun _ HS => (yl_move rfl (HF.ev rfl))) HS.out ?_; clear HF a; intro a HF
      refine wh_y 5 rfl (by kernel_rfl) (by kernel_rfl) (by kernel_rfl) (fun _ _ _ h => h) rfl HF rfl rfl (fun _ HS => (yl_extract rfl (HF.ev rfl) rfl)) HS.out ?_; clear HF a; intro a HF
      refine wh_y 6 rfl (by kernel_rfl) (by kernel_rfl) (by kernel_rfl) (fun _ _ _ h => h) rfl HF rfl rfl (fun _ HS => (yl_extract rfl (HF.ev rfl) rfl)) HS.out ?_; clear HF a; intro a HF
      refine wh_one 7 (by kernel_rfl) ?_
      refine wo_alloc rfl rfl HF rfl rfl rfl (Z := [.slice none 0 0]) (by kernel_rfl) rfl HS2.out HS.out ?_; clear HF HS HS2 a; intro a w37 b32 HF HS2 HS; replace HS := Bx.mk HS; replace HS2 := Bx.mk HS2; refine ⟨HS.out, ?_⟩
      refine wh_one 8 (by kernel_rfl) ?_
      refine wo_storeBox rfl rfl rfl rfl (HF.ev rfl) (HF.ev rfl) HS2.out 0 rfl (RaidD.Own.cells (HS2.out.iv 1 rfl)) (by kernel_rfl) ?_
      clear HS HS2; intro w38 HS2; replace HS2 : Bx (St w0 ([boxA b32 1 34 u29, ivA RaidD.Own RaidD.Own.loc B30 C31 u29 (intY r x), boxA b28 1 34 u25, ivA RaidD.Own RaidD.Own.loc B26 C27 u25 r, boxA b9 1 34 u6, ivA RaidD.Own RaidD.Own.loc B7 C8 u6 (intY r x), ivA RaidD.Own RaidD.Own.loc B4 C5 u3 r, boxA b2 8 50 (.agg #[.int .i64 x.fTxg, .int .i64 x.fSeq, .string x.fHead, .int .i64 x.fOp.fKind, .string x.fOp.fPath, .string x.fOp.fTo, .int .i64 x.fOp.fAt, .string x.fOp.fText]), boxA b1 1 24 (.agg #[.slice a0 ps.length c0])]) _) := ⟨HS2⟩
      have HS : Bx (St w0 ([boxA b28 1 34 u25, ivA RaidD.Own RaidD.Own.loc B26 C27 u25 r, boxA b9 1 34 u6, ivA RaidD.Own RaidD.Own.loc B7 C8 u6 (intY r x), ivA RaidD.Own RaidD.Own.loc B4 C5 u3 r, boxA b2 8 50 (.agg #[.int .i64 x.fTxg, .int .i64 x.fSeq, .string x.fHead, .int .i64 x.fOp.fKind, .string x.fOp.fPath, .string x.fOp.fTo, .int .i64 x.fOp.fAt, .string x.fOp.fText]), boxA b1 1 24 (.agg #[.slice a0 ps.length c0])]) _) := ⟨((HS2.out.erase 1).erase 0)⟩; refine ⟨HS.out, ?_⟩
      refine wh_y 9 rfl (by kernel_rfl) (by kernel_rfl) (by kernel_rfl) (fun _ _ _ h => h) rfl HF rfl rfl (fun _ HS => (yl_assign rfl (HF.ev rfl))) HS.out ?_; clear HF a; intro a HF
      refine wh_done (by kernel_rfl) ?_
      replace HS := HS2; clear HS2
      exact on_mk ⟨_, _, _, _, HF.less _ ⟨rfl, rfl, rfl, rfl, rfl, rfl, rfl, rfl, rfl, rfl, rfl, rfl, rfl, rfl, rfl, rfl, rfl, rfl, rfl, rfl, rfl, rfl, rfl, trivial⟩, HS.out⟩
     ·skip
      refine wo_alloc rfl rfl HF rfl rfl rfl (Z := [.slice none 0 0]) (by kernel_rfl) rfl HS2.out HS.out ?_; clear HF HS HS2 a; intro a w39 b33 HF HS2 HS; replace HS := Bx.mk HS; replace HS2 := Bx.mk HS2; refine ⟨HS.out, ?_⟩
      refine wh_one 3 (by kernel_rfl) ?_
      refine wo_call rfl rfl HF rfl (enter_of Tryz.func18 (by kernel_rfl) rfl) (args := #[u25, .agg #[.int .i64 x.fTxg, .int .i64 x.fSeq, .string x.fHead, .int .i64 x.fOp.fKind, .string x.fOp.fPath, .string x.fOp.fTo, .int .i64 x.fOp.fAt, .string x.fOp.fText]]) rfl (implIntW_own _ r x _ hft (RaidD.Own.rd (HS2.out.iv 2 rfl)) hf.n hfx (HT.out.below HS2.out.bel) (HM.out.below HS2.out.bel)) rfl rfl ?_
      rintro _ w41 ⟨u34, rfl, ho, hb⟩
      refine ⟨_, rfl, ?_⟩; replace HS := Bx.mk (HS.out.later hb); replace HS2 := Bx.mk (HS2.out.add (St.ivNew (loc := RaidD.Own.loc) ho hb)); clear ho hb HF; clear a; intro a HF; refine ⟨HS.out, ?_⟩
      obtain ⟨B35, C36, hh⟩ : ∃ B B1, St w0 ([ivA RaidD.Own RaidD.Own.loc B B1 u34 (intY r x), boxA b33 1 34 (.agg #[.slice none 0 0]), boxA b28 1 34 u25, ivA RaidD.Own RaidD.Own.loc B26 C27 u25 r, boxA b9 1 34 u6, ivA RaidD.Own RaidD.Own.loc B7 C8 u6 (intY r x), ivA RaidD.Own RaidD.Own.loc B4 C5 u3 r, boxA b2 8 50 (.agg #[.int .i64 x.fTxg, .int .i64 x.fSeq, .string x.fHead, .int .i64 x.fOp.fKind, .string x.fOp.fPath, .string x.fOp.fTo, .int .i64 x.fOp.fAt, .string x.fOp.fText]), boxA b1 1 24 (.agg #[.slice a0 ps.length c0])]) w41 := ⟨_, _, HS2.out⟩; replace HS2 := Bx.mk hh; clear hh
      refine wh_y 4 rfl (by kernel_rfl) (by kernel_rfl) (by kernel_rfl) (fun _ _ _ h => h) rfl HF rfl rfl (fun _ HS => (yl_move rfl (HF.ev rfl))) HS.out ?_; clear HF a; intro a HF
      refine wh_y 5 rfl (by kernel_rfl) (by kernel_rfl) (by kernel_rfl) (fun _ _ _ h => h) rfl HF rfl rfl (fun _ HS => (yl_extract rfl (HF.ev rfl) rfl)) HS.out ?_; clear HF a; intro a HF
      refine wh_y 6 rfl (by kernel_rfl) (by kernel_rfl) (by kernel_rfl) (fun _ _ _ h => h) rfl HF rfl rfl (fun _ HS => (yl_extract rfl (HF.ev rfl) rfl)) HS.out ?_; clear HF a; intro a HF
      refine wh_one 8 (by kernel_rfl) ?_
      refine wo_storeBox rfl rfl rfl rfl (HF.ev rfl) (HF.ev rfl) HS2.out 1 rfl (RaidD.Own.cells (HS2.out.iv 0 rfl)) (by kernel_rfl) ?_
      clear HS HS2; intro w42 HS2; replace HS2 : Bx (St w0 ([ivA RaidD.Own RaidD.Own.loc B35 C36 u34 (intY r x), boxA b33 1 34 u34, boxA b28 1 34 u25, ivA RaidD.Own RaidD.Own.loc B26 C27 u25 r, boxA b9 1 34 u6, ivA RaidD.Own RaidD.Own.loc B7 C8 u6 (intY r x), ivA RaidD.Own RaidD.Own.loc B4 C5 u3 r, boxA b2 8 50 (.agg #[.int .i64 x.fTxg, .int .i64 x.fSeq, .string x.fHead, .int .i64 x.fOp.fKind, .string x.fOp.fPath, .string x.fOp.fTo, .int .i64 x.fOp.fAt, .string x.fOp.fText]), boxA b1 1 24 (.agg #[.slice a0 ps.length c0])]) _) := ⟨HS2⟩
      have HS : Bx (St w0 ([boxA b28 1 34 u25, ivA RaidD.Own RaidD.Own.loc B26 C27 u25 r, boxA b9 1 34 u6, ivA RaidD.Own RaidD.Own.loc B7 C8 u6 (intY r x), ivA RaidD.Own RaidD.Own.loc B4 C5 u3 r, boxA b2 8 50 (.agg #[.int .i64 x.fTxg, .int .i64 x.fSeq, .string x.fHead, .int .i64 x.fOp.fKind, .string x.fOp.fPath, .string x.fOp.fTo, .int .i64 x.fOp.fAt, .string x.fOp.fText]), boxA b1 1 24 (.agg #[.slice a0 ps.length c0])]) _) := ⟨((HS2.out.erase 1).erase 0)⟩; refine ⟨HS.out, ?_⟩
      refine wh_y 9 rfl (by kernel_rfl) (by kernel_rfl) (by kernel_rfl) (fun _ _ _ h => h) rfl HF rfl rfl (fun _ HS => (yl_assign rfl (HF.ev rfl))) HS.out ?_; clear HF a; intro a HF
      refine wh_done (by kernel_rfl) ?_
      replace HS := HS2; clear HS2
      replace HS : Bx (St w0 ([boxA b33 1 34 u34, ivA RaidD.Own RaidD.Own.loc B35 C36 u34 (intY r x), boxA b28 1 34 u25, ivA RaidD.Own RaidD.Own.loc B26 C27 u25 r, boxA b9 1 34 u6, ivA RaidD.Own RaidD.Own.loc B7 C8 u6 (intY r x), ivA RaidD.Own RaidD.Own.loc B4 C5 u3 r, boxA b2 8 50 (.agg #[.int .i64 x.fTxg, .int .i64 x.fSeq, .string x.fHead, .int .i64 x.fOp.fKind, .string x.fOp.fPath, .string x.fOp.fTo, .int .i64 x.fOp.fAt, .string x.fOp.fText]), boxA b1 1 24 (.agg #[.slice a0 ps.length c0])]) _) := ⟨(((((((((HS.out).pick 8 rfl).pick 8 rfl).pick 8 rfl).pick 8 rfl).pick 8 rfl).pick 8 rfl).pick 8 rfl).pick 7 rfl).pick 8 rfl⟩
      exact on_mk ⟨_, _, _, _, HF.less _ ⟨rfl, rfl, rfl, rfl, rfl, rfl, rfl, rfl, rfl, rfl, rfl, rfl, rfl, rfl, rfl, rfl, rfl, rfl, rfl, rfl, rfl, rfl, rfl, trivial⟩, HS.out⟩
    ·skip
     refine wo_alloc rfl rfl HF rfl rfl rfl (Z := [.slice none 0 0]) (by kernel_rfl) rfl HS2.out HS.out ?_; clear HF HS HS2 a; intro a w43 b37 HF HS2 HS; replace HS := Bx.mk HS; replace HS2 := Bx.mk HS2; refine ⟨HS.out, ?_⟩
     refine wh_one 2 (by kernel_rfl) ?_
     refine wo_callB rfl rfl HF rfl (enter_of Tryz.func17 (by kernel_rfl) rfl) (args := #[.agg #[.int .i64 x.fTxg, .int .i64 x.fSeq, .string x.fHead, .int .i64 x.fOp.fKind, .string x.fOp.fPath, .string x.fOp.fTo, .int .i64 x.fOp.fAt, .string x.fOp.fText]]) rfl (v := .agg #[.int .i64 x.fTxg, .int .i64 x.fSeq, .string x.fHead, .int .i64 x.fOp.fKind, .string x.fOp.fPath, .string x.fOp.fTo, .int .i64 x.fOp.fAt, .string x.fOp.fText]) (toIntent_any x _) rfl rfl ?_
     intro w44 hb; replace HS := Bx.mk (HS.out.later hb); replace HS2 := Bx.mk (HS2.out.later hb); clear hb HF; clear a; intro a HF; refine ⟨HS.out, ?_⟩
     refine wh_one 3 (by kernel_rfl) ?_
     refine wo_call rfl rfl HF rfl (enter_of Tryz.func18 (by kernel_rfl) rfl) (args := #[u25, .agg #[.int .i64 x.fTxg, .int .i64 x.fSeq, .string x.fHead, .int .i64 x.fOp.fKind, .string x.fOp.fPath, .string x.fOp.fTo, .int .i64 x.fOp.fAt, .string x.fOp.fText]]) rfl (implIntW_own _ r x _ hft (RaidD.Own.rd (HS2.out.iv 2 rfl)) hf.n hfx (HT.out.below HS2.out.bel) (HM.out.below HS2.out.bel)) rfl rfl ?_
     rintro _ w46 ⟨u38, rfl, ho, hb⟩
     refine ⟨_, rfl, ?_⟩; replace HS := Bx.mk (HS.out.later hb); replace HS2 := Bx.mk (HS2.out.add (St.ivNew (loc := RaidD.Own.loc) ho hb)); clear ho hb HF; clear a; intro a HF; refine ⟨HS.out, ?_⟩
     obtain ⟨B39, C40, hh⟩ : ∃ B B1, St w0 ([ivA RaidD.Own RaidD.Own.loc B B1 u38 (intY r x), boxA b37 1 34 (.agg #[.slice none 0 0]), boxA b28 1 34 u25, ivA RaidD.Own RaidD.Own.loc B26 C27 u25 r, boxA b9 1 34 u6, ivA RaidD.Own RaidD.Own.loc B7 C8 u6 (intY r x), ivA RaidD.Own RaidD.Own.loc B4 C5 u3 r, boxA b2 8 50 (.agg #[.int .i64 x.fTxg, .int .i64 x.fSeq, .string x.fHead, .int .i64 x.fOp.fKind, .string x.fOp.fPath, .string x.fOp.fTo, .int .i64 x.fOp.fAt, .string x.fOp.fText]), boxA b1 1 24 (.agg #[.slice a0 ps.length c0])]) w46 := ⟨_, _, HS2.out⟩; replace HS2 := Bx.mk hh; clear hh
     refine wh_y 4 rfl (by kernel_rfl) (by kernel_rfl) (by kernel_rfl) (fun _ _ _ h => h) rfl HF rfl rfl (fun _ HS => (yl_move rfl (HF.ev rfl))) HS.out ?_; clear HF a; intro a HF
     refine wh_y 5 rfl (by kernel_rfl) (by kernel_rfl) (by kernel_rfl) (fun _ _ _ h => h) rfl HF rfl rfl (fun _ HS => (yl_extract rfl (HF.ev rfl) rfl)) HS.out ?_; clear HF a; intro a HF
     refine wh_y 6 rfl (by kernel_rfl) (by kernel_rfl) (by kernel_rfl) (fun _ _ _ h => h) rfl HF rfl rfl (fun _ HS => (yl_extract rfl (HF.ev rfl) rfl)) HS.out ?_; clear HF a; intro a HF
     refine wh_one 8 (by kernel_rfl) ?_
     refine wo_storeBox rfl rfl rfl rfl (HF.ev rfl) (HF.ev rfl) HS2.out 1 rfl (RaidD.Own.cells (HS2.out.iv 0 rfl)) (by kernel_rfl) ?_
     clear HS HS2; intro w47 HS2; replace HS2 : Bx (St w0 ([ivA RaidD.Own RaidD.Own.loc B39 C40 u38 (intY r x), boxA b37 1 34 u38, boxA b28 1 34 u25, ivA RaidD.Own RaidD.Own.loc B26 C27 u25 r, boxA b9 1 34 u6, ivA RaidD.Own RaidD.Own.loc B7 C8 u6 (intY r x), ivA RaidD.Own RaidD.Own.loc B4 C5 u3 r, boxA b2 8 50 (.agg #[.int .i64 x.fTxg, .int .i64 x.fSeq, .string x.fHead, .int .i64 x.fOp.fKind, .string x.fOp.fPath, .string x.fOp.fTo, .int .i64 x.fOp.fAt, .string x.fOp.fText]), boxA b1 1 24 (.agg #[.slice a0 ps.length c0])]) _) := ⟨HS2⟩
     have HS : Bx (St w0 ([boxA b28 1 34 u25, ivA RaidD.Own RaidD.Own.loc B26 C27 u25 r, boxA b9 1 34 u6, ivA RaidD.Own RaidD.Own.loc B7 C8 u6 (intY r x), ivA RaidD.Own RaidD.Own.loc B4 C5 u3 r, boxA b2 8 50 (.agg #[.int .i64 x.fTxg, .int .i64 x.fSeq, .string x.fHead, .int .i64 x.fOp.fKind, .string x.fOp.fPath, .string x.fOp.fTo, .int .i64 x.fOp.fAt, .string x.fOp.fText]), boxA b1 1 24 (.agg #[.slice a0 ps.length c0])]) _) := ⟨((HS2.out.erase 1).erase 0)⟩; refine ⟨HS.out, ?_⟩
     refine wh_y 9 rfl (by kernel_rfl) (by kernel_rfl) (by kernel_rfl) (fun _ _ _ h => h) rfl HF rfl rfl (fun _ HS => (yl_assign rfl (HF.ev rfl))) HS.out ?_; clear HF a; intro a HF
     refine wh_done (by kernel_rfl) ?_
     replace HS := HS2; clear HS2
     replace HS : Bx (St w0 ([boxA b37 1 34 u38, ivA RaidD.Own RaidD.Own.loc B39 C40 u38 (intY r x), boxA b28 1 34 u25, ivA RaidD.Own RaidD.Own.loc B26 C27 u25 r, boxA b9 1 34 u6, ivA RaidD.Own RaidD.Own.loc B7 C8 u6 (intY r x), ivA RaidD.Own RaidD.Own.loc B4 C5 u3 r, boxA b2 8 50 (.agg #[.int .i64 x.fTxg, .int .i64 x.fSeq, .string x.fHead, .int .i64 x.fOp.fKind, .string x.fOp.fPath, .string x.fOp.fTo, .int .i64 x.fOp.fAt, .string x.fOp.fText]), boxA b1 1 24 (.agg #[.slice a0 ps.length c0])]) _) := ⟨(((((((((HS.out).pick 8 rfl).pick 8 rfl).pick 8 rfl).pick 8 rfl).pick 8 rfl).pick 8 rfl).pick 8 rfl).pick 7 rfl).pick 8 rfl⟩
     exact on_mk ⟨_, _, _, _, HF.less _ ⟨rfl, rfl, rfl, rfl, rfl, rfl, rfl, rfl, rfl, rfl, rfl, rfl, rfl, rfl, rfl, rfl, rfl, rfl, rfl, rfl, rfl, rfl, rfl, trivial⟩, HS.out⟩
   clear HF HS a; rintro a w48 ⟨b32, u29, B30, C31, HF, HS⟩; replace HS := Bx.mk HS
   refine ex_then ?_
   refine wp_seq ?_
   refine wp_sr ?_
   refine wl_y rfl HF rfl rfl (yl_loadB (v := u29) rfl (HF.ev rfl) (HS.out.box 0 rfl) (by kernel_rfl)) ?_; clear HF a; intro a HF
   refine wl_y rfl HF rfl rfl (yl_loadB (v := u6) rfl (HF.ev rfl) (HS.out.box 4 rfl) (by kernel_rfl)) ?_; clear HF a; intro a HF
   refine wl_callB rfl HF rfl (enter_of Tryz.func12 (by kernel_rfl) rfl) (args := #[u29, u6]) rfl (v := .bool true) (eqRaid_yes _ _ (intY r x) _ hfy (RaidD.Own.rd (HS.out.iv 1 rfl)) (RaidD.Own.rd (HS.out.iv 5 rfl))) rfl rfl HS.out ?_; clear HF HS a; intro w49 a HS HF; replace HS := Bx.mk HS
   refine wl_y rfl HF rfl rfl (yl_not rfl (HF.ev rfl)) ?_; clear HF a; intro a HF
   refine wl_mv HF rfl rfl rfl rfl rfl ?_; clear HF a; intro a HF
   refine wl_yg HF rfl rfl rfl rfl rfl (yl_move rfl (HF.ev rfl)) ?_; clear HF a; intro a HF
   refine wl_yg HF rfl rfl rfl rfl rfl (yl_move rfl (HF.ev rfl)) ?_; clear HF a; intro a HF
   refine wl_yg HF rfl rfl rfl rfl rfl (yl_neqBs rfl (HF.ev rfl) (HF.ev rfl) (by kernel_rfl)) ?_; clear HF a; intro a HF
   refine wl_y rfl HF rfl rfl (yl_pick_f rfl (HF.ev rfl) (HF.ev rfl)) ?_; clear HF a; intro a HF
   refine wl_ne ?_
   refine wc_false HF rfl ?_
   refine wp_skip ?_
   refine ex_then ?_
   refine wp_seq ?_
   refine wp_seq ?_
   refine wr_heldS (s := [boxA b32 1 34 u29, ivA RaidD.Own RaidD.Own.loc B30 C31 u29 (intY r x), boxA b28 1 34 u25, ivA RaidD.Own RaidD.Own.loc B26 C27 u25 r, boxA b9 1 34 u6, ivA RaidD.Own RaidD.Own.loc B7 C8 u6 (intY r x), ivA RaidD.Own RaidD.Own.loc B4 C5 u3 r, boxA b2 8 50 (.agg #[.int .i64 x.fTxg, .int .i64 x.fSeq, .string x.fHead, .int .i64 x.fOp.fKind, .string x.fOp.fPath, .string x.fOp.fTo, .int .i64 x.fOp.fAt, .string x.fOp.fText]), boxA b1 1 24 (.agg #[.slice a0 ps.length c0])]) (by kernel_rfl) (St.drew (HS.out)) ?_
   have HS2 := Bx.mk HS.out.drew; replace HS := Bx.mk (show St w0 ([boxA b32 1 34 u29, ivA RaidD.Own RaidD.Own.loc B30 C31 u29 (intY r x), boxA b28 1 34 u25, ivA RaidD.Own RaidD.Own.loc B26 C27 u25 r, boxA b9 1 34 u6, ivA RaidD.Own RaidD.Own.loc B7 C8 u6 (intY r x), ivA RaidD.Own RaidD.Own.loc B4 C5 u3 r, boxA b2 8 50 (.agg #[.int .i64 x.fTxg, .int .i64 x.fSeq, .string x.fHead, .int .i64 x.fOp.fKind, .string x.fOp.fPath, .string x.fOp.fTo, .int .i64 x.fOp.fAt, .string x.fOp.fText]), boxA b1 1 24 (.agg #[.slice a0 ps.length c0])]) _ from HS.out.drew)
   generalize World.drew _ = w50 at HS HS2 ⊢
   refine wh_y 0 rfl (by kernel_rfl) (by kernel_rfl) (by kernel_rfl) (fun _ _ _ h => h) rfl HF rfl rfl (fun _ HS => (yl_loadB (v := u25) rfl (HF.ev rfl) (HS.box 2 rfl) (by kernel_rfl))) HS.out ?_; clear HF a; intro a HF
   refine wh_y 1 rfl (by kernel_rfl) (by kernel_rfl) (by kernel_rfl) (fun _ _ _ h => h) rfl HF rfl rfl (fun _ HS => (yl_loadR (cs := [.slice a0 ps.length c0]) rfl (HF.ev rfl) ((HS.box 8 rfl).sub 0 1) (by kernel_rfl))) HS.out ?_; clear HF a; intro a HF
   refine wh_one 2 (by kernel_rfl) ?_
   refine wo_call rfl rfl HF rfl (enter_of Tryz.func9 (by kernel_rfl) rfl) (args := #[.agg #[.slice a0 ps.length c0]]) rfl (toRaid_any _ r _ hf (HR.out.below HS.out.bel)) rfl rfl ?_
   rintro _ w52 ⟨u41, rfl, ho, hb⟩
   refine ⟨_, rfl, ?_⟩; replace HS := Bx.mk (HS.out.later hb); replace HS2 := Bx.mk (HS2.out.add (St.ivNew (loc := RaidD.Own.loc) ho hb)); clear ho hb HF; clear a; intro a HF; refine ⟨HS.out, ?_⟩
   obtain ⟨B42, C43, hh⟩ : ∃ B B1, St w0 ([ivA RaidD.Own RaidD.Own.loc B B1 u41 r, boxA b32 1 34 u29, ivA RaidD.Own RaidD.Own.loc B30 C31 u29 (intY r x), boxA b28 1 34 u25, ivA RaidD.Own RaidD.Own.loc B26 C27 u25 r, boxA b9 1 34 u6, ivA RaidD.Own RaidD.Own.loc B7 C8 u6 (intY r x), ivA RaidD.Own RaidD.Own.loc B4 C5 u3 r, boxA b2 8 50 (.agg #[.int .i64 x.fTxg, .int .i64 x.fSeq, .string x.fHead, .int .i64 x.fOp.fKind, .string x.fOp.fPath, .string x.fOp.fTo, .int .i64 x.fOp.fAt, .string x.fOp.fText]), boxA b1 1 24 (.agg #[.slice a0 ps.length c0])]) w52 := ⟨_, _, HS2.out⟩; replace HS2 := Bx.mk hh; clear hh
   refine wh_one 3 (by kernel_rfl) ?_
   refine wo_callB rfl rfl HF rfl (enter_of Tryz.func12 (by kernel_rfl) rfl) (args := #[u25, u41]) rfl (v := .bool true) (eqRaid_yes _ _ r _ hf (RaidD.Own.rd (HS2.out.iv 4 rfl)) (RaidD.Own.rd (HS2.out.iv 0 rfl))) rfl rfl ?_
   intro w53 hb; replace HS := Bx.mk (HS.out.later hb); replace HS2 := Bx.mk (HS2.out.later hb); clear hb HF; clear a; intro a HF; refine ⟨HS.out, ?_⟩
   refine wh_y 4 rfl (by kernel_rfl) (by kernel_rfl) (by kernel_rfl) (fun _ _ _ h => h) rfl HF rfl rfl (fun _ HS => (yl_not rfl (HF.ev rfl))) HS.out ?_; clear HF a; intro a HF
   refine wh_done (by kernel_rfl) ?_
   replace HS := HS2; clear HS2
   refine ex_then ?_
   refine wc_false HF rfl ?_
   refine wp_skip ?_
   refine ex_then ?_
   refine wp_sr ?_
   refine wl_as HF rfl rfl rfl rfl rfl ?_; clear HF a; intro a HF
   refine wl_ne ?_
   refine wp_sr ?_
   refine wl_y rfl HF rfl rfl (yl_loadB (v := u25) rfl (HF.ev rfl) (HS.out.box 3 rfl) (by kernel_rfl)) ?_; clear HF a; intro a HF
   refine wl_mv HF rfl rfl rfl rfl rfl ?_; clear HF a; intro a HF
   refine wl_call rfl HF rfl (enter_of Tryz.func13 (by kernel_rfl) rfl) (args := #[u25, .int .i64 1]) rfl (markRaid_any _ r _ _ 1 _ (by omega) (by omega) hf (HS.out.iv 4 rfl) (HS.out.ivLe 4 rfl) (HS.out.ivB 4 rfl)) rfl rfl ?_
   rintro _ w54 ⟨rfl, ho, hO⟩; refine ⟨_, rfl, ?_⟩; replace HS := Bx.mk (HS.out.ivMark 4 rfl ho hO); clear ho hO HF; clear a; intro a HF
   have HS : Bx (St w0 ([ivA RaidD.Own RaidD.Own.loc B42 C43 u41 r, boxA b32 1 34 u29, ivA RaidD.Own RaidD.Own.loc B30 C31 u29 (intY r x), boxA b28 1 34 u25, ivA RaidD.Own RaidD.Own.loc B26 C27 u25 (r.marked 1), boxA b9 1 34 u6, ivA RaidD.Own RaidD.Own.loc B7 C8 u6 (intY r x), ivA RaidD.Own RaidD.Own.loc B4 C5 u3 r, boxA b2 8 50 (.agg #[.int .i64 x.fTxg, .int .i64 x.fSeq, .string x.fHead, .int .i64 x.fOp.fKind, .string x.fOp.fPath, .string x.fOp.fTo, .int .i64 x.fOp.fAt, .string x.fOp.fText]), boxA b1 1 24 (.agg #[.slice a0 ps.length c0])]) _) := HS
   have hpast := RaidD.past_pos1 r
   refine wl_as HF rfl rfl rfl rfl rfl ?_; clear HF a; intro a HF
   refine wl_ne ?_
   refine wp_seq ?_
   refine wp_sr ?_
   refine wl_mv HF rfl rfl rfl rfl rfl ?_; clear HF a; intro a HF
   refine wl_y rfl HF rfl rfl (yl_lssI rfl (HF.ev rfl) (HF.ev rfl)) ?_; clear HF a; intro a HF
   refine wl_mv HF rfl rfl rfl rfl rfl ?_; clear HF a; intro a HF
   refine HF.cases 62 rfl (fun cc3 HF1 => ?_) (fun cc3 HF1 => ?_)
   ·clear HF; have HF := HF1; clear HF1
    exact absurd (of_decide_eq_true cc3) (by omega)
   ·clear HF; have HF := HF1; clear HF1
    refine wl_yg HF rfl rfl rfl rfl rfl (yl_loadB (v := u29) rfl (HF.ev rfl) (HS.out.box 1 rfl) (by kernel_rfl)) ?_; clear HF a; intro a HF
    refine wl_yg HF rfl rfl rfl rfl rfl (yl_loadB (v := u6) rfl (HF.ev rfl) (HS.out.box 5 rfl) (by kernel_rfl)) ?_; clear HF a; intro a HF
    refine wl_callBg HF rfl rfl rfl rfl (enter_of Tryz.func12 (by kernel_rfl) rfl) (args := #[u29, u6]) rfl (v := .bool true) (eqRaid_yes _ _ (intY r x) _ hfy (RaidD.Own.rd (HS.out.iv 2 rfl)) (RaidD.Own.rd (HS.out.iv 6 rfl))) rfl rfl HS.out ?_; clear HF HS a; intro w55 a HS HF; replace HS := Bx.mk HS
    refine wl_yg HF rfl rfl rfl rfl rfl (yl_not rfl (HF.ev rfl)) ?_; clear HF a; intro a HF
    refine wl_y rfl HF rfl rfl (yl_pick_f rfl (HF.ev rfl) (HF.ev rfl)) ?_; clear HF a; intro a HF
    refine wl_mv HF rfl rfl rfl rfl rfl ?_; clear HF a; intro a HF
    refine wl_yg HF rfl rfl rfl rfl rfl (yl_move rfl (HF.ev rfl)) ?_; clear HF a; intro a HF
    refine wl_yg HF rfl rfl rfl rfl rfl (yl_move rfl (HF.ev rfl)) ?_; clear HF a; intro a HF
    refine wl_yg HF rfl rfl rfl rfl rfl (yl_neqBs rfl (HF.ev rfl) (HF.ev rfl) (by kernel_rfl)) ?_; clear HF a; intro a HF
    refine wl_y rfl HF rfl rfl (yl_pick_f rfl (HF.ev rfl) (HF.ev rfl)) ?_; clear HF a; intro a HF
    refine wl_ne ?_
    refine wc_false HF rfl ?_
    refine wp_skip ?_
    refine ex_then ?_
    refine wp_sr ?_
    refine wl_as HF rfl rfl rfl rfl rfl ?_; clear HF a; intro a HF
    refine wl_ne ?_
    refine wp_sr ?_
    refine wl_y rfl HF rfl rfl (yl_loadB (v := u29) rfl (HF.ev rfl) (HS.out.box 1 rfl) (by kernel_rfl)) ?_; clear HF a; intro a HF
    refine wl_mv HF rfl rfl rfl rfl rfl ?_; clear HF a; intro a HF
    refine wl_call rfl HF rfl (enter_of Tryz.func13 (by kernel_rfl) rfl) (args := #[u29, .int .i64 1]) rfl (markRaid_any _ (intY r x) _ _ 1 _ (by omega) (by omega) hfy (HS.out.iv 2 rfl) (HS.out.ivLe 2 rfl) (HS.out.ivB 2 rfl)) rfl rfl ?_
    rintro _ w56 ⟨rfl, ho, hO⟩; refine ⟨_, rfl, ?_⟩; replace HS := Bx.mk (HS.out.ivMark 2 rfl ho hO); clear ho hO HF; clear a; intro a HF
    have HS : Bx (St w0 ([ivA RaidD.Own RaidD.Own.loc B42 C43 u41 r, boxA b32 1 34 u29, ivA RaidD.Own RaidD.Own.loc B30 C31 u29 ((intY r x).marked 1), boxA b28 1 34 u25, ivA RaidD.Own RaidD.Own.loc B26 C27 u25 (r.marked 1), boxA b9 1 34 u6, ivA RaidD.Own RaidD.Own.loc B7 C8 u6 (intY r x), ivA RaidD.Own RaidD.Own.loc B4 C5 u3 r, boxA b2 8 50 (.agg #[.int .i64 x.fTxg, .int .i64 x.fSeq, .string x.fHead, .int .i64 x.fOp.fKind, .string x.fOp.fPath, .string x.fOp.fTo, .int .i64 x.fOp.fAt, .string x.fOp.fText]), boxA b1 1 24 (.agg #[.slice a0 ps.length c0])]) _) := HS
    have hpast := RaidD.past_pos1 (intY r x)
    refine wl_as HF rfl rfl rfl rfl rfl ?_; clear HF a; intro a HF
    refine wl_ne ?_
    refine wp_sr ?_
    refine wl_as HF rfl rfl rfl rfl rfl ?_; clear HF a; intro a HF
    refine wl_ne ?_
    refine wp_sr ?_
    refine wl_y rfl HF rfl rfl (yl_loadB (v := u29) rfl (HF.ev rfl) (HS.out.box 1 rfl) (by kernel_rfl)) ?_; clear HF a; intro a HF
    refine wl_mv HF rfl rfl rfl rfl rfl ?_; clear HF a; intro a HF
    refine wl_callB rfl HF rfl (enter_of Tryz.func14 (by kernel_rfl) rfl) (args := #[u29, .int .i64 1]) rfl (v := .int .i64 ((intY r x).past 1)) (heldRaid_any _ (intY r x) 1 _ (by omega) (by omega) hfy (RaidD.Own.rd (HS.out.iv 2 rfl))) rfl rfl HS.out ?_; clear HF HS a; intro w57 a HS HF; replace HS := Bx.mk HS
    refine wl_as HF rfl rfl rfl rfl rfl ?_; clear HF a; intro a HF
    refine wl_ne ?_
    refine wp_seq ?_
    refine wp_sr ?_
    refine wl_mv HF rfl rfl rfl rfl rfl ?_; clear HF a; intro a HF
    refine wl_y rfl HF rfl rfl (yl_lssI rfl (HF.ev rfl) (HF.ev rfl)) ?_; clear HF a; intro a HF
    refine wl_ne ?_
    refine HF.cases 80 rfl (fun cc4 HF1 => ?_) (fun cc4 HF1 => ?_)
    ·clear HF; have HF := HF1; clear HF1
     exact absurd (of_decide_eq_true cc4) (by omega)
    ·clear HF; have HF := HF1; clear HF1
     refine wc_false HF rfl ?_
     refine wp_skip ?_
     refine ex_then ?_
     refine wp_seq ?_
     refine wp_sr ?_
     refine wl_mv HF rfl rfl rfl rfl rfl ?_; clear HF a; intro a HF
     refine wl_mv HF rfl rfl rfl rfl rfl ?_; clear HF a; intro a HF
     refine wl_y rfl HF rfl rfl (yl_neqI rfl (HF.ev rfl) (HF.ev rfl)) ?_; clear HF a; intro a HF
     refine wl_ne ?_
     refine HF.cases 83 rfl (fun cc5 HF1 => ?_) (fun cc5 HF1 => ?_)
     ·clear HF; have HF := HF1; clear HF1
      exact absurd cc5 (by simp)
     ·clear HF; have HF := HF1; clear HF1
      refine wc_false HF rfl ?_
      refine wp_skip ?_
      refine ex_then ?_
      refine wp_seq ?_
      refine wp_join (R := fun a w => ∃ (b50 : Nat) (u47 : Value) (B48 : Nat) (C49 : Nat) (B45 : Nat) (C46 : Nat) (u44 : Value), Fr 109 a [(0, .agg #[.slice a0 ps.length c0]), (1, .agg #[.int .i64 x.fTxg, .int .i64 x.fSeq, .string x.fHead, .int .i64 x.fOp.fKind, .string x.fOp.fPath, .string x.fOp.fTo, .int .i64 x.fOp.fAt, .string x.fOp.fText]), (2, .pointer (some ⟨b1, 0, none⟩)), (3, .pointer (some ⟨b2, 0, none⟩)), (4, .bool false), (5, .int .i64 (leftOf (leftOf 1048576 r.bulk) x.bulk)), (16, .agg #[.slice a0 ps.length c0]), (17, .int .i64 1048576), (18, .int .i64 (leftOf 1048576 r.bulk)), (19, .int .i64 (leftOf 1048576 r.bulk)), (20, .bool false), (21, .agg #[.int .i64 x.fTxg, .int .i64 x.fSeq, .string x.fHead, .int .i64 x.fOp.fKind, .string x.fOp.fPath, .string x.fOp.fTo, .int .i64 x.fOp.fAt, .string x.fOp.fText]), (22, .int .i64 (leftOf 1048576 r.bulk)), (23, .int .i64 (leftOf (leftOf 1048576 r.bulk) x.bulk)), (24, .int .i64 (leftOf (leftOf 1048576 r.bulk) x.bulk)), (25, .bool false), (6, .pointer (some ⟨b9, 0, none⟩)), (7, .bool (intY2 r x)), (34, .agg #[.slice a0 ps.length c0]), (35, u25), (8, .pointer (some ⟨b28, 0, none⟩)), (9, .pointer (some ⟨b32, 0, none⟩)), (10, .bool (intY2 r x)), (43, u29), (44, u6), (45, .bool true), (46, .bool false), (47, .bool false), (48, .bool (intY2 r x)), (49, .bool (intY2 r x)), (50, .bool false), (51, .bool false), (52, u25), (53, .agg #[.slice a0 ps.length c0]), (54, u41), (55, .bool true), (56, .bool false), (11, .int .i64 (r.past 1)), (57, u25), (58, .int .i64 1), (59, .int .i64 (r.past 1)), (60, .int .i64 (r.past 1)), (61, .bool (decide ((r.past 1) < 0))), (62, .bool false), (63, u29), (64, u6), (65, .bool true), (66, .bool false), (67, .bool false), (68, .bool false), (69, .bool (intY2 r x)), (70, .bool (intY2 r x)), (71, .bool false), (72, .bool false), (12, .int .i64 ((intY r x).past 1)), (73, u29), (74, .int .i64 1), (75, .int .i64 ((intY r x).past 1)), (13, .int .i64 ((intY r x).past 1)), (76, u29), (77, .int .i64 1), (78, .int .i64 ((intY r x).past 1)), (79, .int .i64 ((intY r x).past 1)), (80, .bool false), (81, .int .i64 ((intY r x).past 1)), (82, .int .i64 ((intY r x).past 1)), (83, .bool false), (14, .pointer (some ⟨b50, 0, none⟩)), (15, .bool (intY2 r x))] ∧ St w0 ([boxA b50 1 34 u47, ivA RaidD.Own RaidD.Own.loc B48 C49 u47 (intY r x), ivA RaidD.Own RaidD.Own.loc B45 C46 u44 r, ivA RaidD.Own RaidD.Own.loc B42 C43 u41 r, boxA b32 1 34 u29, ivA RaidD.Own RaidD.Own.loc B30 C31 u29 ((intY r x).marked 1), boxA b28 1 34 u25, ivA RaidD.Own RaidD.Own.loc B26 C27 u25 (r.marked 1), boxA b9 1 34 u6, ivA RaidD.Own RaidD.Own.loc B7 C8 u6 (intY r x), ivA RaidD.Own RaidD.Own.loc B4 C5 u3 r, boxA b2 8 50 (.agg #[.int .i64 x.fTxg, .int .i64 x.fSeq, .string x.fHead, .int .i64 x.fOp.fKind, .string x.fOp.fPath, .string x.fOp.fTo, .int .i64 x.fOp.fAt, .string x.fOp.fText]), boxA b1 1 24 (.agg #[.slice a0 ps.length c0])]) w) ?_ ?_
      ·skip
       refine wr_heldS (s := [ivA RaidD.Own RaidD.Own.loc B42 C43 u41 r, boxA b32 1 34 u29, ivA RaidD.Own RaidD.Own.loc B30 C31 u29 ((intY r x).marked 1), boxA b28 1 34 u25, ivA RaidD.Own RaidD.Own.loc B26 C27 u25 (r.marked 1), boxA b9 1 34 u6, ivA RaidD.Own RaidD.Own.loc B7 C8 u6 (intY r x), ivA RaidD.Own RaidD.Own.loc B4 C5 u3 r, boxA b2 8 50 (.agg #[.int .i64 x.fTxg, .int .i64 x.fSeq, .string x.fHead, .int .i64 x.fOp.fKind, .string x.fOp.fPath, .string x.fOp.fTo, .int .i64 x.fOp.fAt, .string x.fOp.fText]), boxA b1 1 24 (.agg #[.slice a0 ps.length c0])]) (by kernel_rfl) (St.drew (HS.out)) ?_
       have HS2 := Bx.mk HS.out.drew; replace HS := Bx.mk (show St w0 ([ivA RaidD.Own RaidD.Own.loc B42 C43 u41 r, boxA b32 1 34 u29, ivA RaidD.Own RaidD.Own.loc B30 C31 u29 ((intY r x).marked 1), boxA b28 1 34 u25, ivA RaidD.Own RaidD.Own.loc B26 C27 u25 (r.marked 1), boxA b9 1 34 u6, ivA RaidD.Own RaidD.Own.loc B7 C8 u6 (intY r x), ivA RaidD.Own RaidD.Own.loc B4 C5 u3 r, boxA b2 8 50 (.agg #[.int .i64 x.fTxg, .int .i64 x.fSeq, .string x.fHead, .int .i64 x.fOp.fKind, .string x.fOp.fPath, .string x.fOp.fTo, .int .i64 x.fOp.fAt, .string x.fOp.fText]), boxA b1 1 24 (.agg #[.slice a0 ps.length c0])]) _ from HS.out.drew)
       generalize World.drew _ = w58 at HS HS2 ⊢
       refine wh_y 0 rfl (by kernel_rfl) (by kernel_rfl) (by kernel_rfl) (fun _ _ _ h => h) rfl HF rfl rfl (fun _ HS => (yl_loadR (cs := [.slice a0 ps.length c0]) rfl (HF.ev rfl) ((HS.box 9 rfl).sub 0 1) (by kernel_rfl))) HS.out ?_; clear HF a; intro a HF
       refine wh_y 2 rfl (by kernel_rfl) (by kernel_rfl) (by kernel_rfl) (fun _ _ _ h => h) rfl HF rfl rfl (fun _ HS => (yl_loadR (cs := [.int .i64 x.fTxg, .int .i64 x.fSeq, .string x.fHead, .int .i64 x.fOp.fKind, .string x.fOp.fPath, .string x.fOp.fTo, .int .i64 x.fOp.fAt, .string x.fOp.fText]) rfl (HF.ev rfl) ((HS.box 8 rfl).sub 0 8) (by kernel_rfl))) HS.out ?_; clear HF a; intro a HF
       refine wh_two 1 8 (by kernel_rfl) ?_ ?_
       ·skip
        refine wo_call rfl rfl HF rfl (enter_of Tryz.func9 (by kernel_rfl) rfl) (args := #[.agg #[.slice a0 ps.length c0]]) rfl (toRaid_any _ r _ hf (HR.out.below HS.out.bel)) rfl rfl ?_
        rintro _ w60 ⟨u44, rfl, ho, hb⟩
        refine ⟨_, rfl, ?_⟩; replace HS := Bx.mk (HS.out.later hb); replace HS2 := Bx.mk (HS2.out.add (St.ivNew (loc := RaidD.Own.loc) ho hb)); clear ho hb HF; clear a; intro a HF; refine ⟨HS.out, ?_⟩
        obtain ⟨B45, C46, hh⟩ : ∃ B B1, St w0 ([ivA RaidD.Own RaidD.Own.loc B B1 u44 r, ivA RaidD.Own RaidD.Own.loc B42 C43 u41 r, boxA b32 1 34 u29, ivA RaidD.Own RaidD.Own.loc B30 C31 u29 ((intY r x).marked 1), boxA b28 1 34 u25, ivA RaidD.Own RaidD.Own.loc B26 C27 u25 (r.marked 1), boxA b9 1 34 u6, ivA RaidD.Own RaidD.Own.loc B7 C8 u6 (intY r x), ivA RaidD.Own RaidD.Own.loc B4 C5 u3 r, boxA b2 8 50 (.agg #[.int .i64 x.fTxg, .int .i64 x.fSeq, .string x.fHead, .int .i64 x.fOp.fKind, .string x.fOp.fPath, .string x.fOp.fTo, .int .i64 x.fOp.fAt, .string x.fOp.fText]), boxA b1 1 24 (.agg #[.slice a0 ps.length c0])]) w60 := ⟨_, _, HS2.out⟩; replace HS2 := Bx.mk hh; clear hh
        refine wh_two 3 8 (by kernel_rfl) ?_ ?_
        ·skip
         refine wo_callB rfl rfl HF rfl (enter_of Tryz.func17 (by kernel_rfl) rfl) (args := #[.agg #[.int .i64 x.fTxg, .int .i64 x.fSeq, .string x.fHead, .int .i64 x.fOp.fKind, .string x.fOp.fPath, .string x.fOp.fTo, .int .i64 x.fOp.fAt, .string x.fOp.fText]]) rfl (v := .agg #[.int .i64 x.fTxg, .int .i64 x.fSeq, .string x.fHead, .int .i64 x.fOp.fKind, .string x.fOp.fPath, .string x.fOp.fTo, .int .i64 x.fOp.fAt, .string x.fOp.fText]) (toIntent_any x _) rfl rfl ?_
         intro w61 hb; replace HS := Bx.mk (HS.out.later hb); replace HS2 := Bx.mk (HS2.out.later hb); clear hb HF; clear a; intro a HF; refine ⟨HS.out, ?_⟩
         refine wh_two 4 8 (by kernel_rfl) ?_ ?_
         ·skip
          refine wo_call rfl rfl HF rfl (enter_of Tryz.func18 (by kernel_rfl) rfl) (args := #[u44, .agg #[.int .i64 x.fTxg, .int .i64 x.fSeq, .string x.fHead, .int .i64 x.fOp.fKind, .string x.fOp.fPath, .string x.fOp.fTo, .int .i64 x.fOp.fAt, .string x.fOp.fText]]) rfl (implIntW_own _ r x _ hft (RaidD.Own.rd (HS2.out.iv 0 rfl)) hf.n hfx (HT.out.below HS2.out.bel) (HM.out.below HS2.out.bel)) rfl rfl ?_
          rintro _ w63 ⟨u47, rfl, ho, hb⟩
          refine ⟨_, rfl, ?_⟩; replace HS := Bx.mk (HS.out.later hb); replace HS2 := Bx.mk (HS2.out.add (St.ivNew (loc := RaidD.Own.loc) ho hb)); clear ho hb HF; clear a; intro a HF; refine ⟨HS.out, ?_⟩
          obtain ⟨B48, C49, hh⟩ : ∃ B B1, St w0 ([ivA RaidD.Own RaidD.Own.loc B B1 u47 (intY r x), ivA RaidD.Own RaidD.Own.loc B45 C46 u44 r, ivA RaidD.Own RaidD.Own.loc B42 C43 u41 r, boxA b32 1 34 u29, ivA RaidD.Own RaidD.Own.loc B30 C31 u29 ((intY r x).marked 1), boxA b28 1 34 u25, ivA RaidD.Own RaidD.Own.loc B26 C27 u25 (r.marked 1), boxA b9 1 34 u6, ivA RaidD.Own RaidD.Own.loc B7 C8 u6 (intY r x), ivA RaidD.Own RaidD.Own.loc B4 C5 u3 r, boxA b2 8 50 (.agg #[.int .i64 x.fTxg, .int .i64 x.fSeq, .string x.fHead, .int .i64 x.fOp.fKind, .string x.fOp.fPath, .string x.fOp.fTo, .int .i64 x.fOp.fAt, .string x.fOp.fText]), boxA b1 1 24 (.agg #[.slice a0 ps.length c0])]) w63 := ⟨_, _, HS2.out⟩; replace HS2 := Bx.mk hh; clear hh
          refine wh_y 5 rfl (by kernel_rfl) (by kernel_rfl) (by kernel_rfl) (fun _ _ _ h => h) rfl HF rfl rfl (fun _ HS => (yl_move rfl (HF.ev rfl))) HS.out ?_; clear HF a; intro a HF
          refine wh_y 6 rfl (by kernel_rfl) (by kernel_rfl) (by kernel_rfl) (fun _ _ _ h => h) rfl HF rfl rfl (fun _ HS => (yl_extract rfl (HF.ev rfl) rfl)) HS.out ?_; clear HF a; intro a HF
          refine wh_y 7 rfl (by kernel_rfl) (by kernel_rfl) (by kernel_rfl) (fun _ _ _ h => h) rfl HF rfl rfl (fun _ HS => (yl_extract rfl (HF.ev rfl) rfl)) HS.out ?_; clear HF a; intro a HF
          refine wh_one 8 (by kernel_rfl) ?_
          refine wo_alloc rfl rfl HF rfl rfl rfl (Z := [.slice none 0 0]) (by kernel_rfl) rfl HS2.out HS.out ?_; clear HF HS HS2 a; intro a w64 b50 HF HS2 HS; replace HS := Bx.mk HS; replace HS2 := Bx.mk HS2; refine ⟨HS.out, ?_⟩
          refine wh_one 9 (by kernel_rfl) ?_
          refine wo_storeBox rfl rfl rfl rfl (HF.ev rfl) (HF.ev rfl) HS2.out 0 rfl (RaidD.Own.cells (HS2.out.iv 1 rfl)) (by kernel_rfl) ?_
          clear HS HS2; intro w65 HS2; replace HS2 : Bx (St w0 ([boxA b50 1 34 u47, ivA RaidD.Own RaidD.Own.loc B48 C49 u47 (intY r x), ivA RaidD.Own RaidD.Own.loc B45 C46 u44 r, ivA RaidD.Own RaidD.Own.loc B42 C43 u41 r, boxA b32 1 34 u29, ivA RaidD.Own RaidD.Own.loc B30 C31 u29 ((intY r x).marked 1), boxA b28 1 34 u25, ivA RaidD.Own RaidD.Own.loc B26 C27 u25 (r.marked 1), boxA b9 1 34 u6, ivA RaidD.Own RaidD.Own.loc B7 C8 u6 (intY r x), ivA RaidD.Own RaidD.Own.loc B4 C5 u3 r, boxA b2 8 50 (.agg #[.int .i64 x.fTxg, .int .i64 x.fSeq, .string x.fHead, .int .i64 x.fOp.fKind, .string x.fOp.fPath, .string x.fOp.fTo, .int .i64 x.fOp.fAt, .string x.fOp.fText]), boxA b1 1 24 (.agg #[.slice a0 ps.length c0])]) _) := ⟨HS2⟩
          have HS : Bx (St w0 ([ivA RaidD.Own RaidD.Own.loc B42 C43 u41 r, boxA b32 1 34 u29, ivA RaidD.Own RaidD.Own.loc B30 C31 u29 ((intY r x).marked 1), boxA b28 1 34 u25, ivA RaidD.Own RaidD.Own.loc B26 C27 u25 (r.marked 1), boxA b9 1 34 u6, ivA RaidD.Own RaidD.Own.loc B7 C8 u6 (intY r x), ivA RaidD.Own RaidD.Own.loc B4 C5 u3 r, boxA b2 8 50 (.agg #[.int .i64 x.fTxg, .int .i64 x.fSeq, .string x.fHead, .int .i64 x.fOp.fKind, .string x.fOp.fPath, .string x.fOp.fTo, .int .i64 x.fOp.fAt, .string x.fOp.fText]), boxA b1 1 24 (.agg #[.slice a0 ps.length c0])]) _) := ⟨(((HS2.out.erase 2).erase 1).erase 0)⟩; refine ⟨HS.out, ?_⟩
          refine wh_y 10 rfl (by kernel_rfl) (by kernel_rfl) (by kernel_rfl) (fun _ _ _ h => h) rfl HF rfl rfl (fun _ HS => (yl_assign rfl (HF.ev rfl))) HS.out ?_; clear HF a; intro a HF
          refine wh_done (by kernel_rfl) ?_
          replace HS := HS2; clear HS2
          exact on_mk ⟨_, _, _, _, _, _, _, HF.less _ ⟨rfl, rfl, rfl, rfl, rfl, rfl, rfl, rfl, rfl, rfl, rfl, rfl, rfl, rfl, rfl, rfl, rfl, rfl, rfl, rfl, rfl, rfl, rfl, rfl, rfl, rfl, rfl, rfl, rfl, rfl, rfl, rfl, rfl, rfl, rfl, rfl, rfl, rfl, rfl, rfl, rfl, rfl, rfl, rfl, rfl, rfl, rfl, rfl, rfl, rfl, rfl, rfl, rfl, rfl, rfl, rfl, rfl, rfl, rfl, rfl, rfl, rfl, rfl, rfl, rfl, rfl, rfl, rfl, rfl, trivial⟩, HS.out⟩
         ·skip
          refine wo_alloc rfl rfl HF rfl rfl rfl (Z := [.slice none 0 0]) (by kernel_rfl) rfl HS2.out HS.out ?_; clear HF HS HS2 a; intro a w66 b51 HF HS2 HS; replace HS := Bx.mk HS; replace HS2 := Bx.mk HS2; refine ⟨HS.out, ?_⟩
          refine wh_one 4 (by kernel_rfl) ?_
          refine wo_call rfl rfl HF rfl (enter_of Tryz.func18 (by kernel_rfl) rfl) (args := #[u44, .agg #[.int .i64 x.fTxg, .int .i64 x.fSeq, .string x.fHead, .int .i64 x.fOp.fKind, .string x.fOp.fPath, .string x.fOp.fTo, .int .i64 x.fOp.fAt, .string x.fOp.fText]]) rfl (implIntW_own _ r x _ hft (RaidD.Own.rd (HS2.out.iv 1 rfl)) hf.n hfx (HT.out.below HS2.out.bel) (HM.out.below HS2.out.bel)) rfl rfl ?_
          rintro _ w68 ⟨u52, rfl, ho, hb⟩
          refine ⟨_, rfl, ?_⟩; replace HS := Bx.mk (HS.out.later hb); replace HS2 := Bx.mk (HS2.out.add (St.ivNew (loc := RaidD.Own.loc) ho hb)); clear ho hb HF; clear a; intro a HF; refine ⟨HS.out, ?_⟩
          obtain ⟨B53, C54, hh⟩ : ∃ B B1, St w0 ([ivA RaidD.Own RaidD.Own.loc B B1 u52 (intY r x), boxA b51 1 34 (.agg #[.slice none 0 0]), ivA RaidD.Own RaidD.Own.loc B45 C46 u44 r, ivA RaidD.Own RaidD.Own.loc B42 C43 u41 r, boxA b32 1 34 u29, ivA RaidD.Own RaidD.Own.loc B30 C31 u29 ((intY r x).marked 1), boxA b28 1 34 u25, ivA RaidD.Own RaidD.Own.loc B26 C27 u25 (r.marked 1), boxA b9 1 34 u6, ivA RaidD.Own RaidD.Own.loc B7 C8 u6 (intY r x), ivA RaidD.Own RaidD.Own.loc B4 C5 u3 r, boxA b2 8 50 (.agg #[.int .i64 x.fTxg, .int .i64 x.fSeq, .string x.fHead, .int .i64 x.fOp.fKind, .string x.fOp.fPath, .string x.fOp.fTo, .int .i64 x.fOp.fAt, .string x.fOp.fText]), boxA b1 1 24 (.agg #[.slice a0 ps.length c0])]) w68 := ⟨_, _, HS2.out⟩; replace HS2 := Bx.mk hh; clear hh
          refine wh_y 5 rfl (by kernel_rfl) (by kernel_rfl) (by kernel_rfl) (fun _ _ _ h => h) rfl HF rfl rfl (fun _ HS => (yl_move rfl (HF.ev rfl))) HS.out ?_; clear HF a; intro a HF
          refine wh_y 6 rfl (by kernel_rfl) (by kernel_rfl) (by kernel_rfl) (fun _ _ _ h => h) rfl HF rfl rfl (fun _ HS => (yl_extract rfl (HF.ev rfl) rfl)) HS.out ?_; clear HF a; intro a HF
          refine wh_y 7 rfl (by kernel_rfl) (by kernel_rfl) (by kernel_rfl) (fun _ _ _ h => h) rfl HF rfl rfl (fun _ HS => (yl_extract rfl (HF.ev rfl) rfl)) HS.out ?_; clear HF a; intro a HF
          refine wh_one 9 (by kernel_rfl) ?_
          refine wo_storeBox rfl rfl rfl rfl (HF.ev rfl) (HF.ev rfl) HS2.out 1 rfl (RaidD.Own.cells (HS2.out.iv 0 rfl)) (by kernel_rfl) ?_
          clear HS HS2; intro w69 HS2; replace HS2 : Bx (St w0 ([ivA RaidD.Own RaidD.Own.loc B53 C54 u52 (intY r x), boxA b51 1 34 u52, ivA RaidD.Own RaidD.Own.loc B45 C46 u44 r, ivA RaidD.Own RaidD.Own.loc B42 C43 u41 r, boxA b32 1 34 u29, ivA RaidD.Own RaidD.Own.loc B30 C31 u29 ((intY r x).marked 1), boxA b28 1 34 u25, ivA RaidD.Own RaidD.Own.loc B26 C27 u25 (r.marked 1), boxA b9 1 34 u6, ivA RaidD.Own RaidD.Own.loc B7 C8 u6 (intY r x), ivA RaidD.Own RaidD.Own.loc B4 C5 u3 r, boxA b2 8 50 (.agg #[.int .i64 x.fTxg, .int .i64 x.fSeq, .string x.fHead, .int .i64 x.fOp.fKind, .string x.fOp.fPath, .string x.fOp.fTo, .int .i64 x.fOp.fAt, .string x.fOp.fText]), boxA b1 1 24 (.agg #[.slice a0 ps.length c0])]) _) := ⟨HS2⟩
          have HS : Bx (St w0 ([ivA RaidD.Own RaidD.Own.loc B42 C43 u41 r, boxA b32 1 34 u29, ivA RaidD.Own RaidD.Own.loc B30 C31 u29 ((intY r x).marked 1), boxA b28 1 34 u25, ivA RaidD.Own RaidD.Own.loc B26 C27 u25 (r.marked 1), boxA b9 1 34 u6, ivA RaidD.Own RaidD.Own.loc B7 C8 u6 (intY r x), ivA RaidD.Own RaidD.Own.loc B4 C5 u3 r, boxA b2 8 50 (.agg #[.int .i64 x.fTxg, .int .i64 x.fSeq, .string x.fHead, .int .i64 x.fOp.fKind, .string x.fOp.fPath, .string x.fOp.fTo, .int .i64 x.fOp.fAt, .string x.fOp.fText]), boxA b1 1 24 (.agg #[.slice a0 ps.length c0])]) _) := ⟨(((HS2.out.erase 2).erase 1).erase 0)⟩; refine ⟨HS.out, ?_⟩
          refine wh_y 10 rfl (by kernel_rfl) (by kernel_rfl) (by kernel_rfl) (fun _ _ _ h => h) rfl HF rfl rfl (fun _ HS => (yl_assign rfl (HF.ev rfl))) HS.out ?_; clear HF a; intro a HF
          refine wh_done (by kernel_rfl) ?_
          replace HS := HS2; clear HS2
          replace HS : Bx (St w0 ([boxA b51 1 34 u52, ivA RaidD.Own RaidD.Own.loc B53 C54 u52 (intY r x), ivA RaidD.Own RaidD.Own.loc B45 C46 u44 r, ivA RaidD.Own RaidD.Own.loc B42 C43 u41 r, boxA b32 1 34 u29, ivA RaidD.Own RaidD.Own.loc B30 C31 u29 ((intY r x).marked 1), boxA b28 1 34 u25, ivA RaidD.Own RaidD.Own.loc B26 C27 u25 (r.marked 1), boxA b9 1 34 u6, ivA RaidD.Own RaidD.Own.loc B7 C8 u6 (intY r x), ivA RaidD.Own RaidD.Own.loc B4 C5 u3 r, boxA b2 8 50 (.agg #[.int .i64 x.fTxg, .int .i64 x.fSeq, .string x.fHead, .int .i64 x.fOp.fKind, .string x.fOp.fPath, .string x.fOp.fTo, .int .i64 x.fOp.fAt, .string x.fOp.fText]), boxA b1 1 24 (.agg #[.slice a0 ps.length c0])]) _) := ⟨(((((((((((((HS.out).pick 12 rfl).pick 12 rfl).pick 12 rfl).pick 12 rfl).pick 12 rfl).pick 12 rfl).pick 12 rfl).pick 12 rfl).pick 12 rfl).pick 12 rfl).pick 12 rfl).pick 11 rfl).pick 12 rfl⟩
          exact on_mk ⟨_, _, _, _, _, _, _, HF.less _ ⟨rfl, rfl, rfl, rfl, rfl, rfl, rfl, rfl, rfl, rfl, rfl, rfl, rfl, rfl, rfl, rfl, rfl, rfl, rfl, rfl, rfl, rfl, rfl, rfl, rfl, rfl, rfl, rfl, rfl, rfl, rfl, rfl, rfl, rfl, rfl, rfl, rfl, rfl, rfl, rfl, rfl, rfl, rfl, rfl, rfl, rfl, rfl, rfl, rfl, rfl, rfl, rfl, rfl, rfl, rfl, rfl, rfl, rfl, rfl, rfl, rfl, rfl, rfl, rfl, rfl, rfl, rfl, rfl, rfl, trivial⟩, HS.out⟩
        ·skip
         refine wo_alloc rfl rfl HF rfl rfl rfl (Z := [.slice none 0 0]) (by kernel_rfl) rfl HS2.out HS.out ?_; clear HF HS HS2 a; intro a w70 b55 HF HS2 HS; replace HS := Bx.mk HS; replace HS2 := Bx.mk HS2; refine ⟨HS.out, ?_⟩
         refine wh_one 3 (by kernel_rfl) ?_
         refine wo_callB rfl rfl HF rfl (enter_of Tryz.func17 (by kernel_rfl) rfl) (args := #[.agg #[.int .i64 x.fTxg, .int .i64 x.fSeq, .string x.fHead, .int .i64 x.fOp.fKind, .string x.fOp.fPath, .string x.fOp.fTo, .int .i64 x.fOp.fAt, .string x.fOp.fText]]) rfl (v := .agg #[.int .i64 x.fTxg, .int .i64 x.fSeq, .string x.fHead, .int .i64 x.fOp.fKind, .string x.fOp.fPath, .string x.fOp.fTo, .int .i64 x.fOp.fAt, .string x.fOp.fText]) (toIntent_any x _) rfl rfl ?_
         intro w71 hb; replace HS := Bx.mk (HS.out.later hb); replace HS2 := Bx.mk (HS2.out.later hb); clear hb HF; clear a; intro a HF; refine ⟨HS.out, ?_⟩
         refine wh_one 4 (by kernel_rfl) ?_
         refine wo_call rfl rfl HF rfl (enter_of Tryz.func18 (by kernel_rfl) rfl) (args := #[u44, .agg #[.int .i64 x.fTxg, .int .i64 x.fSeq, .string x.fHead, .int .i64 x.fOp.fKind, .string x.fOp.fPath, .string x.fOp.fTo, .int .i64 x.fOp.fAt, .string x.fOp.fText]]) rfl (implIntW_own _ r x _ hft (RaidD.Own.rd (HS2.out.iv 1 rfl)) hf.n hfx (HT.out.below HS2.out.bel) (HM.out.below HS2.out.bel)) rfl rfl ?_
         rintro _ w73 ⟨u56, rfl, ho, hb⟩
         refine ⟨_, rfl, ?_⟩; replace HS := Bx.mk (HS.out.later hb); replace HS2 := Bx.mk (HS2.out.add (St.ivNew (loc := RaidD.Own.loc) ho hb)); clear ho hb HF; clear a; intro a HF; refine ⟨HS.out, ?_⟩
         obtain ⟨B57, C58, hh⟩ : ∃ B B1, St w0 ([ivA RaidD.Own RaidD.Own.loc B B1 u56 (intY r x), boxA b55 1 34 (.agg #[.slice none 0 0]), ivA RaidD.Own RaidD.Own.loc B45 C46 u44 r, ivA RaidD.Own RaidD.Own.loc B42 C43 u41 r, boxA b32 1 34 u29, ivA RaidD.Own RaidD.Own.loc B30 C31 u29 ((intY r x).marked 1), boxA b28 1 34 u25, ivA RaidD.Own RaidD.Own.loc B26 C27 u25 (r.marked 1), boxA b9 1 34 u6, ivA RaidD.Own RaidD.Own.loc B7 C8 u6 (intY r x), ivA RaidD.Own RaidD.Own.loc B4 C5 u3 r, boxA b2 8 50 (.agg #[.int .i64 x.fTxg, .int .i64 x.fSeq, .string x.fHead, .int .i64 x.fOp.fKind, .string x.fOp.fPath, .string x.fOp.fTo, .int .i64 x.fOp.fAt, .string x.fOp.fText]), boxA b1 1 24 (.agg #[.slice a0 ps.length c0])]) w73 := ⟨_, _, HS2.out⟩; replace HS2 := Bx.mk hh; clear hh
         refine wh_y 5 rfl (by kernel_rfl) (by kernel_rfl) (by kernel_rfl) (fun _ _ _ h => h) rfl HF rfl rfl (fun _ HS => (yl_move rfl (HF.ev rfl))) HS.out ?_; clear HF a; intro a HF
         refine wh_y 6 rfl (by kernel_rfl) (by kernel_rfl) (by kernel_rfl) (fun _ _ _ h => h) rfl HF rfl rfl (fun _ HS => (yl_extract rfl (HF.ev rfl) rfl)) HS.out ?_; clear HF a; intro a HF
         refine wh_y 7 rfl (by kernel_rfl) (by kernel_rfl) (by kernel_rfl) (fun _ _ _ h => h) rfl HF rfl rfl (fun _ HS => (yl_extract rfl (HF.ev rfl) rfl)) HS.out ?_; clear HF a; intro a HF
         refine wh_one 9 (by kernel_rfl) ?_
         refine wo_storeBox rfl rfl rfl rfl (HF.ev rfl) (HF.ev rfl) HS2.out 1 rfl (RaidD.Own.cells (HS2.out.iv 0 rfl)) (by kernel_rfl) ?_
         clear HS HS2; intro w74 HS2; replace HS2 : Bx (St w0 ([ivA RaidD.Own RaidD.Own.loc B57 C58 u56 (intY r x), boxA b55 1 34 u56, ivA RaidD.Own RaidD.Own.loc B45 C46 u44 r, ivA RaidD.Own RaidD.Own.loc B42 C43 u41 r, boxA b32 1 34 u29, ivA RaidD.Own RaidD.Own.loc B30 C31 u29 ((intY r x).marked 1), boxA b28 1 34 u25, ivA RaidD.Own RaidD.Own.loc B26 C27 u25 (r.marked 1), boxA b9 1 34 u6, ivA RaidD.Own RaidD.Own.loc B7 C8 u6 (intY r x), ivA RaidD.Own RaidD.Own.loc B4 C5 u3 r, boxA b2 8 50 (.agg #[.int .i64 x.fTxg, .int .i64 x.fSeq, .string x.fHead, .int .i64 x.fOp.fKind, .string x.fOp.fPath, .string x.fOp.fTo, .int .i64 x.fOp.fAt, .string x.fOp.fText]), boxA b1 1 24 (.agg #[.slice a0 ps.length c0])]) _) := ⟨HS2⟩
         have HS : Bx (St w0 ([ivA RaidD.Own RaidD.Own.loc B42 C43 u41 r, boxA b32 1 34 u29, ivA RaidD.Own RaidD.Own.loc B30 C31 u29 ((intY r x).marked 1), boxA b28 1 34 u25, ivA RaidD.Own RaidD.Own.loc B26 C27 u25 (r.marked 1), boxA b9 1 34 u6, ivA RaidD.Own RaidD.Own.loc B7 C8 u6 (intY r x), ivA RaidD.Own RaidD.Own.loc B4 C5 u3 r, boxA b2 8 50 (.agg #[.int .i64 x.fTxg, .int .i64 x.fSeq, .string x.fHead, .int .i64 x.fOp.fKind, .string x.fOp.fPath, .string x.fOp.fTo, .int .i64 x.fOp.fAt, .string x.fOp.fText]), boxA b1 1 24 (.agg #[.slice a0 ps.length c0])]) _) := ⟨(((HS2.out.erase 2).erase 1).erase 0)⟩; refine ⟨HS.out, ?_⟩
         refine wh_y 10 rfl (by kernel_rfl) (by kernel_rfl) (by kernel_rfl) (fun _ _ _ h => h) rfl HF rfl rfl (fun _ HS => (yl_assign rfl (HF.ev rfl))) HS.out ?_; clear HF a; intro a HF
         refine wh_done (by kernel_rfl) ?_
         replace HS := HS2; clear HS2
         replace HS : Bx (St w0 ([boxA b55 1 34 u56, ivA RaidD.Own RaidD.Own.loc B57 C58 u56 (intY r x), ivA RaidD.Own RaidD.Own.loc B45 C46 u44 r, ivA RaidD.Own RaidD.Own.loc B42 C43 u41 r, boxA b32 1 34 u29, ivA RaidD.Own RaidD.Own.loc B30 C31 u29 ((intY r x).marked 1), boxA b28 1 34 u25, ivA RaidD.Own RaidD.Own.loc B26 C27 u25 (r.marked 1), boxA b9 1 34 u6, ivA RaidD.Own RaidD.Own.loc B7 C8 u6 (intY r x), ivA RaidD.Own RaidD.Own.loc B4 C5 u3 r, boxA b2 8 50 (.agg #[.int .i64 x.fTxg, .int .i64 x.fSeq, .string x.fHead, .int .i64 x.fOp.fKind, .string x.fOp.fPath, .string x.fOp.fTo, .int .i64 x.fOp.fAt, .string x.fOp.fText]), boxA b1 1 24 (.agg #[.slice a0 ps.length c0])]) _) := ⟨(((((((((((((HS.out).pick 12 rfl).pick 12 rfl).pick 12 rfl).pick 12 rfl).pick 12 rfl).pick 12 rfl).pick 12 rfl).pick 12 rfl).pick 12 rfl).pick 12 rfl).pick 12 rfl).pick 11 rfl).pick 12 rfl⟩
         exact on_mk ⟨_, _, _, _, _, _, _, HF.less _ ⟨rfl, rfl, rfl, rfl, rfl, rfl, rfl, rfl, rfl, rfl, rfl, rfl, rfl, rfl, rfl, rfl, rfl, rfl, rfl, rfl, rfl, rfl, rfl, rfl, rfl, rfl, rfl, rfl, rfl, rfl, rfl, rfl, rfl, rfl, rfl, rfl, rfl, rfl, rfl, rfl, rfl, rfl, rfl, rfl, rfl, rfl, rfl, rfl, rfl, rfl, rfl, rfl, rfl, rfl, rfl, rfl, rfl, rfl, rfl, rfl, rfl, rfl, rfl, rfl, rfl, rfl, rfl, rfl, rfl, trivial⟩, HS.out⟩
       ·skip
        refine wo_alloc rfl rfl HF rfl rfl rfl (Z := [.slice none 0 0]) (by kernel_rfl) rfl HS2.out HS.out ?_; clear HF HS HS2 a; intro a w75 b59 HF HS2 HS; replace HS := Bx.mk HS; replace HS2 := Bx.mk HS2; refine ⟨HS.out, ?_⟩
        refine wh_one 1 (by kernel_rfl) ?_
        refine wo_call rfl rfl HF rfl (enter_of Tryz.func9 (by kernel_rfl) rfl) (args := #[.agg #[.slice a0 ps.length c0]]) rfl (toRaid_any _ r _ hf (HR.out.below HS.out.bel)) rfl rfl ?_
        rintro _ w77 ⟨u60, rfl, ho, hb⟩
        refine ⟨_, rfl, ?_⟩; replace HS := Bx.mk (HS.out.later hb); replace HS2 := Bx.mk (HS2.out.add (St.ivNew (loc := RaidD.Own.loc) ho hb)); clear ho hb HF; clear a; intro a HF; refine ⟨HS.out, ?_⟩
        obtain ⟨B61, C62, hh⟩ : ∃ B B1, St w0 ([ivA RaidD.Own RaidD.Own.loc B B1 u60 r, boxA b59 1 34 (.agg #[.slice none 0 0]), ivA RaidD.Own RaidD.Own.loc B42 C43 u41 r, boxA b32 1 34 u29, ivA RaidD.Own RaidD.Own.loc B30 C31 u29 ((intY r x).marked 1), boxA b28 1 34 u25, ivA RaidD.Own RaidD.Own.loc B26 C27 u25 (r.marked 1), boxA b9 1 34 u6, ivA RaidD.Own RaidD.Own.loc B7 C8 u6 (intY r x), ivA RaidD.Own RaidD.Own.loc B4 C5 u3 r, boxA b2 8 50 (.agg #[.int .i64 x.fTxg, .int .i64 x.fSeq, .string x.fHead, .int .i64 x.fOp.fKind, .string x.fOp.fPath, .string x.fOp.fTo, .int .i64 x.fOp.fAt, .string x.fOp.fText]), boxA b1 1 24 (.agg #[.slice a0 ps.length c0])]) w77 := ⟨_, _, HS2.out⟩; replace HS2 := Bx.mk hh; clear hh
        refine wh_one 3 (by kernel_rfl) ?_
        refine wo_callB rfl rfl HF rfl (enter_of Tryz.func17 (by kernel_rfl) rfl) (args := #[.agg #[.int .i64 x.fTxg, .int .i64 x.fSeq, .string x.fHead, .int .i64 x.fOp.fKind, .string x.fOp.fPath, .string x.fOp.fTo, .int .i64 x.fOp.fAt, .string x.fOp.fText]]) rfl (v := .agg #[.int .i64 x.fTxg, .int .i64 x.fSeq, .string x.fHead, .int .i64 x.fOp.fKind, .string x.fOp.fPath, .string x.fOp.fTo, .int .i64 x.fOp.fAt, .string x.fOp.fText]) (toIntent_any x _) rfl rfl ?_
        intro w78 hb; replace HS := Bx.mk (HS.out.later hb); replace HS2 := Bx.mk (HS2.out.later hb); clear hb HF; clear a; intro a HF; refine ⟨HS.out, ?_⟩
        refine wh_one 4 (by kernel_rfl) ?_
        refine wo_call rfl rfl HF rfl (enter_of Tryz.func18 (by kernel_rfl) rfl) (args := #[u60, .agg #[.int .i64 x.fTxg, .int .i64 x.fSeq, .string x.fHead, .int .i64 x.fOp.fKind, .string x.fOp.fPath, .string x.fOp.fTo, .int .i64 x.fOp.fAt, .string x.fOp.fText]]) rfl (implIntW_own _ r x _ hft (RaidD.Own.rd (HS2.out.iv 0 rfl)) hf.n hfx (HT.out.below HS2.out.bel) (HM.out.below HS2.out.bel)) rfl rfl ?_
        rintro _ w80 ⟨u63, rfl, ho, hb⟩
        refine ⟨_, rfl, ?_⟩; replace HS := Bx.mk (HS.out.later hb); replace HS2 := Bx.mk (HS2.out.add (St.ivNew (loc := RaidD.Own.loc) ho hb)); clear ho hb HF; clear a; intro a HF; refine ⟨HS.out, ?_⟩
        obtain ⟨B64, C65, hh⟩ : ∃ B B1, St w0 ([ivA RaidD.Own RaidD.Own.loc B B1 u63 (intY r x), ivA RaidD.Own RaidD.Own.loc B61 C62 u60 r, boxA b59 1 34 (.agg #[.slice none 0 0]), ivA RaidD.Own RaidD.Own.loc B42 C43 u41 r, boxA b32 1 34 u29, ivA RaidD.Own RaidD.Own.loc B30 C31 u29 ((intY r x).marked 1), boxA b28 1 34 u25, ivA RaidD.Own RaidD.Own.loc B26 C27 u25 (r.marked 1), boxA b9 1 34 u6, ivA RaidD.Own RaidD.Own.loc B7 C8 u6 (intY r x), ivA RaidD.Own RaidD.Own.loc B4 C5 u3 r, boxA b2 8 50 (.agg #[.int .i64 x.fTxg, .int .i64 x.fSeq, .string x.fHead, .int .i64 x.fOp.fKind, .string x.fOp.fPath, .string x.fOp.fTo, .int .i64 x.fOp.fAt, .string x.fOp.fText]), boxA b1 1 24 (.agg #[.slice a0 ps.length c0])]) w80 := ⟨_, _, HS2.out⟩; replace HS2 := Bx.mk hh; clear hh
        refine wh_y 5 rfl (by kernel_rfl) (by kernel_rfl) (by kernel_rfl) (fun _ _ _ h => h) rfl HF rfl rfl (fun _ HS => (yl_move rfl (HF.ev rfl))) HS.out ?_; clear HF a; intro a HF
        refine wh_y 6 rfl (by kernel_rfl) (by kernel_rfl) (by kernel_rfl) (fun _ _ _ h => h) rfl HF rfl rfl (fun _ HS => (yl_extract rfl (HF.ev rfl) rfl)) HS.out ?_; clear HF a; intro a HF
        refine wh_y 7 rfl (by kernel_rfl) (by kernel_rfl) (by kernel_rfl) (fun _ _ _ h => h) rfl HF rfl rfl (fun _ HS => (yl_extract rfl (HF.ev rfl) rfl)) HS.out ?_; clear HF a; intro a HF
        refine wh_one 9 (by kernel_rfl) ?_
        refine wo_storeBox rfl rfl rfl rfl (HF.ev rfl) (HF.ev rfl) HS2.out 2 rfl (RaidD.Own.cells (HS2.out.iv 0 rfl)) (by kernel_rfl) ?_
        clear HS HS2; intro w81 HS2; replace HS2 : Bx (St w0 ([ivA RaidD.Own RaidD.Own.loc B64 C65 u63 (intY r x), ivA RaidD.Own RaidD.Own.loc B61 C62 u60 r, boxA b59 1 34 u63, ivA RaidD.Own RaidD.Own.loc B42 C43 u41 r, boxA b32 1 34 u29, ivA RaidD.Own RaidD.Own.loc B30 C31 u29 ((intY r x).marked 1), boxA b28 1 34 u25, ivA RaidD.Own RaidD.Own.loc B26 C27 u25 (r.marked 1), boxA b9 1 34 u6, ivA RaidD.Own RaidD.Own.loc B7 C8 u6 (intY r x), ivA RaidD.Own RaidD.Own.loc B4 C5 u3 r, boxA b2 8 50 (.agg #[.int .i64 x.fTxg, .int .i64 x.fSeq, .string x.fHead, .int .i64 x.fOp.fKind, .string x.fOp.fPath, .string x.fOp.fTo, .int .i64 x.fOp.fAt, .string x.fOp.fText]), boxA b1 1 24 (.agg #[.slice a0 ps.length c0])]) _) := ⟨HS2⟩
        have HS : Bx (St w0 ([ivA RaidD.Own RaidD.Own.loc B42 C43 u41 r, boxA b32 1 34 u29, ivA RaidD.Own RaidD.Own.loc B30 C31 u29 ((intY r x).marked 1), boxA b28 1 34 u25, ivA RaidD.Own RaidD.Own.loc B26 C27 u25 (r.marked 1), boxA b9 1 34 u6, ivA RaidD.Own RaidD.Own.loc B7 C8 u6 (intY r x), ivA RaidD.Own RaidD.Own.loc B4 C5 u3 r, boxA b2 8 50 (.agg #[.int .i64 x.fTxg, .int .i64 x.fSeq, .string x.fHead, .int .i64 x.fOp.fKind, .string x.fOp.fPath, .string x.fOp.fTo, .int .i64 x.fOp.fAt, .string x.fOp.fText]), boxA b1 1 24 (.agg #[.slice a0 ps.length c0])]) _) := ⟨(((HS2.out.erase 2).erase 1).erase 0)⟩; refine ⟨HS.out, ?_⟩
        refine wh_y 10 rfl (by kernel_rfl) (by kernel_rfl) (by kernel_rfl) (fun _ _ _ h => h) rfl HF rfl rfl (fun _ HS => (yl_assign rfl (HF.ev rfl))) HS.out ?_; clear HF a; intro a HF
        refine wh_done (by kernel_rfl) ?_
        replace HS := HS2; clear HS2
        replace HS : Bx (St w0 ([boxA b59 1 34 u63, ivA RaidD.Own RaidD.Own.loc B64 C65 u63 (intY r x), ivA RaidD.Own RaidD.Own.loc B61 C62 u60 r, ivA RaidD.Own RaidD.Own.loc B42 C43 u41 r, boxA b32 1 34 u29, ivA RaidD.Own RaidD.Own.loc B30 C31 u29 ((intY r x).marked 1), boxA b28 1 34 u25, ivA RaidD.Own RaidD.Own.loc B26 C27 u25 (r.marked 1), boxA b9 1 34 u6, ivA RaidD.Own RaidD.Own.loc B7 C8 u6 (intY r x), ivA RaidD.Own RaidD.Own.loc B4 C5 u3 r, boxA b2 8 50 (.agg #[.int .i64 x.fTxg, .int .i64 x.fSeq, .string x.fHead, .int .i64 x.fOp.fKind, .string x.fOp.fPath, .string x.fOp.fTo, .int .i64 x.fOp.fAt, .string x.fOp.fText]), boxA b1 1 24 (.agg #[.slice a0 ps.length c0])]) _) := ⟨(((((((((((((HS.out).pick 12 rfl).pick 12 rfl).pick 12 rfl).pick 12 rfl).pick 12 rfl).pick 12 rfl).pick 12 rfl).pick 12 rfl).pick 12 rfl).pick 12 rfl).pick 11 rfl).pick 11 rfl).pick 12 rfl⟩
        exact on_mk ⟨_, _, _, _, _, _, _, HF.less _ ⟨rfl, rfl, rfl, rfl, rfl, rfl, rfl, rfl, rfl, rfl, rfl, rfl, rfl, rfl, rfl, rfl, rfl, rfl, rfl, rfl, rfl, rfl, rfl, rfl, rfl, rfl, rfl, rfl, rfl, rfl, rfl, rfl, rfl, rfl, rfl, rfl, rfl, rfl, rfl, rfl, rfl, rfl, rfl, rfl, rfl, rfl, rfl, rfl, rfl, rfl, rfl, rfl, rfl, rfl, rfl, rfl, rfl, rfl, rfl, rfl, rfl, rfl, rfl, rfl, rfl, rfl, rfl, rfl, rfl, trivial⟩, HS.out⟩
      clear HF HS a; rintro a w82 ⟨b50, u47, B48, C49, B45, C46, u44, HF, HS⟩; replace HS := Bx.mk HS
      refine ex_then ?_
      refine wp_seq ?_
      refine wp_sr ?_
      refine wl_y rfl HF rfl rfl (yl_loadB (v := u47) rfl (HF.ev rfl) (HS.out.box 0 rfl) (by kernel_rfl)) ?_; clear HF a; intro a HF
      refine wl_y rfl HF rfl rfl (yl_loadB (v := u6) rfl (HF.ev rfl) (HS.out.box 8 rfl) (by kernel_rfl)) ?_; clear HF a; intro a HF
      refine wl_callB rfl HF rfl (enter_of Tryz.func12 (by kernel_rfl) rfl) (args := #[u47, u6]) rfl (v := .bool true) (eqRaid_yes _ _ (intY r x) _ hfy (RaidD.Own.rd (HS.out.iv 1 rfl)) (RaidD.Own.rd (HS.out.iv 9 rfl))) rfl rfl HS.out ?_; clear HF HS a; intro w83 a HS HF; replace HS := Bx.mk HS
      refine wl_y rfl HF rfl rfl (yl_not rfl (HF.ev rfl)) ?_; clear HF a; intro a HF
      refine wl_mv HF rfl rfl rfl rfl rfl ?_; clear HF a; intro a HF
      refine wl_yg HF rfl rfl rfl rfl rfl (yl_move rfl (HF.ev rfl)) ?_; clear HF a; intro a HF
      refine wl_yg HF rfl rfl rfl rfl rfl (yl_move rfl (HF.ev rfl)) ?_; clear HF a; intro a HF
      refine wl_yg HF rfl rfl rfl rfl rfl (yl_neqBs rfl (HF.ev rfl) (HF.ev rfl) (by kernel_rfl)) ?_; clear HF a; intro a HF
      refine wl_y rfl HF rfl rfl (yl_pick_f rfl (HF.ev rfl) (HF.ev rfl)) ?_; clear HF a; intro a HF
      refine wl_ne ?_
      refine wc_false HF rfl ?_
      refine wp_skip ?_
      refine ex_then ?_
      refine wp_sr ?_
      refine wl_as HF rfl rfl rfl rfl rfl ?_; clear HF a; intro a HF
      refine wl_ne ?_
      refine wp_sr ?_
      refine wl_y rfl HF rfl rfl (yl_loadB (v := u29) rfl (HF.ev rfl) (HS.out.box 4 rfl) (by kernel_rfl)) ?_; clear HF a; intro a HF
      refine wl_mv HF rfl rfl rfl rfl rfl ?_; clear HF a; intro a HF
      refine wl_callB rfl HF rfl (enter_of Tryz.func14 (by kernel_rfl) rfl) (args := #[u29, .int .i64 1]) rfl (v := .int .i64 ((intY r x).past 1)) (heldRaid_any _ (intY r x) 1 _ (by omega) (by omega) hfy (RaidD.Own.rd (HS.out.iv 5 rfl))) rfl rfl HS.out ?_; clear HF HS a; intro w84 a HS HF; replace HS := Bx.mk HS
      refine wl_as HF rfl rfl rfl rfl rfl ?_; clear HF a; intro a HF
      refine wl_ne ?_
      refine wp_seq ?_
      refine wp_sr ?_
      refine wl_mv HF rfl rfl rfl rfl rfl ?_; clear HF a; intro a HF
      refine wl_y rfl HF rfl rfl (yl_lssI rfl (HF.ev rfl) (HF.ev rfl)) ?_; clear HF a; intro a HF
      refine wl_ne ?_
      refine HF.cases 105 rfl (fun cc6 HF1 => ?_) (fun cc6 HF1 => ?_)
      ·clear HF; have HF := HF1; clear HF1
       exact absurd (of_decide_eq_true cc6) (by omega)
      ·clear HF; have HF := HF1; clear HF1
       refine wc_false HF rfl ?_
       refine wp_skip ?_
       refine ex_then ?_
       refine wp_seq ?_
       refine wp_sr ?_
       refine wl_mv HF rfl rfl rfl rfl rfl ?_; clear HF a; intro a HF
       refine wl_mv HF rfl rfl rfl rfl rfl ?_; clear HF a; intro a HF
       refine wl_y rfl HF rfl rfl (yl_neqI rfl (HF.ev rfl) (HF.ev rfl)) ?_; clear HF a; intro a HF
       refine wl_ne ?_
       refine HF.cases 108 rfl (fun cc7 HF1 => ?_) (fun cc7 HF1 => ?_)
       ·clear HF; have HF := HF1; clear HF1
        exact absurd cc7 (by simp)
       ·clear HF; have HF := HF1; clear HF1
        refine wc_false HF rfl ?_
        refine wp_skip ?_
        refine ex_then ?_
        refine wp_sr ?_
        refine wl_as HF rfl rfl rfl rfl rfl ?_; clear HF a; intro a HF
        refine wl_ne ?_
        refine wp_ret ?_
        refine bp_ret1 HF Tryz.results4 (HF.res rfl) ?_
        exact ⟨rfl, HS.out.bel⟩
end Go.Proofs.YtoaopmkbfifhaaaGreatDoor
