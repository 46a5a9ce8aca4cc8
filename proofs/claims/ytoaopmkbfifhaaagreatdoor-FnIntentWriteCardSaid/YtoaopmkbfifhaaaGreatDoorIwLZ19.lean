/- A part of the proof in YtoaopmkbfifhaaaGreatDoorIwLZ29. -/
import Derived.Test.YtoaopmkbfifhaaaGreatDoorIwLZ18
/- Operations and intents as texts; IntentWrite: walked. -/
namespace Go.Proofs.YtoaopmkbfifhaaaGreatDoor
set_option linter.unusedVariables false
set_option linter.unusedSimpArgs false
set_option maxHeartbeats 1000000
set_option maxRecDepth 100000
open Go.RowKit

theorem OpD.ok_parts {o : OpD} (h : o.ok = true) : 1 ≤ o.fKind ∧ o.fKind ≤ 7 ∧ 0 ≤ o.fAt ∧ o.fAt ≤ 192 := by
  unfold OpD.ok at h
  simp only [Bool.and_eq_true] at h
  have h1 := inB_true h.1.1.1.1
  have h2 := h.1.2
  unfold OpD.atOk at h2
  rw [Bool.or_eq_true] at h2
  rcases h2 with h2 | h2
  · have := eq_of_beq h2; omega
  · rw [Bool.and_eq_true] at h2
    have := inB_true h2.2; omega
structure OpD.fits (o : OpD) : Prop where
  p : o.fPath.size ≤ 4000000000
  t : o.fTo.size ≤ 4000000000
  x : o.fText.size ≤ 4000000000
/-- The text of an operation. -/
def opB (o : OpD) : ByteArray := bif o.ok then (fieldsPut [numB o.fKind, o.fPath, o.fTo, numB o.fAt, o.fText]).1 else ByteArray.empty
theorem opB_no {o : OpD} (h : o.ok = false) : opB o = ByteArray.empty := by unfold opB; rw [h]; rfl
theorem opB_yes {o : OpD} (h : o.ok = true) : opB o = (fieldsPut [numB o.fKind, o.fPath, o.fTo, numB o.fAt, o.fText]).1 := by unfold opB; rw [h]; rfl
theorem opB_le (o : OpD) : (opB o).size ≤ 2048 := by
  cases h : o.ok with
  | false => rw [opB_no h]; exact Nat.zero_le _
  | true => rw [opB_yes h]; exact fieldsPut_le _
structure IntentD where
  fTxg : Int
  fSeq : Int
  fHead : ByteArray
  fOp : OpD
def IntentD.cells (x : IntentD) : List Value := .int .i64 x.fTxg :: .int .i64 x.fSeq :: .string x.fHead :: x.fOp.cells
structure IntentD.fits (x : IntentD) : Prop where
  h : x.fHead.size ≤ 4000000000
  o : x.fOp.fits

theorem implOpPut_any (o : OpD) (w0 : World) (hT : TabP w0) (hM : MaxP w0) (hfo : o.fits) : Calls Tryz.prog 92 #[.agg #[.int .i64 o.fKind, .string o.fPath, .string o.fTo, .int .i64 o.fAt, .string o.fText]] w0 fun e w' => e = .returned (.string (opB o)) ∧ Below w0.heap.size w0 w' := by
 have HT := Bx.mk hT; clear hT
 have HM := Bx.mk hM; clear hM
 have HS := Bx.mk (St.start w0)
 refine wc_enter Tryz.func92 rfl Tryz.ntmps92 [(0, .agg #[.int .i64 o.fKind, .string o.fPath, .string o.fTo, .int .i64 o.fAt, .string o.fText])] ⟨rfl, trivial⟩ rfl ?_; intro a HF
 refine wp_sr ?_
 refine wl_box rfl HF rfl (HF.ev rfl) (Z := [.int .i64 o.fKind, .string o.fPath, .string o.fTo, .int .i64 o.fAt, .string o.fText]) rfl rfl rfl rfl HS.out ?_; clear HF HS a; intro a w1 b1 HF HS; replace HS := Bx.mk HS
 refine za HF ?_;clear HF a;intro a HF
 refine wl_ne ?_
 refine wp_seq ?_
 refine wp_sr ?_
 refine zy HF (ylr (cs := [.int .i64 o.fKind, .string o.fPath, .string o.fTo, .int .i64 o.fAt, .string o.fText]) rfl (HF.ev rfl) ((HS.out.box 0 rfl).sub 0 5)) ?_;clear HF a;intro a HF
 refine wl_callB rfl HF rfl (enter_of Tryz.func91 (by kernel_rfl) rfl) (args := #[.agg #[.int .i64 o.fKind, .string o.fPath, .string o.fTo, .int .i64 o.fAt, .string o.fText]]) rfl (v := .bool o.ok) (implOpOk_any o _ (HM.out.below HS.out.bel) hfo.p hfo.t hfo.x) rfl rfl HS.out ?_; clear HF HS a; intro w2 a HS HF; replace HS := Bx.mk HS
 refine zy HF (yl_not rfl (HF.ev rfl)) ?_;clear HF a;intro a HF
 refine wl_ne ?_
 refine HF.cases 7 rfl (fun cc1 _ => ?_) fun cc1 _ => ?_
 ·clear HF;rename_i HF
  refine wc_true HF rfl ?_
  refine wp_sr ?_
  refine za HF ?_;clear HF a;intro a HF
  refine wl_ne ?_
  refine wp_ret ?_
  refine ex_then_ret ?_
  refine bp_ret1 HF Tryz.results92 (HF.res rfl) ?_
  exact ⟨by rw [opB_no (by simpa using cc1)]; rfl, HS.out.bel⟩
 ·clear HF;rename_i HF
  refine wc_false HF rfl ?_
  refine wp_skip ?_
  refine ex_then ?_
  refine wp_seq ?_
  have hok : o.ok = true := by simpa using cc1
  have hb := OpD.ok_parts hok
  refine wr_heldS (s := [boxA b1 5 53 (.agg #[.int .i64 o.fKind, .string o.fPath, .string o.fTo, .int .i64 o.fAt, .string o.fText])]) (by kernel_rfl) (St.drew (HS.out)) ?_
  have HS2 := Bx.mk HS.out.drew; replace HS := Bx.mk (show St w0 ([boxA b1 5 53 (.agg #[.int .i64 o.fKind, .string o.fPath, .string o.fTo, .int .i64 o.fAt, .string o.fText])]) _ from HS.out.drew)
  generalize World.drew _ = w3 at HS HS2 ⊢
  refine zh 0 rfl HF (fun _ HS => (yfa 0 rfl (HF.ev rfl))) HS.out ?_;clear HF a;intro a HF
  refine zh 1 rfl HF (fun _ HS => (ylo (v := .int .i64 o.fKind) rfl (HF.ev rfl) (((HS.box 0 rfl).cell 0).trans rfl))) HS.out ?_;clear HF a;intro a HF
  refine zh 3 rfl HF (fun _ HS => (yfa 1 rfl (HF.ev rfl))) HS.out ?_;clear HF a;intro a HF
  refine zh 4 rfl HF (fun _ HS => (ylo (v := .string o.fPath) rfl (HF.ev rfl) (((HS.box 0 rfl).cell 1).trans rfl))) HS.out ?_;clear HF a;intro a HF
  refine zh 5 rfl HF (fun _ HS => (yfa 2 rfl (HF.ev rfl))) HS.out ?_;clear HF a;intro a HF
  refine zh 6 rfl HF (fun _ HS => (ylo (v := .string o.fTo) rfl (HF.ev rfl) (((HS.box 0 rfl).cell 2).trans rfl))) HS.out ?_;clear HF a;intro a HF
  refine zh 7 rfl HF (fun _ HS => (yfa 3 rfl (HF.ev rfl))) HS.out ?_;clear HF a;intro a HF
  refine zh 8 rfl HF (fun _ HS => (ylo (v := .int .i64 o.fAt) rfl (HF.ev rfl) (((HS.box 0 rfl).cell 3).trans rfl))) HS.out ?_;clear HF a;intro a HF
  refine zh 10 rfl HF (fun _ HS => (yfa 4 rfl (HF.ev rfl))) HS.out ?_;clear HF a;intro a HF
  refine zh 11 rfl HF (fun _ HS => (ylo (v := .string o.fText) rfl (HF.ev rfl) (((HS.box 0 rfl).cell 4).trans rfl))) HS.out ?_;clear HF a;intro a HF
  refine wh_one 2 (by kernel_rfl) ?_
  refine wo_callB rfl rfl HF rfl (enter_of Tryz.func80 (by kernel_rfl) rfl) (args := #[.int .i64 o.fKind]) rfl (v := .string (numB o.fKind)) (numPutI_any o.fKind _ (HT.out.below HS2.out.bel)) rfl rfl ?_
  intro w4 hb; replace HS := Bx.mk (HS.out.later hb); replace HS2 := Bx.mk (HS2.out.later hb);clear hb HF a;intro a HF; refine ⟨HS.out, ?_⟩
  refine wh_one 9 (by kernel_rfl) ?_
  refine wo_callB rfl rfl HF rfl (enter_of Tryz.func80 (by kernel_rfl) rfl) (args := #[.int .i64 o.fAt]) rfl (v := .string (numB o.fAt)) (numPutI_any o.fAt _ (HT.out.below HS2.out.bel)) rfl rfl ?_
  intro w5 hb; replace HS := Bx.mk (HS.out.later hb); replace HS2 := Bx.mk (HS2.out.later hb);clear hb HF a;intro a HF; refine ⟨HS.out, ?_⟩
  refine wh_one 12 (by kernel_rfl) ?_
  refine wo_buildS (enc := encS) (e := 9) (size := 1) rfl rfl HF rfl rfl rfl (ps := [(0, .string (numB o.fKind)), (1, .string o.fPath), (2, .string o.fTo), (3, .string (numB o.fAt)), (4, .string o.fText)]) rfl (cells := [.string (numB o.fKind), .string o.fPath, .string o.fTo, .string (numB o.fAt), .string o.fText]) (by kernel_rfl) [numB o.fKind, o.fPath, o.fTo, numB o.fAt, o.fText] rfl rfl (by unfold maxLen; omega) rfl HS2.out HS.out ?_; clear HF HS HS2 a; intro b2 a w7 HF HS2 HS; replace HS := Bx.mk HS; replace HS2 := Bx.mk HS2; refine ⟨HS.out, ?_⟩
  refine wh_one 13 (by kernel_rfl) ?_
  refine wo_callB rfl rfl HF rfl (enter_of Tryz.func124 (by kernel_rfl) rfl) (args := #[.slice (some ⟨b2, 0, none⟩) 5 5]) rfl (v := .tuple #[.string ((fieldsPut ([numB o.fKind, o.fPath, o.fTo, numB o.fAt, o.fText])).1), .bool ((fieldsPut ([numB o.fKind, o.fPath, o.fTo, numB o.fAt, o.fText])).2)]) (fieldsPutI_any _ _ _ ([numB o.fKind, o.fPath, o.fTo, numB o.fAt, o.fText]) _ (HT.out.below HS2.out.bel) (by (try simp only [List.length_append, List.length_cons, List.length_nil, List.nil_append, List.length_map]); omega) (szs_cons (Nat.le_trans (numB_le _) (by decide)) (szs_cons (Nat.le_trans hfo.p (by decide)) (szs_cons (Nat.le_trans hfo.t (by decide)) (szs_cons (Nat.le_trans (numB_le _) (by decide)) (szs_cons (Nat.le_trans hfo.x (by decide)) szs_nil))))) (St.rdN HS2.out encS_len 0 rfl)) rfl rfl ?_
  intro w8 hb; replace HS := Bx.mk (HS.out.later hb); replace HS2 := Bx.mk (HS2.out.later hb);clear hb HF a;intro a HF; refine ⟨HS.out, ?_⟩
  refine zh 14 rfl HF (fun _ HS => (yl_move rfl (HF.ev rfl))) HS.out ?_;clear HF a;intro a HF
  refine zh 15 rfl HF (fun _ HS => (yl_extract rfl (HF.ev rfl) rfl)) HS.out ?_;clear HF a;intro a HF
  refine zh 16 rfl HF (fun _ HS => (yl_extract rfl (HF.ev rfl) rfl)) HS.out ?_;clear HF a;intro a HF
  refine zh 17 rfl HF (fun _ HS => (yl_assign rfl (HF.ev rfl))) HS.out ?_;clear HF a;intro a HF
  refine zh 18 rfl HF (fun _ HS => (yl_assign rfl (HF.ev rfl))) HS.out ?_;clear HF a;intro a HF
  refine wh_done (by kernel_rfl) ?_
  replace HS := HS2; clear HS2
  refine ex_then ?_
  refine wp_sr ?_
  refine zm HF ?_;clear HF a;intro a HF
  refine za HF ?_;clear HF a;intro a HF
  refine wl_ne ?_
  refine wp_ret ?_
  refine bp_ret1 HF Tryz.results92 (HF.res rfl) ?_
  exact ⟨by rw [opB_yes hok]; rfl, HS.out.bel⟩

def IntentD.ok (x : IntentD) : Bool := (bif inB x.fTxg 1 900 then (bif inB x.fSeq 1 4 then (bif nameB x.fHead then x.fOp.ok else false) else false) else false)

theorem implIntentOk_any (x : IntentD) (w0 : World) (hM : MaxP w0) (hfx : x.fits) : Calls Tryz.prog 46 #[.agg #[.int .i64 x.fTxg, .int .i64 x.fSeq, .string x.fHead, .int .i64 x.fOp.fKind, .string x.fOp.fPath, .string x.fOp.fTo, .int .i64 x.fOp.fAt, .string x.fOp.fText]] w0 fun e w' => e = .returned (.bool x.ok) ∧ Below w0.heap.size w0 w' := by
 have HM := Bx.mk hM; clear hM
 have HS := Bx.mk (St.start w0)
 refine wc_enter Tryz.func46 rfl Tryz.ntmps46 [(0, .agg #[.int .i64 x.fTxg, .int .i64 x.fSeq, .string x.fHead, .int .i64 x.fOp.fKind, .string x.fOp.fPath, .string x.fOp.fTo, .int .i64 x.fOp.fAt, .string x.fOp.fText])] ⟨rfl, trivial⟩ rfl ?_; intro a HF
 refine wp_sr ?_
 refine wl_box rfl HF rfl (HF.ev rfl) (Z := [.int .i64 x.fTxg, .int .i64 x.fSeq, .string x.fHead, .int .i64 x.fOp.fKind, .string x.fOp.fPath, .string x.fOp.fTo, .int .i64 x.fOp.fAt, .string x.fOp.fText]) rfl rfl rfl rfl HS.out ?_; clear HF HS a; intro a w1 b1 HF HS; replace HS := Bx.mk HS
 refine za HF ?_;clear HF a;intro a HF
 refine wl_ne ?_
 refine wp_sr ?_
 refine zy HF (yfa 0 rfl (HF.ev rfl)) ?_;clear HF a;intro a HF
 refine zy HF (ylo (v := .int .i64 x.fTxg) rfl (HF.ev rfl) (((HS.out.box 0 rfl).cell 0).trans rfl)) ?_;clear HF a;intro a HF
 refine wl_callB rfl HF rfl (enter_of Tryz.func52 (by kernel_rfl) rfl) (args := #[.int .i64 x.fTxg, .int .i64 1, .int .i64 900]) rfl (v := .bool (inB x.fTxg 1 900)) (((within_any x.fTxg 1 900 _).mono fun _ _ h => ⟨h.1, h.2 ▸ Below.refl _ _⟩)) rfl rfl HS.out ?_; clear HF HS a; intro w2 a HS HF; replace HS := Bx.mk HS
 refine zm HF ?_;clear HF a;intro a HF
 refine HF.cases 6 rfl (fun cc1 _ => ?_) fun cc1 _ => ?_
 ·clear HF;rename_i HF
  refine zg HF (yfa 1 rfl (HF.ev rfl)) ?_;clear HF a;intro a HF
  refine zg HF (ylo (v := .int .i64 x.fSeq) rfl (HF.ev rfl) (((HS.out.box 0 rfl).cell 1).trans rfl)) ?_;clear HF a;intro a HF
  refine wl_callBg HF rfl rfl rfl rfl (enter_of Tryz.func52 (by kernel_rfl) rfl) (args := #[.int .i64 x.fSeq, .int .i64 1, .int .i64 4]) rfl (v := .bool (inB x.fSeq 1 4)) (((within_any x.fSeq 1 4 _).mono fun _ _ h => ⟨h.1, h.2 ▸ Below.refl _ _⟩)) rfl rfl HS.out ?_; clear HF HS a; intro w3 a HS HF; replace HS := Bx.mk HS
  refine zy HF (yl_pick_t rfl (HF.ev rfl) (HF.ev rfl)) ?_;clear HF a;intro a HF
  refine zm HF ?_;clear HF a;intro a HF
  refine HF.cases 11 rfl (fun cc2 _ => ?_) fun cc2 _ => ?_
  ·clear HF;rename_i HF
   refine zg HF (yfa 2 rfl (HF.ev rfl)) ?_;clear HF a;intro a HF
   refine zg HF (ylo (v := .string x.fHead) rfl (HF.ev rfl) (((HS.out.box 0 rfl).cell 2).trans rfl)) ?_;clear HF a;intro a HF
   refine wl_callBg HF rfl rfl rfl rfl (enter_of Tryz.func90 (by kernel_rfl) rfl) (args := #[.string x.fHead]) rfl (v := .bool (nameB x.fHead)) (implNameOk_any x.fHead _ (Nat.le_trans hfx.h (by decide))) rfl rfl HS.out ?_; clear HF HS a; intro w4 a HS HF; replace HS := Bx.mk HS
   refine zy HF (yl_pick_t rfl (HF.ev rfl) (HF.ev rfl)) ?_;clear HF a;intro a HF
   refine zm HF ?_;clear HF a;intro a HF
   refine HF.cases 16 rfl (fun cc3 _ => ?_) fun cc3 _ => ?_
   ·clear HF;rename_i HF
    refine zg HF (yfa 3 rfl (HF.ev rfl)) ?_;clear HF a;intro a HF
    refine zg HF (ylr (cs := [.int .i64 x.fOp.fKind, .string x.fOp.fPath, .string x.fOp.fTo, .int .i64 x.fOp.fAt, .string x.fOp.fText]) rfl (HF.ev rfl) ((HS.out.box 0 rfl).sub 3 5)) ?_;clear HF a;intro a HF
    refine wl_callBg HF rfl rfl rfl rfl (enter_of Tryz.func91 (by kernel_rfl) rfl) (args := #[.agg #[.int .i64 x.fOp.fKind, .string x.fOp.fPath, .string x.fOp.fTo, .int .i64 x.fOp.fAt, .string x.fOp.fText]]) rfl (v := .bool x.fOp.ok) (implOpOk_any x.fOp _ (HM.out.below HS.out.bel) hfx.o.p hfx.o.t hfx.o.x) rfl rfl HS.out ?_; clear HF HS a; intro w5 a HS HF; replace HS := Bx.mk HS
    refine zy HF (yl_pick_t rfl (HF.ev rfl) (HF.ev rfl)) ?_;clear HF a;intro a HF
    refine za HF ?_;clear HF a;intro a HF
    refine wl_ne ?_
    refine wp_ret ?_
    refine bp_ret1 HF Tryz.results46 (HF.res rfl) ?_
    have hfn : IntentD.ok x = x.fOp.ok := by simp only [IntentD.ok, cc1, cc1, cc2, cc2, cc3, cc3, cond_true, cond_false]
    exact ⟨by rw [hfn] <;> rfl, HS.out.bel⟩
   ·clear HF;rename_i HF
    refine zk HF ?_;clear HF a;intro a HF
    refine zk HF ?_;clear HF a;intro a HF
    refine zk HF ?_;clear HF a;intro a HF
    refine zy HF (yl_pick_f rfl (HF.ev rfl) (HF.ev rfl)) ?_;clear HF a;intro a HF
    refine za HF ?_;clear HF a;intro a HF
    refine wl_ne ?_
    refine wp_ret ?_
    refine bp_ret1 HF Tryz.results46 (HF.res rfl) ?_
    have hfn : IntentD.ok x = false := by simp only [IntentD.ok, cc1, cc1, cc2, cc2, cc3, cc3, cond_true, cond_false]
    exact ⟨by rw [hfn] <;> rfl, HS.out.bel⟩
  ·clear HF;rename_i HF
   refine zk HF ?_;clear HF a;intro a HF
   refine zk HF ?_;clear HF a;intro a HF
   refine zk HF ?_;clear HF a;intro a HF
   refine zy HF (yl_pick_f rfl (HF.ev rfl) (HF.ev rfl)) ?_;clear HF a;intro a HF
   refine zm HF ?_;clear HF a;intro a HF
   refine zk HF ?_;clear HF a;intro a HF
   refine zk HF ?_;clear HF a;intro a HF
   refine zk HF ?_;clear HF a;intro a HF
   refine zy HF (yl_pick_f rfl (HF.ev rfl) (HF.ev rfl)) ?_;clear HF a;intro a HF
   refine za HF ?_;clear HF a;intro a HF
   refine wl_ne ?_
   refine wp_ret ?_
   refine bp_ret1 HF Tryz.results46 (HF.res rfl) ?_
   have hfn : IntentD.ok x = false := by simp only [IntentD.ok, cc1, cc1, cc2, cc2, cond_true, cond_false]
   exact ⟨by rw [hfn] <;> rfl, HS.out.bel⟩
 ·clear HF;rename_i HF
  refine zk HF ?_;clear HF a;intro a HF
  refine zk HF ?_;clear HF a;intro a HF
  refine zk HF ?_;clear HF a;intro a HF
  refine zy HF (yl_pick_f rfl (HF.ev rfl) (HF.ev rfl)) ?_;clear HF a;intro a HF
  refine zm HF ?_;clear HF a;intro a HF
  refine zk HF ?_;clear HF a;intro a HF
  refine zk HF ?_;clear HF a;intro a HF
  refine zk HF ?_;clear HF a;intro a HF
  refine zy HF (yl_pick_f rfl (HF.ev rfl) (HF.ev rfl)) ?_;clear HF a;intro a HF
  refine zm HF ?_;clear HF a;intro a HF
  refine zk HF ?_;clear HF a;intro a HF
  refine zk HF ?_;clear HF a;intro a HF
  refine zk HF ?_;clear HF a;intro a HF
  refine zy HF (yl_pick_f rfl (HF.ev rfl) (HF.ev rfl)) ?_;clear HF a;intro a HF
  refine za HF ?_;clear HF a;intro a HF
  refine wl_ne ?_
  refine wp_ret ?_
  refine bp_ret1 HF Tryz.results46 (HF.res rfl) ?_
  have hfn : IntentD.ok x = false := by simp only [IntentD.ok, cc1, cc1, cond_true, cond_false]
  exact ⟨by rw [hfn] <;> rfl, HS.out.bel⟩

theorem specOpPut_any (o : OpD) (w0 : World) (hfo : o.fits) : Calls Tryz.prog 133 #[.agg #[.int .i64 o.fKind, .string o.fPath, .string o.fTo, .int .i64 o.fAt, .string o.fText]] w0 fun e w' => e = .returned (.string (opB o)) ∧ Below w0.heap.size w0 w' := by
 have HS := Bx.mk (St.start w0)
 refine wc_enter Tryz.func133 rfl Tryz.ntmps133 [(0, .agg #[.int .i64 o.fKind, .string o.fPath, .string o.fTo, .int .i64 o.fAt, .string o.fText])] ⟨rfl, trivial⟩ rfl ?_; intro a HF
 refine wp_sr ?_
 refine wl_box rfl HF rfl (HF.ev rfl) (Z := [.int .i64 o.fKind, .string o.fPath, .string o.fTo, .int .i64 o.fAt, .string o.fText]) rfl rfl rfl rfl HS.out ?_; clear HF HS a; intro a w1 b1 HF HS; replace HS := Bx.mk HS
 refine za HF ?_;clear HF a;intro a HF
 refine wl_ne ?_
 refine wp_seq ?_
 refine wp_sr ?_
 refine zy HF (ylr (cs := [.int .i64 o.fKind, .string o.fPath, .string o.fTo, .int .i64 o.fAt, .string o.fText]) rfl (HF.ev rfl) ((HS.out.box 0 rfl).sub 0 5)) ?_;clear HF a;intro a HF
 refine wl_callB rfl HF rfl (enter_of Tryz.func88 (by kernel_rfl) rfl) (args := #[.agg #[.int .i64 o.fKind, .string o.fPath, .string o.fTo, .int .i64 o.fAt, .string o.fText]]) rfl (v := .bool o.ok) (specOpOk_any o _ hfo.p hfo.t hfo.x) rfl rfl HS.out ?_; clear HF HS a; intro w2 a HS HF; replace HS := Bx.mk HS
 refine zy HF (yl_not rfl (HF.ev rfl)) ?_;clear HF a;intro a HF
 refine wl_ne ?_
 refine HF.cases 7 rfl (fun cc1 _ => ?_) fun cc1 _ => ?_
 ·clear HF;rename_i HF
  refine wc_true HF rfl ?_
  refine wp_sr ?_
  refine za HF ?_;clear HF a;intro a HF
  refine wl_ne ?_
  refine wp_ret ?_
  refine ex_then_ret ?_
  refine bp_ret1 HF Tryz.results133 (HF.res rfl) ?_
  exact ⟨by rw [opB_no (by simpa using cc1)]; rfl, HS.out.bel⟩
 ·clear HF;rename_i HF
  refine wc_false HF rfl ?_
  refine wp_skip ?_
  refine ex_then ?_
  refine wp_seq ?_
  have hok : o.ok = true := by simpa using cc1
  have hb := OpD.ok_parts hok
  have hk1 : decB o.fKind.toNat = numB o.fKind := (numB_in (by omega) (by omega)).symm; have hk2 : decB o.fAt.toNat = numB o.fAt := (numB_in (by omega) (by omega)).symm; have hd1 : (decB o.fKind.toNat).size ≤ 19 := decB_20 (by omega); have hd2 : (decB o.fAt.toNat).size ≤ 19 := decB_20 (by omega)
  refine wr_heldS (s := [boxA b1 5 53 (.agg #[.int .i64 o.fKind, .string o.fPath, .string o.fTo, .int .i64 o.fAt, .string o.fText])]) (by kernel_rfl) (St.drew (HS.out)) ?_
  have HS2 := Bx.mk HS.out.drew; replace HS := Bx.mk (show St w0 ([boxA b1 5 53 (.agg #[.int .i64 o.fKind, .string o.fPath, .string o.fTo, .int .i64 o.fAt, .string o.fText])]) _ from HS.out.drew)
  generalize World.drew _ = w3 at HS HS2 ⊢
  refine zh 0 rfl HF (fun _ HS => (yfa 0 rfl (HF.ev rfl))) HS.out ?_;clear HF a;intro a HF
  refine zh 1 rfl HF (fun _ HS => (ylo (v := .int .i64 o.fKind) rfl (HF.ev rfl) (((HS.box 0 rfl).cell 0).trans rfl))) HS.out ?_;clear HF a;intro a HF
  refine zh 3 rfl HF (fun _ HS => (yfa 1 rfl (HF.ev rfl))) HS.out ?_;clear HF a;intro a HF
  refine zh 4 rfl HF (fun _ HS => (ylo (v := .string o.fPath) rfl (HF.ev rfl) (((HS.box 0 rfl).cell 1).trans rfl))) HS.out ?_;clear HF a;intro a HF
  refine zh 5 rfl HF (fun _ HS => (yfa 2 rfl (HF.ev rfl))) HS.out ?_;clear HF a;intro a HF
  refine zh 6 rfl HF (fun _ HS => (ylo (v := .string o.fTo) rfl (HF.ev rfl) (((HS.box 0 rfl).cell 2).trans rfl))) HS.out ?_;clear HF a;intro a HF
  refine zh 7 rfl HF (fun _ HS => (yfa 3 rfl (HF.ev rfl))) HS.out ?_;clear HF a;intro a HF
  refine zh 8 rfl HF (fun _ HS => (ylo (v := .int .i64 o.fAt) rfl (HF.ev rfl) (((HS.box 0 rfl).cell 3).trans rfl))) HS.out ?_;clear HF a;intro a HF
  refine zh 10 rfl HF (fun _ HS => (yfa 4 rfl (HF.ev rfl))) HS.out ?_;clear HF a;intro a HF
  refine zh 11 rfl HF (fun _ HS => (ylo (v := .string o.fText) rfl (HF.ev rfl) (((HS.box 0 rfl).cell 4).trans rfl))) HS.out ?_;clear HF a;intro a HF
  refine wh_one 2 (by kernel_rfl) ?_
  refine wo_callB rfl rfl HF rfl (enter_of Tryz.func65 (by kernel_rfl) rfl) (args := #[.int .i64 o.fKind]) rfl (v := .string (decB o.fKind.toNat)) (l6DecI_any o.fKind (by omega) (by omega) _) rfl rfl ?_
  intro w4 hb; replace HS := Bx.mk (HS.out.later hb); replace HS2 := Bx.mk (HS2.out.later hb);clear hb HF a;intro a HF; refine ⟨HS.out, ?_⟩
  refine wh_one 9 (by kernel_rfl) ?_
  refine wo_callB rfl rfl HF rfl (enter_of Tryz.func65 (by kernel_rfl) rfl) (args := #[.int .i64 o.fAt]) rfl (v := .string (decB o.fAt.toNat)) (l6DecI_any o.fAt (by omega) (by omega) _) rfl rfl ?_
  intro w5 hb; replace HS := Bx.mk (HS.out.later hb); replace HS2 := Bx.mk (HS2.out.later hb);clear hb HF a;intro a HF; refine ⟨HS.out, ?_⟩
  refine wh_one 12 (by kernel_rfl) ?_
  refine wo_buildS (enc := encS) (e := 9) (size := 1) rfl rfl HF rfl rfl rfl (ps := [(0, .string (decB o.fKind.toNat)), (1, .string o.fPath), (2, .string o.fTo), (3, .string (decB o.fAt.toNat)), (4, .string o.fText)]) rfl (cells := [.string (decB o.fKind.toNat), .string o.fPath, .string o.fTo, .string (decB o.fAt.toNat), .string o.fText]) (by kernel_rfl) [decB o.fKind.toNat, o.fPath, o.fTo, decB o.fAt.toNat, o.fText] rfl rfl (by unfold maxLen; omega) rfl HS2.out HS.out ?_; clear HF HS HS2 a; intro b2 a w7 HF HS2 HS; replace HS := Bx.mk HS; replace HS2 := Bx.mk HS2; refine ⟨HS.out, ?_⟩
  refine wh_one 13 (by kernel_rfl) ?_
  refine wo_callB rfl rfl HF rfl (enter_of Tryz.func67 (by kernel_rfl) rfl) (args := #[.slice (some ⟨b2, 0, none⟩) 5 5]) rfl (v := .tuple #[.string ((fieldsPut ([decB o.fKind.toNat, o.fPath, o.fTo, decB o.fAt.toNat, o.fText])).1), .bool ((fieldsPut ([decB o.fKind.toNat, o.fPath, o.fTo, decB o.fAt.toNat, o.fText])).2)]) (fieldsPutS_any _ _ _ ([decB o.fKind.toNat, o.fPath, o.fTo, decB o.fAt.toNat, o.fText]) _ (by (try simp only [List.length_append, List.length_cons, List.length_nil, List.nil_append, List.length_map]); omega) (szs_cons (by omega) (szs_cons (Nat.le_trans hfo.p (by decide)) (szs_cons (Nat.le_trans hfo.t (by decide)) (szs_cons (by omega) (szs_cons (Nat.le_trans hfo.x (by decide)) szs_nil))))) (St.rdN HS2.out encS_len 0 rfl)) rfl rfl ?_
  intro w8 hb; replace HS := Bx.mk (HS.out.later hb); replace HS2 := Bx.mk (HS2.out.later hb);clear hb HF a;intro a HF; refine ⟨HS.out, ?_⟩
  refine zh 14 rfl HF (fun _ HS => (yl_move rfl (HF.ev rfl))) HS.out ?_;clear HF a;intro a HF
  refine zh 15 rfl HF (fun _ HS => (yl_extract rfl (HF.ev rfl) rfl)) HS.out ?_;clear HF a;intro a HF
  refine zh 16 rfl HF (fun _ HS => (yl_extract rfl (HF.ev rfl) rfl)) HS.out ?_;clear HF a;intro a HF
  refine zh 17 rfl HF (fun _ HS => (yl_assign rfl (HF.ev rfl))) HS.out ?_;clear HF a;intro a HF
  refine zh 18 rfl HF (fun _ HS => (yl_assign rfl (HF.ev rfl))) HS.out ?_;clear HF a;intro a HF
  refine wh_done (by kernel_rfl) ?_
  replace HS := HS2; clear HS2
  refine ex_then ?_
  refine wp_sr ?_
  refine zm HF ?_;clear HF a;intro a HF
  refine za HF ?_;clear HF a;intro a HF
  refine wl_ne ?_
  refine wp_ret ?_
  refine bp_ret1 HF Tryz.results133 (HF.res rfl) ?_
  exact ⟨by rw [opB_yes hok, ← hk1, ← hk2]; rfl, HS.out.bel⟩

theorem specIntentOk_any (x : IntentD) (w0 : World) (hfx : x.fits) : Calls Tryz.prog 43 #[.agg #[.int .i64 x.fTxg, .int .i64 x.fSeq, .string x.fHead, .int .i64 x.fOp.fKind, .string x.fOp.fPath, .string x.fOp.fTo, .int .i64 x.fOp.fAt, .string x.fOp.fText]] w0 fun e w' => e = .returned (.bool x.ok) ∧ Below w0.heap.size w0 w' := by
 have HS := Bx.mk (St.start w0)
 refine wc_enter Tryz.func43 rfl Tryz.ntmps43 [(0, .agg #[.int .i64 x.fTxg, .int .i64 x.fSeq, .string x.fHead, .int .i64 x.fOp.fKind, .string x.fOp.fPath, .string x.fOp.fTo, .int .i64 x.fOp.fAt, .string x.fOp.fText])] ⟨rfl, trivial⟩ rfl ?_; intro a HF
 refine wp_sr ?_
 refine wl_box rfl HF rfl (HF.ev rfl) (Z := [.int .i64 x.fTxg, .int .i64 x.fSeq, .string x.fHead, .int .i64 x.fOp.fKind, .string x.fOp.fPath, .string x.fOp.fTo, .int .i64 x.fOp.fAt, .string x.fOp.fText]) rfl rfl rfl rfl HS.out ?_; clear HF HS a; intro a w1 b1 HF HS; replace HS := Bx.mk HS
 refine za HF ?_;clear HF a;intro a HF
 refine wl_ne ?_
 refine wp_sr ?_
 refine zy HF (yfa 0 rfl (HF.ev rfl)) ?_;clear HF a;intro a HF
 refine zy HF (ylo (v := .int .i64 x.fTxg) rfl (HF.ev rfl) (((HS.out.box 0 rfl).cell 0).trans rfl)) ?_;clear HF a;intro a HF
 refine wl_callB rfl HF rfl (enter_of Tryz.func61 (by kernel_rfl) rfl) (args := #[.int .i64 x.fTxg, .int .i64 1, .int .i64 900]) rfl (v := .bool (inB x.fTxg 1 900)) (((l6In_any x.fTxg 1 900 _).mono fun _ _ h => ⟨h.1, h.2 ▸ Below.refl _ _⟩)) rfl rfl HS.out ?_; clear HF HS a; intro w2 a HS HF; replace HS := Bx.mk HS
 refine zm HF ?_;clear HF a;intro a HF
 refine HF.cases 6 rfl (fun cc1 _ => ?_) fun cc1 _ => ?_
 ·clear HF;rename_i HF
  refine zg HF (yfa 1 rfl (HF.ev rfl)) ?_;clear HF a;intro a HF
  refine zg HF (ylo (v := .int .i64 x.fSeq) rfl (HF.ev rfl) (((HS.out.box 0 rfl).cell 1).trans rfl)) ?_;clear HF a;intro a HF
  refine wl_callBg HF rfl rfl rfl rfl (enter_of Tryz.func61 (by kernel_rfl) rfl) (args := #[.int .i64 x.fSeq, .int .i64 1, .int .i64 4]) rfl (v := .bool (inB x.fSeq 1 4)) (((l6In_any x.fSeq 1 4 _).mono fun _ _ h => ⟨h.1, h.2 ▸ Below.refl _ _⟩)) rfl rfl HS.out ?_; clear HF HS a; intro w3 a HS HF; replace HS := Bx.mk HS
  refine zy HF (yl_pick_t rfl (HF.ev rfl) (HF.ev rfl)) ?_;clear HF a;intro a HF
  refine zm HF ?_;clear HF a;intro a HF
  refine HF.cases 11 rfl (fun cc2 _ => ?_) fun cc2 _ => ?_
  ·clear HF;rename_i HF
   refine zg HF (yfa 2 rfl (HF.ev rfl)) ?_;clear HF a;intro a HF
   refine zg HF (ylo (v := .string x.fHead) rfl (HF.ev rfl) (((HS.out.box 0 rfl).cell 2).trans rfl)) ?_;clear HF a;intro a HF
   refine wl_callBg HF rfl rfl rfl rfl (enter_of Tryz.func87 (by kernel_rfl) rfl) (args := #[.string x.fHead]) rfl (v := .bool (nameB x.fHead)) (specNameOk_any x.fHead _ (Nat.le_trans hfx.h (by decide))) rfl rfl HS.out ?_; clear HF HS a; intro w4 a HS HF; replace HS := Bx.mk HS
   refine zy HF (yl_pick_t rfl (HF.ev rfl) (HF.ev rfl)) ?_;clear HF a;intro a HF
   refine zm HF ?_;clear HF a;intro a HF
   refine HF.cases 16 rfl (fun cc3 _ => ?_) fun cc3 _ => ?_
   ·clear HF;rename_i HF
    refine zg HF (yfa 3 rfl (HF.ev rfl)) ?_;clear HF a;intro a HF
    refine zg HF (ylr (cs := [.int .i64 x.fOp.fKind, .string x.fOp.fPath, .string x.fOp.fTo, .int .i64 x.fOp.fAt, .string x.fOp.fText]) rfl (HF.ev rfl) ((HS.out.box 0 rfl).sub 3 5)) ?_;clear HF a;intro a HF
    refine wl_callBg HF rfl rfl rfl rfl (enter_of Tryz.func88 (by kernel_rfl) rfl) (args := #[.agg #[.int .i64 x.fOp.fKind, .string x.fOp.fPath, .string x.fOp.fTo, .int .i64 x.fOp.fAt, .string x.fOp.fText]]) rfl (v := .bool x.fOp.ok) (specOpOk_any x.fOp _ hfx.o.p hfx.o.t hfx.o.x) rfl rfl HS.out ?_; clear HF HS a; intro w5 a HS HF; replace HS := Bx.mk HS
    refine zy HF (yl_pick_t rfl (HF.ev rfl) (HF.ev rfl)) ?_;clear HF a;intro a HF
    refine za HF ?_;clear HF a;intro a HF
    refine wl_ne ?_
    refine wp_ret ?_
    refine bp_ret1 HF Tryz.results43 (HF.res rfl) ?_
    have hfn : IntentD.ok x = x.fOp.ok := by simp only [IntentD.ok, cc1, cc1, cc2, cc2, cc3, cc3, cond_true, cond_false]
    exact ⟨by rw [hfn] <;> rfl, HS.out.bel⟩
   ·clear HF;rename_i HF
    refine zk HF ?_;clear HF a;intro a HF
    refine zk HF ?_;clear HF a;intro a HF
    refine zk HF ?_;clear HF a;intro a HF
    refine zy HF (yl_pick_f rfl (HF.ev rfl) (HF.ev rfl)) ?_;clear HF a;intro a HF
    refine za HF ?_;clear HF a;intro a HF
    refine wl_ne ?_
    refine wp_ret ?_
    refine bp_ret1 HF Tryz.results43 (HF.res rfl) ?_
    have hfn : IntentD.ok x = false := by simp only [IntentD.ok, cc1, cc1, cc2, cc2, cc3, cc3, cond_true, cond_false]
    exact ⟨by rw [hfn] <;> rfl, HS.out.bel⟩
  ·clear HF;rename_i HF
   refine zk HF ?_;clear HF a;intro a HF
   refine zk HF ?_;clear HF a;intro a HF
   refine zk HF ?_;clear HF a;intro a HF
   refine zy HF (yl_pick_f rfl (HF.ev rfl) (HF.ev rfl)) ?_;clear HF a;intro a HF
   refine zm HF ?_;clear HF a;intro a HF
   refine zk HF ?_;clear HF a;intro a HF
   refine zk HF ?_;clear HF a;intro a HF
   refine zk HF ?_;clear HF a;intro a HF
   refine zy HF (yl_pick_f rfl (HF.ev rfl) (HF.ev rfl)) ?_;clear HF a;intro a HF
   refine za HF ?_;clear HF a;intro a HF
   refine wl_ne ?_
   refine wp_ret ?_
   refine bp_ret1 HF Tryz.results43 (HF.res rfl) ?_
   have hfn : IntentD.ok x = false := by simp only [IntentD.ok, cc1, cc1, cc2, cc2, cond_true, cond_false]
   exact ⟨by rw [hfn] <;> rfl, HS.out.bel⟩
 ·clear HF;rename_i HF
  refine zk HF ?_;clear HF a;intro a HF
  refine zk HF ?_;clear HF a;intro a HF
  refine zk HF ?_;clear HF a;intro a HF
  refine zy HF (yl_pick_f rfl (HF.ev rfl) (HF.ev rfl)) ?_;clear HF a;intro a HF
  refine zm HF ?_;clear HF a;intro a HF
  refine zk HF ?_;clear HF a;intro a HF
  refine zk HF ?_;clear HF a;intro a HF
  refine zk HF ?_;clear HF a;intro a HF
  refine zy HF (yl_pick_f rfl (HF.ev rfl) (HF.ev rfl)) ?_;clear HF a;intro a HF
  refine zm HF ?_;clear HF a;intro a HF
  refine zk HF ?_;clear HF a;intro a HF
  refine zk HF ?_;clear HF a;intro a HF
  refine zk HF ?_;clear HF a;intro a HF
  refine zy HF (yl_pick_f rfl (HF.ev rfl) (HF.ev rfl)) ?_;clear HF a;intro a HF
  refine za HF ?_;clear HF a;intro a HF
  refine wl_ne ?_
  refine wp_ret ?_
  refine bp_ret1 HF Tryz.results43 (HF.res rfl) ?_
  have hfn : IntentD.ok x = false := by simp only [IntentD.ok, cc1, cc1, cond_true, cond_false]
  exact ⟨by rw [hfn] <;> rfl, HS.out.bel⟩

theorem IntentD.ok_parts {x : IntentD} (h : x.ok = true) : 1 ≤ x.fTxg ∧ x.fTxg ≤ 900 ∧ 1 ≤ x.fSeq ∧ x.fSeq ≤ 4 ∧ x.fOp.ok = true := by
  unfold IntentD.ok at h
  cases h1 : inB x.fTxg 1 900 with
  | false => rw [h1] at h; cases h
  | true =>
    cases h2 : inB x.fSeq 1 4 with
    | false => rw [h1, h2] at h; cases h
    | true =>
      cases h3 : nameB x.fHead with
      | false => rw [h1, h2, h3] at h; cases h
      | true => rw [h1, h2, h3] at h; have := inB_true h1; have := inB_true h2; exact ⟨by omega, by omega, by omega, by omega, h⟩
/-- The text of an intent. -/
def intentB (x : IntentD) : ByteArray := bif x.ok then signB [(⟨#[108, 111, 103]⟩ : ByteArray), numB x.fTxg, numB x.fSeq, x.fHead, opB x.fOp] else ByteArray.empty
theorem intentB_no {x : IntentD} (h : x.ok = false) : intentB x = ByteArray.empty := by unfold intentB; rw [h]; rfl
theorem intentB_yes {x : IntentD} (h : x.ok = true) : intentB x = signB [(⟨#[108, 111, 103]⟩ : ByteArray), numB x.fTxg, numB x.fSeq, x.fHead, opB x.fOp] := by unfold intentB; rw [h]; rfl
theorem intentB_le (x : IntentD) : (intentB x).size ≤ 2048 := by
  cases h : x.ok with
  | false => rw [intentB_no h]; exact Nat.zero_le _
  | true => rw [intentB_yes h]; exact signB_le _
/-- An intent written. -/
def intF (ds : List DiskD) (x : IntentD) : Option (List DiskD) := bif okR ds && x.ok then sameF ds ((4 : Int) + x.fSeq - (1 : Int)) (intentB x) else none
theorem intF_no {ds : List DiskD} {x : IntentD} (h : (okR ds && x.ok) = false) : intF ds x = none := by unfold intF; rw [h]; rfl
theorem intF_yes {ds : List DiskD} {x : IntentD} (h1 : okR ds = true) (h2 : x.ok = true) : intF ds x = sameF ds ((4 : Int) + x.fSeq - (1 : Int)) (intentB x) := by unfold intF; rw [h1, h2]; rfl

theorem implIntentPut_any (x : IntentD) (w0 : World) (hT : TabP w0) (hM : MaxP w0) (hfx : x.fits) : Calls Tryz.prog 47 #[.agg #[.int .i64 x.fTxg, .int .i64 x.fSeq, .string x.fHead, .int .i64 x.fOp.fKind, .string x.fOp.fPath, .string x.fOp.fTo, .int .i64 x.fOp.fAt, .string x.fOp.fText]] w0 fun e w' => e = .returned (.string (intentB x)) ∧ Below w0.heap.size w0 w' := by
 have HT := Bx.mk hT; clear hT
 have HM := Bx.mk hM; clear hM
 have HS := Bx.mk (St.start w0)
 refine wc_enter Tryz.func47 rfl Tryz.ntmps47 [(0, .agg #[.int .i64 x.fTxg, .int .i64 x.fSeq, .string x.fHead, .int .i64 x.fOp.fKind, .string x.fOp.fPath, .string x.fOp.fTo, .int .i64 x.fOp.fAt, .string x.fOp.fText])] ⟨rfl, trivial⟩ rfl ?_; intro a HF
 refine wp_sr ?_
 refine wl_box rfl HF rfl (HF.ev rfl) (Z := [.int .i64 x.fTxg, .int .i64 x.fSeq, .string x.fHead, .int .i64 x.fOp.fKind, .string x.fOp.fPath, .string x.fOp.fTo, .int .i64 x.fOp.fAt, .string x.fOp.fText]) rfl rfl rfl rfl HS.out ?_; clear HF HS a; intro a w1 b1 HF HS; replace HS := Bx.mk HS
 refine za HF ?_;clear HF a;intro a HF
 refine wl_ne ?_
 refine wp_seq ?_
 refine wp_sr ?_
 refine zy HF (ylr (cs := [.int .i64 x.fTxg, .int .i64 x.fSeq, .string x.fHead, .int .i64 x.fOp.fKind, .string x.fOp.fPath, .string x.fOp.fTo, .int .i64 x.fOp.fAt, .string x.fOp.fText]) rfl (HF.ev rfl) ((HS.out.box 0 rfl).sub 0 8)) ?_;clear HF a;intro a HF
 refine wl_callB rfl HF rfl (enter_of Tryz.func46 (by kernel_rfl) rfl) (args := #[.agg #[.int .i64 x.fTxg, .int .i64 x.fSeq, .string x.fHead, .int .i64 x.fOp.fKind, .string x.fOp.fPath, .string x.fOp.fTo, .int .i64 x.fOp.fAt, .string x.fOp.fText]]) rfl (v := .bool x.ok) (implIntentOk_any x _ (HM.out.below HS.out.bel) hfx) rfl rfl HS.out ?_; clear HF HS a; intro w2 a HS HF; replace HS := Bx.mk HS
 refine zy HF (yl_not rfl (HF.ev rfl)) ?_;clear HF a;intro a HF
 refine wl_ne ?_
 refine HF.cases 5 rfl (fun cc1 _ => ?_) fun cc1 _ => ?_
 ·clear HF;rename_i HF
  refine wc_true HF rfl ?_
  refine wp_sr ?_
  refine za HF ?_;clear HF a;intro a HF
  refine wl_ne ?_
  refine wp_ret ?_
  refine ex_then_ret ?_
  refine bp_ret1 HF Tryz.results47 (HF.res rfl) ?_
  exact ⟨by rw [intentB_no (by simpa using cc1)]; rfl, HS.out.bel⟩
 ·clear HF;rename_i HF
  refine wc_false HF rfl ?_
  refine wp_skip ?_
  refine ex_then ?_
  refine wp_seq ?_
  have hok : x.ok = true := by simpa using cc1
  have hb := IntentD.ok_parts hok
  refine wr_heldS (s := [boxA b1 8 55 (.agg #[.int .i64 x.fTxg, .int .i64 x.fSeq, .string x.fHead, .int .i64 x.fOp.fKind, .string x.fOp.fPath, .string x.fOp.fTo, .int .i64 x.fOp.fAt, .string x.fOp.fText])]) (by kernel_rfl) (St.drew (HS.out)) ?_
  have HS2 := Bx.mk HS.out.drew; replace HS := Bx.mk (show St w0 ([boxA b1 8 55 (.agg #[.int .i64 x.fTxg, .int .i64 x.fSeq, .string x.fHead, .int .i64 x.fOp.fKind, .string x.fOp.fPath, .string x.fOp.fTo, .int .i64 x.fOp.fAt, .string x.fOp.fText])]) _ from HS.out.drew)
  generalize World.drew _ = w3 at HS HS2 ⊢
  refine zh 0 rfl HF (fun _ HS => (yfa 0 rfl (HF.ev rfl))) HS.out ?_;clear HF a;intro a HF
  refine zh 1 rfl HF (fun _ HS => (ylo (v := .int .i64 x.fTxg) rfl (HF.ev rfl) (((HS.box 0 rfl).cell 0).trans rfl))) HS.out ?_;clear HF a;intro a HF
  refine zh 3 rfl HF (fun _ HS => (yfa 1 rfl (HF.ev rfl))) HS.out ?_;clear HF a;intro a HF
  refine zh 4 rfl HF (fun _ HS => (ylo (v := .int .i64 x.fSeq) rfl (HF.ev rfl) (((HS.box 0 rfl).cell 1).trans rfl))) HS.out ?_;clear HF a;intro a HF
  refine zh 6 rfl HF (fun _ HS => (yfa 2 rfl (HF.ev rfl))) HS.out ?_;clear HF a;intro a HF
  refine zh 7 rfl HF (fun _ HS => (ylo (v := .string x.fHead) rfl (HF.ev rfl) (((HS.box 0 rfl).cell 2).trans rfl))) HS.out ?_;clear HF a;intro a HF
  refine zh 8 rfl HF (fun _ HS => (yfa 3 rfl (HF.ev rfl))) HS.out ?_;clear HF a;intro a HF
  refine zh 9 rfl HF (fun _ HS => (ylr (cs := [.int .i64 x.fOp.fKind, .string x.fOp.fPath, .string x.fOp.fTo, .int .i64 x.fOp.fAt, .string x.fOp.fText]) rfl (HF.ev rfl) ((HS.box 0 rfl).sub 3 5))) HS.out ?_;clear HF a;intro a HF
  refine wh_one 2 (by kernel_rfl) ?_
  refine wo_callB rfl rfl HF rfl (enter_of Tryz.func80 (by kernel_rfl) rfl) (args := #[.int .i64 x.fTxg]) rfl (v := .string (numB x.fTxg)) (numPutI_any x.fTxg _ (HT.out.below HS2.out.bel)) rfl rfl ?_
  intro w4 hb; replace HS := Bx.mk (HS.out.later hb); replace HS2 := Bx.mk (HS2.out.later hb);clear hb HF a;intro a HF; refine ⟨HS.out, ?_⟩
  refine wh_one 5 (by kernel_rfl) ?_
  refine wo_callB rfl rfl HF rfl (enter_of Tryz.func80 (by kernel_rfl) rfl) (args := #[.int .i64 x.fSeq]) rfl (v := .string (numB x.fSeq)) (numPutI_any x.fSeq _ (HT.out.below HS2.out.bel)) rfl rfl ?_
  intro w5 hb; replace HS := Bx.mk (HS.out.later hb); replace HS2 := Bx.mk (HS2.out.later hb);clear hb HF a;intro a HF; refine ⟨HS.out, ?_⟩
  refine wh_one 10 (by kernel_rfl) ?_
  refine wo_callB rfl rfl HF rfl (enter_of Tryz.func92 (by kernel_rfl) rfl) (args := #[.agg #[.int .i64 x.fOp.fKind, .string x.fOp.fPath, .string x.fOp.fTo, .int .i64 x.fOp.fAt, .string x.fOp.fText]]) rfl (v := .string (opB x.fOp)) (implOpPut_any x.fOp _ (HT.out.below HS2.out.bel) (HM.out.below HS2.out.bel) hfx.o) rfl rfl ?_
  intro w6 hb; replace HS := Bx.mk (HS.out.later hb); replace HS2 := Bx.mk (HS2.out.later hb);clear hb HF a;intro a HF; refine ⟨HS.out, ?_⟩
  refine wh_one 11 (by kernel_rfl) ?_
  refine wo_buildS (enc := encS) (e := 9) (size := 1) rfl rfl HF rfl rfl rfl (ps := [(0, .string (⟨#[108, 111, 103]⟩ : ByteArray)), (1, .string (numB x.fTxg)), (2, .string (numB x.fSeq)), (3, .string x.fHead), (4, .string (opB x.fOp))]) rfl (cells := [.string (⟨#[108, 111, 103]⟩ : ByteArray), .string (numB x.fTxg), .string (numB x.fSeq), .string x.fHead, .string (opB x.fOp)]) (by kernel_rfl) [(⟨#[108, 111, 103]⟩ : ByteArray), numB x.fTxg, numB x.fSeq, x.fHead, opB x.fOp] rfl rfl (by unfold maxLen; omega) rfl HS2.out HS.out ?_; clear HF HS HS2 a; intro b2 a w8 HF HS2 HS; replace HS := Bx.mk HS; replace HS2 := Bx.mk HS2; refine ⟨HS.out, ?_⟩
  refine wh_one 12 (by kernel_rfl) ?_
  replace HS2:=Bx.mk (HS2.out.pick 0 rfl)
  refine wo_call rfl rfl HF rfl (enter_of Tryz.func79 (by kernel_rfl) rfl) (args := #[.slice (some ⟨b2, 0, none⟩) 5 5]) rfl (signed_any w0 _ _ _ _ ([(⟨#[108, 111, 103]⟩ : ByteArray), numB x.fTxg, numB x.fSeq, x.fHead, opB x.fOp]) _ HT.out (by simp) (szs_cons (by decide) (szs_cons (Nat.le_trans (numB_le _) (by decide)) (szs_cons (Nat.le_trans (numB_le _) (by decide)) (szs_cons (Nat.le_trans hfx.h (by decide)) (szs_cons (Nat.le_trans (opB_le _) (by decide)) szs_nil))))) HS2.out) rfl rfl ?_
  rintro _ w10 ⟨rfl, hs1⟩
  refine ⟨_, rfl, ?_⟩; replace HS2 := Bx.mk hs1;clear hs1 HF a;intro a HF
  replace HS2 : Bx (St w0 ([boxA b1 8 55 (.agg #[.int .i64 x.fTxg, .int .i64 x.fSeq, .string x.fHead, .int .i64 x.fOp.fKind, .string x.fOp.fPath, .string x.fOp.fTo, .int .i64 x.fOp.fAt, .string x.fOp.fText])]) _) := ⟨HS2.out⟩
  clear HS; have HS : Bx (St w0 ([boxA b1 8 55 (.agg #[.int .i64 x.fTxg, .int .i64 x.fSeq, .string x.fHead, .int .i64 x.fOp.fKind, .string x.fOp.fPath, .string x.fOp.fTo, .int .i64 x.fOp.fAt, .string x.fOp.fText])]) _) := ⟨HS2.out⟩; refine ⟨HS.out, ?_⟩
  refine zh 13 rfl HF (fun _ HS => (yl_assign rfl (HF.ev rfl))) HS.out ?_;clear HF a;intro a HF
  refine wh_done (by kernel_rfl) ?_
  replace HS := HS2; clear HS2
  refine ex_then ?_
  refine wp_ret ?_
  refine bp_ret1 HF Tryz.results47 (HF.res rfl) ?_
  exact ⟨by rw [intentB_yes hok], HS.out.bel⟩

theorem specIntentPut_any (x : IntentD) (w0 : World) (hfx : x.fits) : Calls Tryz.prog 89 #[.agg #[.int .i64 x.fTxg, .int .i64 x.fSeq, .string x.fHead, .int .i64 x.fOp.fKind, .string x.fOp.fPath, .string x.fOp.fTo, .int .i64 x.fOp.fAt, .string x.fOp.fText]] w0 fun e w' => e = .returned (.string (intentB x)) ∧ Below w0.heap.size w0 w' := by
 have HS := Bx.mk (St.start w0)
 refine wc_enter Tryz.func89 rfl Tryz.ntmps89 [(0, .agg #[.int .i64 x.fTxg, .int .i64 x.fSeq, .string x.fHead, .int .i64 x.fOp.fKind, .string x.fOp.fPath, .string x.fOp.fTo, .int .i64 x.fOp.fAt, .string x.fOp.fText])] ⟨rfl, trivial⟩ rfl ?_; intro a HF
 refine wp_sr ?_
 refine wl_box rfl HF rfl (HF.ev rfl) (Z := [.int .i64 x.fTxg, .int .i64 x.fSeq, .string x.fHead, .int .i64 x.fOp.fKind, .string x.fOp.fPath, .string x.fOp.fTo, .int .i64 x.fOp.fAt, .string x.fOp.fText]) rfl rfl rfl rfl HS.out ?_; clear HF HS a; intro a w1 b1 HF HS; replace HS := Bx.mk HS
 refine za HF ?_;clear HF a;intro a HF
 refine wl_ne ?_
 refine wp_seq ?_
 refine wp_sr ?_
 refine zy HF (ylr (cs := [.int .i64 x.fTxg, .int .i64 x.fSeq, .string x.fHead, .int .i64 x.fOp.fKind, .string x.fOp.fPath, .string x.fOp.fTo, .int .i64 x.fOp.fAt, .string x.fOp.fText]) rfl (HF.ev rfl) ((HS.out.box 0 rfl).sub 0 8)) ?_;clear HF a;intro a HF
 refine wl_callB rfl HF rfl (enter_of Tryz.func43 (by kernel_rfl) rfl) (args := #[.agg #[.int .i64 x.fTxg, .int .i64 x.fSeq, .string x.fHead, .int .i64 x.fOp.fKind, .string x.fOp.fPath, .string x.fOp.fTo, .int .i64 x.fOp.fAt, .string x.fOp.fText]]) rfl (v := .bool x.ok) (specIntentOk_any x _ hfx) rfl rfl HS.out ?_; clear HF HS a; intro w2 a HS HF; replace HS := Bx.mk HS
 refine zy HF (yl_not rfl (HF.ev rfl)) ?_;clear HF a;intro a HF
 refine wl_ne ?_
 refine HF.cases 10 rfl (fun cc1 _ => ?_) fun cc1 _ => ?_
 ·clear HF;rename_i HF
  refine wc_true HF rfl ?_
  refine wp_sr ?_
  refine za HF ?_;clear HF a;intro a HF
  refine wl_ne ?_
  refine wp_ret ?_
  refine ex_then_ret ?_
  refine bp_ret1 HF Tryz.results89 (HF.res rfl) ?_
  exact ⟨by rw [intentB_no (by simpa using cc1)]; rfl, HS.out.bel⟩
 ·clear HF;rename_i HF
  refine wc_false HF rfl ?_
  refine wp_skip ?_
  refine ex_then ?_
  refine wp_seq ?_
  have hok : x.ok = true := by simpa using cc1
  have hb := IntentD.ok_parts hok
  have hk1 : decB x.fTxg.toNat = numB x.fTxg := (numB_in (by omega) (by omega)).symm; have hk2 : decB x.fSeq.toNat = numB x.fSeq := (numB_in (by omega) (by omega)).symm; have hd1 : (decB x.fTxg.toNat).size ≤ 19 := decB_20 (by omega); have hd2 : (decB x.fSeq.toNat).size ≤ 19 := decB_20 (by omega)
  refine wr_heldS (s := [boxA b1 8 55 (.agg #[.int .i64 x.fTxg, .int .i64 x.fSeq, .string x.fHead, .int .i64 x.fOp.fKind, .string x.fOp.fPath, .string x.fOp.fTo, .int .i64 x.fOp.fAt, .string x.fOp.fText])]) (by kernel_rfl) (St.drew (HS.out)) ?_
  have HS2 := Bx.mk HS.out.drew; replace HS := Bx.mk (show St w0 ([boxA b1 8 55 (.agg #[.int .i64 x.fTxg, .int .i64 x.fSeq, .string x.fHead, .int .i64 x.fOp.fKind, .string x.fOp.fPath, .string x.fOp.fTo, .int .i64 x.fOp.fAt, .string x.fOp.fText])]) _ from HS.out.drew)
  generalize World.drew _ = w3 at HS HS2 ⊢
  refine zh 0 rfl HF (fun _ HS => (yfa 0 rfl (HF.ev rfl))) HS.out ?_;clear HF a;intro a HF
  refine zh 1 rfl HF (fun _ HS => (ylo (v := .int .i64 x.fTxg) rfl (HF.ev rfl) (((HS.box 0 rfl).cell 0).trans rfl))) HS.out ?_;clear HF a;intro a HF
  refine zh 3 rfl HF (fun _ HS => (yfa 1 rfl (HF.ev rfl))) HS.out ?_;clear HF a;intro a HF
  refine zh 4 rfl HF (fun _ HS => (ylo (v := .int .i64 x.fSeq) rfl (HF.ev rfl) (((HS.box 0 rfl).cell 1).trans rfl))) HS.out ?_;clear HF a;intro a HF
  refine zh 6 rfl HF (fun _ HS => (yfa 2 rfl (HF.ev rfl))) HS.out ?_;clear HF a;intro a HF
  refine zh 7 rfl HF (fun _ HS => (ylo (v := .string x.fHead) rfl (HF.ev rfl) (((HS.box 0 rfl).cell 2).trans rfl))) HS.out ?_;clear HF a;intro a HF
  refine zh 8 rfl HF (fun _ HS => (yfa 3 rfl (HF.ev rfl))) HS.out ?_;clear HF a;intro a HF
  refine zh 9 rfl HF (fun _ HS => (ylr (cs := [.int .i64 x.fOp.fKind, .string x.fOp.fPath, .string x.fOp.fTo, .int .i64 x.fOp.fAt, .string x.fOp.fText]) rfl (HF.ev rfl) ((HS.box 0 rfl).sub 3 5))) HS.out ?_;clear HF a;intro a HF
  refine wh_one 2 (by kernel_rfl) ?_
  refine wo_callB rfl rfl HF rfl (enter_of Tryz.func65 (by kernel_rfl) rfl) (args := #[.int .i64 x.fTxg]) rfl (v := .string (decB x.fTxg.toNat)) (l6DecI_any x.fTxg (by omega) (by omega) _) rfl rfl ?_
  intro w4 hb; replace HS := Bx.mk (HS.out.later hb); replace HS2 := Bx.mk (HS2.out.later hb);clear hb HF a;intro a HF; refine ⟨HS.out, ?_⟩
  refine wh_one 5 (by kernel_rfl) ?_
  refine wo_callB rfl rfl HF rfl (enter_of Tryz.func65 (by kernel_rfl) rfl) (args := #[.int .i64 x.fSeq]) rfl (v := .string (decB x.fSeq.toNat)) (l6DecI_any x.fSeq (by omega) (by omega) _) rfl rfl ?_
  intro w5 hb; replace HS := Bx.mk (HS.out.later hb); replace HS2 := Bx.mk (HS2.out.later hb);clear hb HF a;intro a HF; refine ⟨HS.out, ?_⟩
  refine wh_one 10 (by kernel_rfl) ?_
  refine wo_callB rfl rfl HF rfl (enter_of Tryz.func133 (by kernel_rfl) rfl) (args := #[.agg #[.int .i64 x.fOp.fKind, .string x.fOp.fPath, .string x.fOp.fTo, .int .i64 x.fOp.fAt, .string x.fOp.fText]]) rfl (v := .string (opB x.fOp)) (specOpPut_any x.fOp _ hfx.o) rfl rfl ?_
  intro w6 hb; replace HS := Bx.mk (HS.out.later hb); replace HS2 := Bx.mk (HS2.out.later hb);clear hb HF a;intro a HF; refine ⟨HS.out, ?_⟩
  refine wh_one 11 (by kernel_rfl) ?_
  refine wo_buildS (enc := encS) (e := 9) (size := 1) rfl rfl HF rfl rfl rfl (ps := [(0, .string (⟨#[108, 111, 103]⟩ : ByteArray)), (1, .string (decB x.fTxg.toNat)), (2, .string (decB x.fSeq.toNat)), (3, .string x.fHead), (4, .string (opB x.fOp))]) rfl (cells := [.string (⟨#[108, 111, 103]⟩ : ByteArray), .string (decB x.fTxg.toNat), .string (decB x.fSeq.toNat), .string x.fHead, .string (opB x.fOp)]) (by kernel_rfl) [(⟨#[108, 111, 103]⟩ : ByteArray), decB x.fTxg.toNat, decB x.fSeq.toNat, x.fHead, opB x.fOp] rfl rfl (by unfold maxLen; omega) rfl HS2.out HS.out ?_; clear HF HS HS2 a; intro b2 a w8 HF HS2 HS; replace HS := Bx.mk HS; replace HS2 := Bx.mk HS2; refine ⟨HS.out, ?_⟩
  refine zh 12 rfl HF (fun _ HS => (yl_assign rfl (HF.ev rfl))) HS.out ?_;clear HF a;intro a HF
  refine wh_done (by kernel_rfl) ?_
  replace HS := HS2; clear HS2
  refine ex_then ?_
  refine wp_sr ?_
  refine zm HF ?_;clear HF a;intro a HF
  refine wl_callB rfl HF rfl (enter_of Tryz.func67 (by kernel_rfl) rfl) (args := #[.slice (some ⟨b2, 0, none⟩) 5 5]) rfl (v := .tuple #[.string ((fieldsPut ([(⟨#[108, 111, 103]⟩ : ByteArray), decB x.fTxg.toNat, decB x.fSeq.toNat, x.fHead, opB x.fOp])).1), .bool ((fieldsPut ([(⟨#[108, 111, 103]⟩ : ByteArray), decB x.fTxg.toNat, decB x.fSeq.toNat, x.fHead, opB x.fOp])).2)]) (fieldsPutS_any _ _ _ ([(⟨#[108, 111, 103]⟩ : ByteArray), decB x.fTxg.toNat, decB x.fSeq.toNat, x.fHead, opB x.fOp]) _ (by (try simp only [List.length_append, List.length_cons, List.length_nil, List.nil_append, List.length_map]); omega) (szs_cons (by decide) (szs_cons (by omega) (szs_cons (by omega) (szs_cons (Nat.le_trans hfx.h (by decide)) (szs_cons (Nat.le_trans (opB_le _) (by decide)) szs_nil))))) (St.rdN HS.out encS_len 0 rfl)) rfl rfl HS.out ?_; clear HF HS a; intro w9 a HS HF; replace HS := Bx.mk HS
  refine zm HF ?_;clear HF a;intro a HF
  refine zy HF (yl_extract rfl (HF.ev rfl) rfl) ?_;clear HF a;intro a HF
  refine zy HF (yl_extract rfl (HF.ev rfl) rfl) ?_;clear HF a;intro a HF
  refine za HF ?_;clear HF a;intro a HF
  refine za HF ?_;clear HF a;intro a HF
  refine wl_ne ?_
  refine wp_seq ?_
  have hfz := fieldsPut_le ([(⟨#[108, 111, 103]⟩ : ByteArray), decB x.fTxg.toNat, decB x.fSeq.toNat, x.fHead, opB x.fOp]); have hsm := sumOf_le (fieldsPut ([(⟨#[108, 111, 103]⟩ : ByteArray), decB x.fTxg.toNat, decB x.fSeq.toNat, x.fHead, opB x.fOp])).1; have hsl : (decB (sumOf (fieldsPut ([(⟨#[108, 111, 103]⟩ : ByteArray), decB x.fTxg.toNat, decB x.fSeq.toNat, x.fHead, opB x.fOp])).1).toNat).size ≤ 19 := decB_20 (by omega)
  refine wp_region_lit ?_
  refine zm HF ?_;clear HF a;intro a HF
  refine zm HF ?_;clear HF a;intro a HF
  refine wl_callB rfl HF rfl (enter_of Tryz.func68 (by kernel_rfl) rfl) (args := #[.string ((fieldsPut ([(⟨#[108, 111, 103]⟩ : ByteArray), decB x.fTxg.toNat, decB x.fSeq.toNat, x.fHead, opB x.fOp])).1)]) rfl (v := .int .i64 (sumOf ((fieldsPut ([(⟨#[108, 111, 103]⟩ : ByteArray), decB x.fTxg.toNat, decB x.fSeq.toNat, x.fHead, opB x.fOp])).1))) (sumOfS_any ((fieldsPut ([(⟨#[108, 111, 103]⟩ : ByteArray), decB x.fTxg.toNat, decB x.fSeq.toNat, x.fHead, opB x.fOp])).1) _ (by omega)) rfl rfl HS.out ?_; clear HF HS a; intro w10 a HS HF; replace HS := Bx.mk HS
  refine wl_callB rfl HF rfl (enter_of Tryz.func65 (by kernel_rfl) rfl) (args := #[.int .i64 (sumOf ((fieldsPut ([(⟨#[108, 111, 103]⟩ : ByteArray), decB x.fTxg.toNat, decB x.fSeq.toNat, x.fHead, opB x.fOp])).1))]) rfl (v := .string (decB (sumOf ((fieldsPut ([(⟨#[108, 111, 103]⟩ : ByteArray), decB x.fTxg.toNat, decB x.fSeq.toNat, x.fHead, opB x.fOp])).1)).toNat)) (l6DecI_any (sumOf ((fieldsPut ([(⟨#[108, 111, 103]⟩ : ByteArray), decB x.fTxg.toNat, decB x.fSeq.toNat, x.fHead, opB x.fOp])).1)) (by omega) (by omega) _) rfl rfl HS.out ?_; clear HF HS a; intro w11 a HS HF; replace HS := Bx.mk HS
  refine wl_buildS (enc := encS) (e := 9) (size := 1) rfl HF rfl rfl rfl (ps := [(0, .string (decB (sumOf ((fieldsPut ([(⟨#[108, 111, 103]⟩ : ByteArray), decB x.fTxg.toNat, decB x.fSeq.toNat, x.fHead, opB x.fOp])).1)).toNat))]) rfl (cells := [.string (decB (sumOf ((fieldsPut ([(⟨#[108, 111, 103]⟩ : ByteArray), decB x.fTxg.toNat, decB x.fSeq.toNat, x.fHead, opB x.fOp])).1)).toNat)]) (by kernel_rfl) [decB (sumOf ((fieldsPut ([(⟨#[108, 111, 103]⟩ : ByteArray), decB x.fTxg.toNat, decB x.fSeq.toNat, x.fHead, opB x.fOp])).1)).toNat] rfl rfl (by unfold maxLen; omega) rfl HS.out ?_; clear HF HS a; intro b3 a w12 HF HS; replace HS := Bx.mk HS
  refine wl_appL rfl HF rfl rfl rfl (HF.ev rfl) (HF.ev rfl) elemS encS_len HS.out 1 (xs := [(⟨#[108, 111, 103]⟩ : ByteArray), decB x.fTxg.toNat, decB x.fSeq.toNat, x.fHead, opB x.fOp]) rfl (ys := [decB (sumOf ((fieldsPut ([(⟨#[108, 111, 103]⟩ : ByteArray), decB x.fTxg.toNat, decB x.fSeq.toNat, x.fHead, opB x.fOp])).1)).toNat]) (St.rdN HS.out encS_len 0 rfl) (cells_one_S _) (by unfold maxLen; (try simp only [List.length_append, List.length_cons, List.length_nil, List.nil_append, List.length_map]); omega) (by (try simp only [List.length_append, List.length_cons, List.length_nil, List.nil_append, List.length_map]); omega) ?_; clear HF HS a; intro ao4 cp5 w13 a HF HS; replace HS := Bx.mk HS
  try dsimp only [List.eraseIdx] at HS
  refine wl_callB rfl HF rfl (enter_of Tryz.func67 (by kernel_rfl) rfl) (args := #[.slice ao4 (([(⟨#[108, 111, 103]⟩ : ByteArray), decB x.fTxg.toNat, decB x.fSeq.toNat, x.fHead, opB x.fOp]).length + ([decB (sumOf ((fieldsPut ([(⟨#[108, 111, 103]⟩ : ByteArray), decB x.fTxg.toNat, decB x.fSeq.toNat, x.fHead, opB x.fOp])).1)).toNat]).length) cp5]) rfl (v := .tuple #[.string ((fieldsPut (([(⟨#[108, 111, 103]⟩ : ByteArray), decB x.fTxg.toNat, decB x.fSeq.toNat, x.fHead, opB x.fOp]) ++ ([decB (sumOf ((fieldsPut ([(⟨#[108, 111, 103]⟩ : ByteArray), decB x.fTxg.toNat, decB x.fSeq.toNat, x.fHead, opB x.fOp])).1)).toNat]))).1), .bool ((fieldsPut (([(⟨#[108, 111, 103]⟩ : ByteArray), decB x.fTxg.toNat, decB x.fSeq.toNat, x.fHead, opB x.fOp]) ++ ([decB (sumOf ((fieldsPut ([(⟨#[108, 111, 103]⟩ : ByteArray), decB x.fTxg.toNat, decB x.fSeq.toNat, x.fHead, opB x.fOp])).1)).toNat]))).2)]) (fieldsPutS_any _ _ _ (([(⟨#[108, 111, 103]⟩ : ByteArray), decB x.fTxg.toNat, decB x.fSeq.toNat, x.fHead, opB x.fOp]) ++ ([decB (sumOf ((fieldsPut ([(⟨#[108, 111, 103]⟩ : ByteArray), decB x.fTxg.toNat, decB x.fSeq.toNat, x.fHead, opB x.fOp])).1)).toNat])) _ (by (try simp only [List.length_append, List.length_cons, List.length_nil, List.nil_append, List.length_map]); omega) (szs_app (szs_cons (by decide) (szs_cons (by omega) (szs_cons (by omega) (szs_cons (Nat.le_trans hfx.h (by decide)) (szs_cons (Nat.le_trans (opB_le _) (by decide)) szs_nil))))) (szs_cons (by omega) szs_nil)) (St.rdN HS.out encS_len 1 rfl)) rfl rfl HS.out ?_; clear HF HS a; intro w14 a HS HF; replace HS := Bx.mk HS
  refine zm HF ?_;clear HF a;intro a HF
  refine zy HF (yl_extract rfl (HF.ev rfl) rfl) ?_;clear HF a;intro a HF
  refine zy HF (yl_extract rfl (HF.ev rfl) rfl) ?_;clear HF a;intro a HF
  refine za HF ?_;clear HF a;intro a HF
  refine za HF ?_;clear HF a;intro a HF
  refine wl_ne ?_
  refine wp_sr ?_
  refine zm HF ?_;clear HF a;intro a HF
  refine za HF ?_;clear HF a;intro a HF
  refine wl_ne ?_
  refine wp_ret ?_
  refine bp_ret1 HF Tryz.results89 (HF.res rfl) ?_
  exact ⟨by rw [intentB_yes hok, ← hk1, ← hk2]; rfl, HS.out.bel⟩

theorem l23Write_any (w0 w : World) (ga ca : Nat) (qs : List HD) (F : List Asr) (x : IntentD) (hfx : x.fits) (hxk : x.ok = true) (hok : okR (dsOf qs) = true) (hql : qs.length = 3) (hS : St w0 (rowA HD.cells 3 94 (.slice (some ⟨ga, 0, none⟩) qs.length ca) qs :: sepA (qs.map HD.asr) :: F) w) : Calls Tryz.prog 44 #[.agg #[.slice (some ⟨ga, 0, none⟩) qs.length ca], .agg #[.int .i64 x.fTxg, .int .i64 x.fSeq, .string x.fHead, .int .i64 x.fOp.fKind, .string x.fOp.fPath, .string x.fOp.fTo, .int .i64 x.fOp.fAt, .string x.fOp.fText]] w fun e w' => (sameF (dsOf qs) ((4 : Int) + x.fSeq - (1 : Int)) (intentB x) = none ∧ e = .returned (.tuple #[.agg #[.slice none 0 0], .bool false]) ∧ St w0 F w') ∨ (∃ zs, sameF (dsOf qs) ((4 : Int) + x.fSeq - (1 : Int)) (intentB x) = some (dsOf zs) ∧ zs.length = qs.length ∧ e = .returned (.tuple #[.agg #[.slice (some ⟨ga, 0, none⟩) qs.length ca], .bool true]) ∧ St w0 (rowA HD.cells 3 94 (.slice (some ⟨ga, 0, none⟩) qs.length ca) zs :: sepA (zs.map HD.asr) :: F) w') := by
 have hb := IntentD.ok_parts hxk
 have HS := Bx.mk hS; clear hS
 refine wc_enter Tryz.func44 rfl Tryz.ntmps44 [(0, .agg #[.slice (some ⟨ga, 0, none⟩) qs.length ca]), (1, .agg #[.int .i64 x.fTxg, .int .i64 x.fSeq, .string x.fHead, .int .i64 x.fOp.fKind, .string x.fOp.fPath, .string x.fOp.fTo, .int .i64 x.fOp.fAt, .string x.fOp.fText])] ⟨rfl, rfl, trivial⟩ rfl ?_; intro a HF
 refine wp_sr ?_
 refine wl_box rfl HF rfl (HF.ev rfl) (Z := [.slice (some ⟨ga, 0, none⟩) qs.length ca]) rfl rfl rfl rfl HS.out ?_; clear HF HS a; intro a w1 b1 HF HS; replace HS := Bx.mk HS
 refine wl_box rfl HF rfl (HF.ev rfl) (Z := [.int .i64 x.fTxg, .int .i64 x.fSeq, .string x.fHead, .int .i64 x.fOp.fKind, .string x.fOp.fPath, .string x.fOp.fTo, .int .i64 x.fOp.fAt, .string x.fOp.fText]) rfl rfl rfl rfl HS.out ?_; clear HF HS a; intro a w2 b2 HF HS; replace HS := Bx.mk HS
 refine wl_alloc rfl HF rfl rfl rfl (Z := [.slice none 0 0]) (by kernel_rfl) rfl HS.out ?_; clear HF HS a; intro a w3 b3 HF HS; replace HS := Bx.mk HS
 refine za HF ?_;clear HF a;intro a HF
 refine wl_ne ?_
 refine wp_seq ?_
 refine wr_heldS (s := boxA b2 8 55 (.agg #[.int .i64 x.fTxg, .int .i64 x.fSeq, .string x.fHead, .int .i64 x.fOp.fKind, .string x.fOp.fPath, .string x.fOp.fTo, .int .i64 x.fOp.fAt, .string x.fOp.fText]) :: boxA b1 1 34 (.agg #[.slice (some ⟨ga, 0, none⟩) qs.length ca]) :: F) (by kernel_rfl) (St.drew ((((HS.out.erase 4).erase 3).erase 0))) ?_
 have HS2 := Bx.mk HS.out.drew; replace HS := Bx.mk (show St w0 (boxA b2 8 55 (.agg #[.int .i64 x.fTxg, .int .i64 x.fSeq, .string x.fHead, .int .i64 x.fOp.fKind, .string x.fOp.fPath, .string x.fOp.fTo, .int .i64 x.fOp.fAt, .string x.fOp.fText]) :: boxA b1 1 34 (.agg #[.slice (some ⟨ga, 0, none⟩) qs.length ca]) :: F) _ from (((HS.out.drew.erase 4).erase 3).erase 0))
 generalize World.drew _ = w4 at HS HS2 ⊢
 refine zh 0 rfl HF (fun _ HS => (ylr (cs := [.slice (some ⟨ga, 0, none⟩) qs.length ca]) rfl (HF.ev rfl) ((HS.box 1 rfl).sub 0 1))) HS.out ?_;clear HF a;intro a HF
 refine zh 1 rfl HF (fun _ HS => (yfa 1 rfl (HF.ev rfl))) HS.out ?_;clear HF a;intro a HF
 refine zh 2 rfl HF (fun _ HS => (ylo (v := .int .i64 x.fSeq) rfl (HF.ev rfl) (((HS.box 0 rfl).cell 1).trans rfl))) HS.out ?_;clear HF a;intro a HF
 refine zh 3 rfl HF (fun _ HS => (yl_addI rfl (HF.ev rfl) (HF.ev rfl) (i64w (by omega)))) HS.out ?_;clear HF a;intro a HF
 refine zh 4 rfl HF (fun _ HS => (yl_subI rfl (HF.ev rfl) (HF.ev rfl) (i64w (by omega)))) HS.out ?_;clear HF a;intro a HF
 refine zh 5 rfl HF (fun _ HS => (ylr (cs := [.int .i64 x.fTxg, .int .i64 x.fSeq, .string x.fHead, .int .i64 x.fOp.fKind, .string x.fOp.fPath, .string x.fOp.fTo, .int .i64 x.fOp.fAt, .string x.fOp.fText]) rfl (HF.ev rfl) ((HS.box 0 rfl).sub 0 8))) HS.out ?_;clear HF a;intro a HF
 refine wh_one 6 (by kernel_rfl) ?_
 refine wo_callB rfl rfl HF rfl (enter_of Tryz.func89 (by kernel_rfl) rfl) (args := #[.agg #[.int .i64 x.fTxg, .int .i64 x.fSeq, .string x.fHead, .int .i64 x.fOp.fKind, .string x.fOp.fPath, .string x.fOp.fTo, .int .i64 x.fOp.fAt, .string x.fOp.fText]]) rfl (v := .string (intentB x)) (specIntentPut_any x _ hfx) rfl rfl ?_
 intro w5 hb; replace HS := Bx.mk (HS.out.later hb); replace HS2 := Bx.mk (HS2.out.later hb);clear hb HF a;intro a HF; refine ⟨HS.out, ?_⟩
 refine wh_one 7 (by kernel_rfl) ?_
 replace HS2:=Bx.mk ((HS2.out.pick 4 rfl).pick 4 rfl)
 refine wo_call rfl rfl HF rfl (enter_of Tryz.func30 (by kernel_rfl) rfl) (args := #[.agg #[.slice (some ⟨ga, 0, none⟩) qs.length ca], .int .i64 (((4 : Int) + x.fSeq) - 1), .string (intentB x)]) rfl (l22Same_any w0 _ ga ca qs _ ((4 : Int) + x.fSeq - (1 : Int)) (by omega) (by omega) (intentB x) (intentB_le x) hok hql HS2.out) rfl rfl ?_
 rintro _ w7 (⟨hev, rfl, hs⟩ | ⟨zs, hev, hzl, rfl, hs⟩)
 ·skip
  refine ⟨_, rfl, ?_⟩; replace HS2 := Bx.mk hs;clear hs HF a;intro a HF
  replace HS2 : Bx (St w0 (boxA b3 1 34 (.agg #[.slice none 0 0]) :: boxA b2 8 55 (.agg #[.int .i64 x.fTxg, .int .i64 x.fSeq, .string x.fHead, .int .i64 x.fOp.fKind, .string x.fOp.fPath, .string x.fOp.fTo, .int .i64 x.fOp.fAt, .string x.fOp.fText]) :: boxA b1 1 34 (.agg #[.slice (some ⟨ga, 0, none⟩) qs.length ca]) :: F) _) := ⟨HS2.out⟩; clear HS; have HS : Bx (St w0 (boxA b2 8 55 (.agg #[.int .i64 x.fTxg, .int .i64 x.fSeq, .string x.fHead, .int .i64 x.fOp.fKind, .string x.fOp.fPath, .string x.fOp.fTo, .int .i64 x.fOp.fAt, .string x.fOp.fText]) :: boxA b1 1 34 (.agg #[.slice (some ⟨ga, 0, none⟩) qs.length ca]) :: F) _) := ⟨(HS2.out.erase 0)⟩; refine ⟨HS.out, ?_⟩
  refine zh 8 rfl HF (fun _ HS => (yl_extract rfl (HF.ev rfl) rfl)) HS.out ?_;clear HF a;intro a HF
  refine zh 9 rfl HF (fun _ HS => (yl_extract rfl (HF.ev rfl) rfl)) HS.out ?_;clear HF a;intro a HF
  refine wh_one 10 (by kernel_rfl) ?_
  refine wo_storeBox rfl rfl rfl rfl (HF.ev rfl) (HF.ev rfl) HS2.out 0 rfl (cells_lit [.slice none 0 0] rfl rfl) (by kernel_rfl) ?_
  clear HS HS2; intro w8 HS2; replace HS2 : Bx (St w0 (boxA b3 1 34 (.agg #[.slice none 0 0]) :: boxA b2 8 55 (.agg #[.int .i64 x.fTxg, .int .i64 x.fSeq, .string x.fHead, .int .i64 x.fOp.fKind, .string x.fOp.fPath, .string x.fOp.fTo, .int .i64 x.fOp.fAt, .string x.fOp.fText]) :: boxA b1 1 34 (.agg #[.slice (some ⟨ga, 0, none⟩) qs.length ca]) :: F) _) := ⟨HS2⟩
  have HS : Bx (St w0 (boxA b2 8 55 (.agg #[.int .i64 x.fTxg, .int .i64 x.fSeq, .string x.fHead, .int .i64 x.fOp.fKind, .string x.fOp.fPath, .string x.fOp.fTo, .int .i64 x.fOp.fAt, .string x.fOp.fText]) :: boxA b1 1 34 (.agg #[.slice (some ⟨ga, 0, none⟩) qs.length ca]) :: F) _) := ⟨(HS2.out.erase 0)⟩; refine ⟨HS.out, ?_⟩
  refine zh 11 rfl HF (fun _ HS => (yl_assign rfl (HF.ev rfl))) HS.out ?_;clear HF a;intro a HF
  refine wh_done (by kernel_rfl) ?_
  replace HS := HS2; clear HS2
  refine ex_then ?_
  refine wp_ret ?_
  refine bp_ret2 HF Tryz.results44 (HF.resBox rfl (HS.out.box 0 rfl) (by kernel_rfl)) (HF.res rfl) ?_
  exact .inl ⟨hev, rfl, (((HS.out.erase 2).erase 1).erase 0)⟩
 ·skip
  refine ⟨_, rfl, ?_⟩; replace HS2 := Bx.mk hs;clear hs HF a;intro a HF
  replace HS2 : Bx (St w0 (rowA HD.cells 3 94 (.slice (some ⟨ga, 0, none⟩) qs.length ca) zs :: sepA (zs.map HD.asr) :: boxA b3 1 34 (.agg #[.slice none 0 0]) :: boxA b2 8 55 (.agg #[.int .i64 x.fTxg, .int .i64 x.fSeq, .string x.fHead, .int .i64 x.fOp.fKind, .string x.fOp.fPath, .string x.fOp.fTo, .int .i64 x.fOp.fAt, .string x.fOp.fText]) :: boxA b1 1 34 (.agg #[.slice (some ⟨ga, 0, none⟩) qs.length ca]) :: F) _) := ⟨HS2.out⟩; clear HS; have HS : Bx (St w0 (boxA b2 8 55 (.agg #[.int .i64 x.fTxg, .int .i64 x.fSeq, .string x.fHead, .int .i64 x.fOp.fKind, .string x.fOp.fPath, .string x.fOp.fTo, .int .i64 x.fOp.fAt, .string x.fOp.fText]) :: boxA b1 1 34 (.agg #[.slice (some ⟨ga, 0, none⟩) qs.length ca]) :: F) _) := ⟨(((HS2.out.erase 2).erase 1).erase 0)⟩; refine ⟨HS.out, ?_⟩
  refine zh 8 rfl HF (fun _ HS => (yl_extract rfl (HF.ev rfl) rfl)) HS.out ?_;clear HF a;intro a HF
  refine zh 9 rfl HF (fun _ HS => (yl_extract rfl (HF.ev rfl) rfl)) HS.out ?_;clear HF a;intro a HF
  refine wh_one 10 (by kernel_rfl) ?_
  refine wo_storeBox rfl rfl rfl rfl (HF.ev rfl) (HF.ev rfl) HS2.out 2 rfl (cells_lit [.slice (some ⟨ga, 0, none⟩) qs.length ca] rfl rfl) (by kernel_rfl) ?_
  clear HS HS2; intro w9 HS2; replace HS2 : Bx (St w0 (rowA HD.cells 3 94 (.slice (some ⟨ga, 0, none⟩) qs.length ca) zs :: sepA (zs.map HD.asr) :: boxA b3 1 34 (.agg #[.slice (some ⟨ga, 0, none⟩) qs.length ca]) :: boxA b2 8 55 (.agg #[.int .i64 x.fTxg, .int .i64 x.fSeq, .string x.fHead, .int .i64 x.fOp.fKind, .string x.fOp.fPath, .string x.fOp.fTo, .int .i64 x.fOp.fAt, .string x.fOp.fText]) :: boxA b1 1 34 (.agg #[.slice (some ⟨ga, 0, none⟩) qs.length ca]) :: F) _) := ⟨HS2⟩
  have HS : Bx (St w0 (boxA b2 8 55 (.agg #[.int .i64 x.fTxg, .int .i64 x.fSeq, .string x.fHead, .int .i64 x.fOp.fKind, .string x.fOp.fPath, .string x.fOp.fTo, .int .i64 x.fOp.fAt, .string x.fOp.fText]) :: boxA b1 1 34 (.agg #[.slice (some ⟨ga, 0, none⟩) qs.length ca]) :: F) _) := ⟨(((HS2.out.erase 2).erase 1).erase 0)⟩; refine ⟨HS.out, ?_⟩
  refine zh 11 rfl HF (fun _ HS => (yl_assign rfl (HF.ev rfl))) HS.out ?_;clear HF a;intro a HF
  refine wh_done (by kernel_rfl) ?_
  replace HS := HS2; clear HS2
  refine ex_then ?_
  refine wp_ret ?_
  refine bp_ret2 HF Tryz.results44 (HF.resBox rfl (HS.out.box 2 rfl) (by kernel_rfl)) (HF.res rfl) ?_
  replace HS:=Bx.mk ((HS.out.pick 1 rfl).pick 1 rfl)
  exact .inr ⟨zs, hev, hzl, rfl, (((HS.out.erase 4).erase 3).erase 2)⟩

theorem implIntentWrite_any (a0 : Option Addr) (c0 : Nat) (ps : List HD) (w0 : World) (hl : ps.length ≤ 1048576) (hf : fitsL ps) (hp : rdsP a0 ps w0) (hT : TabP w0) (hM : MaxP w0) (x : IntentD) (hfx : x.fits) : Calls Tryz.prog 18 #[.agg #[.slice a0 ps.length c0], .agg #[.int .i64 x.fTxg, .int .i64 x.fSeq, .string x.fHead, .int .i64 x.fOp.fKind, .string x.fOp.fPath, .string x.fOp.fTo, .int .i64 x.fOp.fAt, .string x.fOp.fText]] w0 fun e w' => (intF (dsOf ps) x = none ∧ e = .returned (.tuple #[.agg #[.slice none 0 0], .bool false]) ∧ St w0 [] w') ∨ (∃ ao cp qs, intF (dsOf ps) x = some (dsOf qs) ∧ e = .returned (.tuple #[.agg #[.slice ao qs.length cp], .bool true]) ∧ St w0 [rowA HD.cells 3 94 (.slice ao qs.length cp) qs, sepA (qs.map HD.asr)] w') := by
 have HT := Bx.mk hT; clear hT
 have HM := Bx.mk hM; clear hM
 have HS := Bx.mk (St.start w0)
 refine wc_enter Tryz.func18 rfl Tryz.ntmps18 [(0, .agg #[.slice a0 ps.length c0]), (1, .agg #[.int .i64 x.fTxg, .int .i64 x.fSeq, .string x.fHead, .int .i64 x.fOp.fKind, .string x.fOp.fPath, .string x.fOp.fTo, .int .i64 x.fOp.fAt, .string x.fOp.fText])] ⟨rfl, rfl, trivial⟩ rfl ?_; intro a HF
 refine wp_sr ?_
 refine wl_box rfl HF rfl (HF.ev rfl) (Z := [.slice a0 ps.length c0]) rfl rfl rfl rfl HS.out ?_; clear HF HS a; intro a w1 b1 HF HS; replace HS := Bx.mk HS
 refine wl_box rfl HF rfl (HF.ev rfl) (Z := [.int .i64 x.fTxg, .int .i64 x.fSeq, .string x.fHead, .int .i64 x.fOp.fKind, .string x.fOp.fPath, .string x.fOp.fTo, .int .i64 x.fOp.fAt, .string x.fOp.fText]) rfl rfl rfl rfl HS.out ?_; clear HF HS a; intro a w2 b2 HF HS; replace HS := Bx.mk HS
 refine wl_alloc rfl HF rfl rfl rfl (Z := [.slice none 0 0]) (by kernel_rfl) rfl HS.out ?_; clear HF HS a; intro a w3 b3 HF HS; replace HS := Bx.mk HS
 refine za HF ?_;clear HF a;intro a HF
 refine wl_ne ?_
 refine wp_seq ?_
 refine wp_sr ?_
 refine zy HF (ylr (cs := [.slice a0 ps.length c0]) rfl (HF.ev rfl) ((HS.out.box 2 rfl).sub 0 1)) ?_;clear HF a;intro a HF
 refine wl_callB rfl HF rfl (enter_of Tryz.func35 (by kernel_rfl) rfl) (args := #[.agg #[.slice a0 ps.length c0]]) rfl (v := .bool (okR (dsOf ps))) (implRaidOk_any a0 c0 ps _ hl hf.at (hp.1.below HS.out.bel) (fun k hk => (hp.at k hk).below HS.out.bel)) rfl rfl HS.out ?_; clear HF HS a; intro w4 a HS HF; replace HS := Bx.mk HS
 refine zy HF (yl_not rfl (HF.ev rfl)) ?_;clear HF a;intro a HF
 refine zm HF ?_;clear HF a;intro a HF
 refine HF.cases 9 rfl (fun cc1 _ => ?_) fun cc1 _ => ?_
 ·clear HF;rename_i HF
  have hok : okR (dsOf ps) = false := by simpa using cc1
  refine zk HF ?_;clear HF a;intro a HF
  refine zk HF ?_;clear HF a;intro a HF
  refine zk HF ?_;clear HF a;intro a HF
  refine zy HF (yl_pick_t rfl (HF.ev rfl) (HF.ev rfl)) ?_;clear HF a;intro a HF
  refine wl_ne ?_
  refine wc_true HF rfl ?_
  refine wp_sr ?_
  refine zy HF (yl_build HF rfl (ps := []) rfl (cs := #[.slice none 0 0]) (by kernel_rfl)) ?_;clear HF a;intro a HF
  refine wl_storeBox rfl HF rfl rfl (HF.ev rfl) (HF.ev rfl) HS.out 0 rfl (cells_lit [.slice none 0 0] rfl rfl) (by kernel_rfl) ?_; clear HS; intro w5 HS; replace HS := Bx.mk HS
  have HS : Bx (St w0 ([boxA b3 1 34 (.agg #[.slice none 0 0]), boxA b2 8 55 (.agg #[.int .i64 x.fTxg, .int .i64 x.fSeq, .string x.fHead, .int .i64 x.fOp.fKind, .string x.fOp.fPath, .string x.fOp.fTo, .int .i64 x.fOp.fAt, .string x.fOp.fText]), boxA b1 1 34 (.agg #[.slice a0 ps.length c0])]) _) := HS
  refine za HF ?_;clear HF a;intro a HF
  refine wl_ne ?_
  refine wp_ret ?_
  refine ex_then_ret ?_
  refine bp_ret2 HF Tryz.results18 (HF.resBox rfl (HS.out.box 0 rfl) (by kernel_rfl)) (HF.res rfl) ?_
  exact .inl ⟨intF_no (by rw [hok] <;> simp), rfl, (((HS.out.erase 2).erase 1).erase 0)⟩
 ·clear HF;rename_i HF
  have hok : okR (dsOf ps) = true := by simpa using cc1
  refine zg HF (ylr (cs := [.int .i64 x.fTxg, .int .i64 x.fSeq, .string x.fHead, .int .i64 x.fOp.fKind, .string x.fOp.fPath, .string x.fOp.fTo, .int .i64 x.fOp.fAt, .string x.fOp.fText]) rfl (HF.ev rfl) ((HS.out.box 1 rfl).sub 0 8)) ?_;clear HF a;intro a HF
  refine wl_callBg HF rfl rfl rfl rfl (enter_of Tryz.func46 (by kernel_rfl) rfl) (args := #[.agg #[.int .i64 x.fTxg, .int .i64 x.fSeq, .string x.fHead, .int .i64 x.fOp.fKind, .string x.fOp.fPath, .string x.fOp.fTo, .int .i64 x.fOp.fAt, .string x.fOp.fText]]) rfl (v := .bool x.ok) (implIntentOk_any x _ (HM.out.below HS.out.bel) hfx) rfl rfl HS.out ?_; clear HF HS a; intro w6 a HS HF; replace HS := Bx.mk HS
  refine zg HF (yl_not rfl (HF.ev rfl)) ?_;clear HF a;intro a HF
  refine zy HF (yl_pick_f rfl (HF.ev rfl) (HF.ev rfl)) ?_;clear HF a;intro a HF
  refine wl_ne ?_
  refine HF.cases 13 rfl (fun cc2 _ => ?_) fun cc2 _ => ?_
  ·clear HF;rename_i HF
   have hxk : x.ok = false := by simpa using cc2
   refine wc_true HF rfl ?_
   refine wp_sr ?_
   refine zy HF (yl_build HF rfl (ps := []) rfl (cs := #[.slice none 0 0]) (by kernel_rfl)) ?_;clear HF a;intro a HF
   refine wl_storeBox rfl HF rfl rfl (HF.ev rfl) (HF.ev rfl) HS.out 0 rfl (cells_lit [.slice none 0 0] rfl rfl) (by kernel_rfl) ?_; clear HS; intro w7 HS; replace HS := Bx.mk HS
   have HS : Bx (St w0 ([boxA b3 1 34 (.agg #[.slice none 0 0]), boxA b2 8 55 (.agg #[.int .i64 x.fTxg, .int .i64 x.fSeq, .string x.fHead, .int .i64 x.fOp.fKind, .string x.fOp.fPath, .string x.fOp.fTo, .int .i64 x.fOp.fAt, .string x.fOp.fText]), boxA b1 1 34 (.agg #[.slice a0 ps.length c0])]) _) := HS
   refine za HF ?_;clear HF a;intro a HF
   refine wl_ne ?_
   refine wp_ret ?_
   refine ex_then_ret ?_
   refine bp_ret2 HF Tryz.results18 (HF.resBox rfl (HS.out.box 0 rfl) (by kernel_rfl)) (HF.res rfl) ?_
   exact .inl ⟨intF_no (by rw [hok, hxk] <;> simp), rfl, (((HS.out.erase 2).erase 1).erase 0)⟩
  ·clear HF;rename_i HF
   have hxk : x.ok = true := by simpa using cc2
   refine wc_false HF rfl ?_
   refine wp_skip ?_
   refine ex_then ?_
   refine wp_seq ?_
   have hb := IntentD.ok_parts hxk; have h3 := okR_three hok
   refine wr_heldS (s := [boxA b2 8 55 (.agg #[.int .i64 x.fTxg, .int .i64 x.fSeq, .string x.fHead, .int .i64 x.fOp.fKind, .string x.fOp.fPath, .string x.fOp.fTo, .int .i64 x.fOp.fAt, .string x.fOp.fText]), boxA b1 1 34 (.agg #[.slice a0 ps.length c0])]) (by kernel_rfl) (St.drew ((HS.out.erase 0))) ?_
   have HS2 := Bx.mk HS.out.drew; replace HS := Bx.mk (show St w0 ([boxA b2 8 55 (.agg #[.int .i64 x.fTxg, .int .i64 x.fSeq, .string x.fHead, .int .i64 x.fOp.fKind, .string x.fOp.fPath, .string x.fOp.fTo, .int .i64 x.fOp.fAt, .string x.fOp.fText]), boxA b1 1 34 (.agg #[.slice a0 ps.length c0])]) _ from (HS.out.drew.erase 0))
   generalize World.drew _ = w8 at HS HS2 ⊢
   refine zh 0 rfl HF (fun _ HS => (ylr (cs := [.slice a0 ps.length c0]) rfl (HF.ev rfl) ((HS.box 1 rfl).sub 0 1))) HS.out ?_;clear HF a;intro a HF
   refine zh 1 rfl HF (fun _ HS => (yfa 1 rfl (HF.ev rfl))) HS.out ?_;clear HF a;intro a HF
   refine zh 2 rfl HF (fun _ HS => (ylo (v := .int .i64 x.fSeq) rfl (HF.ev rfl) (((HS.box 0 rfl).cell 1).trans rfl))) HS.out ?_;clear HF a;intro a HF
   refine zh 3 rfl HF (fun _ HS => (yl_addI rfl (HF.ev rfl) (HF.ev rfl) (i64w (by omega)))) HS.out ?_;clear HF a;intro a HF
   refine zh 4 rfl HF (fun _ HS => (yl_subI rfl (HF.ev rfl) (HF.ev rfl) (i64w (by omega)))) HS.out ?_;clear HF a;intro a HF
   refine zh 5 rfl HF (fun _ HS => (ylr (cs := [.int .i64 x.fTxg, .int .i64 x.fSeq, .string x.fHead, .int .i64 x.fOp.fKind, .string x.fOp.fPath, .string x.fOp.fTo, .int .i64 x.fOp.fAt, .string x.fOp.fText]) rfl (HF.ev rfl) ((HS.box 0 rfl).sub 0 8))) HS.out ?_;clear HF a;intro a HF
   refine wh_one 6 (by kernel_rfl) ?_
   refine wo_callB rfl rfl HF rfl (enter_of Tryz.func47 (by kernel_rfl) rfl) (args := #[.agg #[.int .i64 x.fTxg, .int .i64 x.fSeq, .string x.fHead, .int .i64 x.fOp.fKind, .string x.fOp.fPath, .string x.fOp.fTo, .int .i64 x.fOp.fAt, .string x.fOp.fText]]) rfl (v := .string (intentB x)) (implIntentPut_any x _ (HT.out.below HS2.out.bel) (HM.out.below HS2.out.bel) hfx) rfl rfl ?_
   intro w9 hb; replace HS := Bx.mk (HS.out.later hb); replace HS2 := Bx.mk (HS2.out.later hb);clear hb HF a;intro a HF; refine ⟨HS.out, ?_⟩
   refine wh_one 7 (by kernel_rfl) ?_
   refine wo_call rfl rfl HF rfl (enter_of Tryz.func37 (by kernel_rfl) rfl) (args := #[.agg #[.slice a0 ps.length c0], .int .i64 (((4 : Int) + x.fSeq) - 1), .string (intentB x)]) rfl (writeRow_any a0 c0 ps _ hl hf ⟨hp.1.below HS2.out.bel, fun p hm => (hp.2 p hm).below HS2.out.bel⟩ ((4 : Int) + x.fSeq - (1 : Int)) (by omega) (by omega) (intentB x) (intentB_le x) hok) rfl rfl ?_
   rintro _ w11 (⟨hev, rfl, hs⟩ | ⟨ao, cp, qs, hev, rfl, hs⟩)
   ·skip
    refine ⟨_, rfl, ?_⟩; replace HS := Bx.mk (HS.out.later hs.bel); replace HS2 := Bx.mk (HS2.out.add hs);clear hs HF a;intro a HF
    replace HS2 : Bx (St w0 ([boxA b3 1 34 (.agg #[.slice none 0 0]), boxA b2 8 55 (.agg #[.int .i64 x.fTxg, .int .i64 x.fSeq, .string x.fHead, .int .i64 x.fOp.fKind, .string x.fOp.fPath, .string x.fOp.fTo, .int .i64 x.fOp.fAt, .string x.fOp.fText]), boxA b1 1 34 (.agg #[.slice a0 ps.length c0])]) _) := ⟨HS2.out⟩; refine ⟨HS.out, ?_⟩
    refine zh 8 rfl HF (fun _ HS => (yl_extract rfl (HF.ev rfl) rfl)) HS.out ?_;clear HF a;intro a HF
    refine zh 9 rfl HF (fun _ HS => (yl_extract rfl (HF.ev rfl) rfl)) HS.out ?_;clear HF a;intro a HF
    refine wh_one 10 (by kernel_rfl) ?_
    refine wo_storeBox rfl rfl rfl rfl (HF.ev rfl) (HF.ev rfl) HS2.out 0 rfl (cells_lit [.slice none 0 0] rfl rfl) (by kernel_rfl) ?_
    clear HS HS2; intro w12 HS2; replace HS2 : Bx (St w0 ([boxA b3 1 34 (.agg #[.slice none 0 0]), boxA b2 8 55 (.agg #[.int .i64 x.fTxg, .int .i64 x.fSeq, .string x.fHead, .int .i64 x.fOp.fKind, .string x.fOp.fPath, .string x.fOp.fTo, .int .i64 x.fOp.fAt, .string x.fOp.fText]), boxA b1 1 34 (.agg #[.slice a0 ps.length c0])]) _) := ⟨HS2⟩
    have HS : Bx (St w0 ([boxA b2 8 55 (.agg #[.int .i64 x.fTxg, .int .i64 x.fSeq, .string x.fHead, .int .i64 x.fOp.fKind, .string x.fOp.fPath, .string x.fOp.fTo, .int .i64 x.fOp.fAt, .string x.fOp.fText]), boxA b1 1 34 (.agg #[.slice a0 ps.length c0])]) _) := ⟨(HS2.out.erase 0)⟩; refine ⟨HS.out, ?_⟩
    refine zh 11 rfl HF (fun _ HS => (yl_assign rfl (HF.ev rfl))) HS.out ?_;clear HF a;intro a HF
    refine wh_done (by kernel_rfl) ?_
    replace HS := HS2; clear HS2
    refine ex_then ?_
    refine wp_ret ?_
    refine bp_ret2 HF Tryz.results18 (HF.resBox rfl (HS.out.box 0 rfl) (by kernel_rfl)) (HF.res rfl) ?_
    exact .inl ⟨by rw [intF_yes hok hxk]; exact hev, rfl, (((HS.out.erase 2).erase 1).erase 0)⟩
   ·skip
    refine ⟨_, rfl, ?_⟩; replace HS := Bx.mk (HS.out.later hs.bel); replace HS2 := Bx.mk (HS2.out.add hs);clear hs HF a;intro a HF
    replace HS2 : Bx (St w0 ([rowA HD.cells 3 94 (.slice ao qs.length cp) qs, sepA (qs.map HD.asr), boxA b3 1 34 (.agg #[.slice none 0 0]), boxA b2 8 55 (.agg #[.int .i64 x.fTxg, .int .i64 x.fSeq, .string x.fHead, .int .i64 x.fOp.fKind, .string x.fOp.fPath, .string x.fOp.fTo, .int .i64 x.fOp.fAt, .string x.fOp.fText]), boxA b1 1 34 (.agg #[.slice a0 ps.length c0])]) _) := ⟨HS2.out⟩; refine ⟨HS.out, ?_⟩
    refine zh 8 rfl HF (fun _ HS => (yl_extract rfl (HF.ev rfl) rfl)) HS.out ?_;clear HF a;intro a HF
    refine zh 9 rfl HF (fun _ HS => (yl_extract rfl (HF.ev rfl) rfl)) HS.out ?_;clear HF a;intro a HF
    refine wh_one 10 (by kernel_rfl) ?_
    refine wo_storeBox rfl rfl rfl rfl (HF.ev rfl) (HF.ev rfl) HS2.out 2 rfl (cells_lit [.slice ao qs.length cp] rfl rfl) (by kernel_rfl) ?_
    clear HS HS2; intro w13 HS2; replace HS2 : Bx (St w0 ([rowA HD.cells 3 94 (.slice ao qs.length cp) qs, sepA (qs.map HD.asr), boxA b3 1 34 (.agg #[.slice ao qs.length cp]), boxA b2 8 55 (.agg #[.int .i64 x.fTxg, .int .i64 x.fSeq, .string x.fHead, .int .i64 x.fOp.fKind, .string x.fOp.fPath, .string x.fOp.fTo, .int .i64 x.fOp.fAt, .string x.fOp.fText]), boxA b1 1 34 (.agg #[.slice a0 ps.length c0])]) _) := ⟨HS2⟩
    have HS : Bx (St w0 ([boxA b2 8 55 (.agg #[.int .i64 x.fTxg, .int .i64 x.fSeq, .string x.fHead, .int .i64 x.fOp.fKind, .string x.fOp.fPath, .string x.fOp.fTo, .int .i64 x.fOp.fAt, .string x.fOp.fText]), boxA b1 1 34 (.agg #[.slice a0 ps.length c0])]) _) := ⟨(((HS2.out.erase 2).erase 1).erase 0)⟩; refine ⟨HS.out, ?_⟩
    refine zh 11 rfl HF (fun _ HS => (yl_assign rfl (HF.ev rfl))) HS.out ?_;clear HF a;intro a HF
    refine wh_done (by kernel_rfl) ?_
    replace HS := HS2; clear HS2
    refine ex_then ?_
    refine wp_ret ?_
    refine bp_ret2 HF Tryz.results18 (HF.resBox rfl (HS.out.box 2 rfl) (by kernel_rfl)) (HF.res rfl) ?_
    replace HS:=Bx.mk ((HS.out.pick 1 rfl).pick 1 rfl)
    exact .inr ⟨_, _, qs, by rw [intF_yes hok hxk]; exact hev, rfl, (((HS.out.erase 4).erase 3).erase 2)⟩

theorem specIntentWrite_any (a0 : Option Addr) (c0 : Nat) (ps : List HD) (w0 : World) (hl : ps.length ≤ 1048576) (hf : fitsL ps) (hp : rdsP a0 ps w0) (x : IntentD) (hfx : x.fits) : Calls Tryz.prog 16 #[.agg #[.slice a0 ps.length c0], .agg #[.int .i64 x.fTxg, .int .i64 x.fSeq, .string x.fHead, .int .i64 x.fOp.fKind, .string x.fOp.fPath, .string x.fOp.fTo, .int .i64 x.fOp.fAt, .string x.fOp.fText]] w0 fun e w' => (intF (dsOf ps) x = none ∧ e = .returned (.tuple #[.agg #[.slice none 0 0], .bool false]) ∧ St w0 [] w') ∨ (∃ ao cp qs, intF (dsOf ps) x = some (dsOf qs) ∧ e = .returned (.tuple #[.agg #[.slice ao qs.length cp], .bool true]) ∧ St w0 [rowA HD.cells 3 94 (.slice ao qs.length cp) qs, sepA (qs.map HD.asr)] w') := by
 have HS := Bx.mk (St.start w0)
 refine wc_enter Tryz.func16 rfl Tryz.ntmps16 [(0, .agg #[.slice a0 ps.length c0]), (1, .agg #[.int .i64 x.fTxg, .int .i64 x.fSeq, .string x.fHead, .int .i64 x.fOp.fKind, .string x.fOp.fPath, .string x.fOp.fTo, .int .i64 x.fOp.fAt, .string x.fOp.fText])] ⟨rfl, rfl, trivial⟩ rfl ?_; intro a HF
 refine wp_sr ?_
 refine wl_box rfl HF rfl (HF.ev rfl) (Z := [.slice a0 ps.length c0]) rfl rfl rfl rfl HS.out ?_; clear HF HS a; intro a w1 b1 HF HS; replace HS := Bx.mk HS
 refine wl_box rfl HF rfl (HF.ev rfl) (Z := [.int .i64 x.fTxg, .int .i64 x.fSeq, .string x.fHead, .int .i64 x.fOp.fKind, .string x.fOp.fPath, .string x.fOp.fTo, .int .i64 x.fOp.fAt, .string x.fOp.fText]) rfl rfl rfl rfl HS.out ?_; clear HF HS a; intro a w2 b2 HF HS; replace HS := Bx.mk HS
 refine wl_alloc rfl HF rfl rfl rfl (Z := [.slice none 0 0]) (by kernel_rfl) rfl HS.out ?_; clear HF HS a; intro a w3 b3 HF HS; replace HS := Bx.mk HS
 refine za HF ?_;clear HF a;intro a HF
 refine wl_ne ?_
 refine wp_seq ?_
 refine wp_sr ?_
 refine zy HF (ylr (cs := [.slice a0 ps.length c0]) rfl (HF.ev rfl) ((HS.out.box 2 rfl).sub 0 1)) ?_;clear HF a;intro a HF
 refine wl_callB rfl HF rfl (enter_of Tryz.func28 (by kernel_rfl) rfl) (args := #[.agg #[.slice a0 ps.length c0]]) rfl (v := .bool (okR (dsOf ps))) (specRaidOk_any a0 c0 ps _ hl hf.at (hp.1.below HS.out.bel) (fun k hk => (hp.at k hk).below HS.out.bel)) rfl rfl HS.out ?_; clear HF HS a; intro w4 a HS HF; replace HS := Bx.mk HS
 refine zy HF (yl_not rfl (HF.ev rfl)) ?_;clear HF a;intro a HF
 refine zm HF ?_;clear HF a;intro a HF
 refine HF.cases 9 rfl (fun cc1 _ => ?_) fun cc1 _ => ?_
 ·clear HF;rename_i HF
  have hok : okR (dsOf ps) = false := by simpa using cc1
  refine zk HF ?_;clear HF a;intro a HF
  refine zk HF ?_;clear HF a;intro a HF
  refine zk HF ?_;clear HF a;intro a HF
  refine zy HF (yl_pick_t rfl (HF.ev rfl) (HF.ev rfl)) ?_;clear HF a;intro a HF
  refine wl_ne ?_
  refine wc_true HF rfl ?_
  refine wp_sr ?_
  refine zy HF (yl_build HF rfl (ps := []) rfl (cs := #[.slice none 0 0]) (by kernel_rfl)) ?_;clear HF a;intro a HF
  refine wl_storeBox rfl HF rfl rfl (HF.ev rfl) (HF.ev rfl) HS.out 0 rfl (cells_lit [.slice none 0 0] rfl rfl) (by kernel_rfl) ?_; clear HS; intro w5 HS; replace HS := Bx.mk HS
  have HS : Bx (St w0 ([boxA b3 1 34 (.agg #[.slice none 0 0]), boxA b2 8 55 (.agg #[.int .i64 x.fTxg, .int .i64 x.fSeq, .string x.fHead, .int .i64 x.fOp.fKind, .string x.fOp.fPath, .string x.fOp.fTo, .int .i64 x.fOp.fAt, .string x.fOp.fText]), boxA b1 1 34 (.agg #[.slice a0 ps.length c0])]) _) := HS
  refine za HF ?_;clear HF a;intro a HF
  refine wl_ne ?_
  refine wp_ret ?_
  refine ex_then_ret ?_
  refine bp_ret2 HF Tryz.results16 (HF.resBox rfl (HS.out.box 0 rfl) (by kernel_rfl)) (HF.res rfl) ?_
  exact .inl ⟨intF_no (by rw [hok] <;> simp), rfl, (((HS.out.erase 2).erase 1).erase 0)⟩
 ·clear HF;rename_i HF
  have hok : okR (dsOf ps) = true := by simpa using cc1
  refine zg HF (ylr (cs := [.int .i64 x.fTxg, .int .i64 x.fSeq, .string x.fHead, .int .i64 x.fOp.fKind, .string x.fOp.fPath, .string x.fOp.fTo, .int .i64 x.fOp.fAt, .string x.fOp.fText]) rfl (HF.ev rfl) ((HS.out.box 1 rfl).sub 0 8)) ?_;clear HF a;intro a HF
  refine wl_callBg HF rfl rfl rfl rfl (enter_of Tryz.func43 (by kernel_rfl) rfl) (args := #[.agg #[.int .i64 x.fTxg, .int .i64 x.fSeq, .string x.fHead, .int .i64 x.fOp.fKind, .string x.fOp.fPath, .string x.fOp.fTo, .int .i64 x.fOp.fAt, .string x.fOp.fText]]) rfl (v := .bool x.ok) (specIntentOk_any x _ hfx) rfl rfl HS.out ?_; clear HF HS a; intro w6 a HS HF; replace HS := Bx.mk HS
  refine zg HF (yl_not rfl (HF.ev rfl)) ?_;clear HF a;intro a HF
  refine zy HF (yl_pick_f rfl (HF.ev rfl) (HF.ev rfl)) ?_;clear HF a;intro a HF
  refine wl_ne ?_
  refine HF.cases 13 rfl (fun cc2 _ => ?_) fun cc2 _ => ?_
  ·clear HF;rename_i HF
   have hxk : x.ok = false := by simpa using cc2
   refine wc_true HF rfl ?_
   refine wp_sr ?_
   refine zy HF (yl_build HF rfl (ps := []) rfl (cs := #[.slice none 0 0]) (by kernel_rfl)) ?_;clear HF a;intro a HF
   refine wl_storeBox rfl HF rfl rfl (HF.ev rfl) (HF.ev rfl) HS.out 0 rfl (cells_lit [.slice none 0 0] rfl rfl) (by kernel_rfl) ?_; clear HS; intro w7 HS; replace HS := Bx.mk HS
   have HS : Bx (St w0 ([boxA b3 1 34 (.agg #[.slice none 0 0]), boxA b2 8 55 (.agg #[.int .i64 x.fTxg, .int .i64 x.fSeq, .string x.fHead, .int .i64 x.fOp.fKind, .string x.fOp.fPath, .string x.fOp.fTo, .int .i64 x.fOp.fAt, .string x.fOp.fText]), boxA b1 1 34 (.agg #[.slice a0 ps.length c0])]) _) := HS
   refine za HF ?_;clear HF a;intro a HF
   refine wl_ne ?_
   refine wp_ret ?_
   refine ex_then_ret ?_
   refine bp_ret2 HF Tryz.results16 (HF.resBox rfl (HS.out.box 0 rfl) (by kernel_rfl)) (HF.res rfl) ?_
   exact .inl ⟨intF_no (by rw [hok, hxk] <;> simp), rfl, (((HS.out.erase 2).erase 1).erase 0)⟩
  ·clear HF;rename_i HF
   have hxk : x.ok = true := by simpa using cc2
   refine wc_false HF rfl ?_
   refine wp_skip ?_
   refine ex_then ?_
   refine wp_seq ?_
   have hb := IntentD.ok_parts hxk; have h3 := okR_three hok
   refine wr_heldS (s := [boxA b2 8 55 (.agg #[.int .i64 x.fTxg, .int .i64 x.fSeq, .string x.fHead, .int .i64 x.fOp.fKind, .string x.fOp.fPath, .string x.fOp.fTo, .int .i64 x.fOp.fAt, .string x.fOp.fText]), boxA b1 1 34 (.agg #[.slice a0 ps.length c0])]) (by kernel_rfl) (St.drew ((HS.out.erase 0))) ?_
   have HS2 := Bx.mk HS.out.drew; replace HS := Bx.mk (show St w0 ([boxA b2 8 55 (.agg #[.int .i64 x.fTxg, .int .i64 x.fSeq, .string x.fHead, .int .i64 x.fOp.fKind, .string x.fOp.fPath, .string x.fOp.fTo, .int .i64 x.fOp.fAt, .string x.fOp.fText]), boxA b1 1 34 (.agg #[.slice a0 ps.length c0])]) _ from (HS.out.drew.erase 0))
   generalize World.drew _ = w8 at HS HS2 ⊢
   refine zh 0 rfl HF (fun _ HS => (ylr (cs := [.slice a0 ps.length c0]) rfl (HF.ev rfl) ((HS.box 1 rfl).sub 0 1))) HS.out ?_;clear HF a;intro a HF
   refine zh 2 rfl HF (fun _ HS => (ylr (cs := [.int .i64 x.fTxg, .int .i64 x.fSeq, .string x.fHead, .int .i64 x.fOp.fKind, .string x.fOp.fPath, .string x.fOp.fTo, .int .i64 x.fOp.fAt, .string x.fOp.fText]) rfl (HF.ev rfl) ((HS.box 0 rfl).sub 0 8))) HS.out ?_;clear HF a;intro a HF
   refine wh_one 1 (by kernel_rfl) ?_
   refine wo_call rfl rfl HF rfl (enter_of Tryz.func31 (by kernel_rfl) rfl) (args := #[.agg #[.slice a0 ps.length c0]]) rfl (l4Copy_any a0 c0 ps _ hl hf.at (hp.1.below HS2.out.bel) (fun k hk => (hp.at k hk).below HS2.out.bel)) rfl rfl ?_
   rintro _ w10 ⟨ao, cp, qs, rfl, hqd, hs⟩
   have hql : qs.length = 3 := by rw [← dsOf_len, hqd, dsOf_len]; exact h3.1
   refine ⟨_, rfl, ?_⟩; replace HS := Bx.mk (HS.out.later hs.bel); replace HS2 := Bx.mk (HS2.out.add hs);clear hs HF a;intro a HF
   replace HS2 : Bx (St w0 ([rowA HD.cells 3 94 (.slice ao qs.length cp) qs, sepA (qs.map HD.asr), boxA b3 1 34 (.agg #[.slice none 0 0]), boxA b2 8 55 (.agg #[.int .i64 x.fTxg, .int .i64 x.fSeq, .string x.fHead, .int .i64 x.fOp.fKind, .string x.fOp.fPath, .string x.fOp.fTo, .int .i64 x.fOp.fAt, .string x.fOp.fText]), boxA b1 1 34 (.agg #[.slice a0 ps.length c0])]) _) := ⟨HS2.out⟩
   obtain ⟨g4, rfl, _, _, _, _⟩ := HS2.out.rowOpen 0 rfl (by omega)
   refine ⟨HS.out, ?_⟩
   refine wh_one 3 (by kernel_rfl) ?_
   replace HS2:=Bx.mk ((HS2.out.pick 1 rfl).pick 1 rfl)
   refine wo_call rfl rfl HF rfl (enter_of Tryz.func44 (by kernel_rfl) rfl) (args := #[.agg #[.slice (some ⟨g4, 0, none⟩) qs.length cp], .agg #[.int .i64 x.fTxg, .int .i64 x.fSeq, .string x.fHead, .int .i64 x.fOp.fKind, .string x.fOp.fPath, .string x.fOp.fTo, .int .i64 x.fOp.fAt, .string x.fOp.fText]]) rfl (l23Write_any w0 _ g4 cp qs _ x hfx hxk (by rw [hqd]; exact hok) hql HS2.out) rfl rfl ?_
   rintro _ w12 (⟨hev, rfl, hs⟩ | ⟨zs, hev, hzl, rfl, hs⟩)
   ·skip
    refine ⟨_, rfl, ?_⟩; replace HS2 := Bx.mk hs;clear hs HF a;intro a HF
    replace HS2 : Bx (St w0 ([boxA b3 1 34 (.agg #[.slice none 0 0]), boxA b2 8 55 (.agg #[.int .i64 x.fTxg, .int .i64 x.fSeq, .string x.fHead, .int .i64 x.fOp.fKind, .string x.fOp.fPath, .string x.fOp.fTo, .int .i64 x.fOp.fAt, .string x.fOp.fText]), boxA b1 1 34 (.agg #[.slice a0 ps.length c0])]) _) := ⟨HS2.out⟩; clear HS; have HS : Bx (St w0 ([boxA b2 8 55 (.agg #[.int .i64 x.fTxg, .int .i64 x.fSeq, .string x.fHead, .int .i64 x.fOp.fKind, .string x.fOp.fPath, .string x.fOp.fTo, .int .i64 x.fOp.fAt, .string x.fOp.fText]), boxA b1 1 34 (.agg #[.slice a0 ps.length c0])]) _) := ⟨(HS2.out.erase 0)⟩; refine ⟨HS.out, ?_⟩
    refine zh 4 rfl HF (fun _ HS => (yl_extract rfl (HF.ev rfl) rfl)) HS.out ?_;clear HF a;intro a HF
    refine zh 5 rfl HF (fun _ HS => (yl_extract rfl (HF.ev rfl) rfl)) HS.out ?_;clear HF a;intro a HF
    refine wh_one 6 (by kernel_rfl) ?_
    refine wo_storeBox rfl rfl rfl rfl (HF.ev rfl) (HF.ev rfl) HS2.out 0 rfl (cells_lit [.slice none 0 0] rfl rfl) (by kernel_rfl) ?_
    clear HS HS2; intro w13 HS2; replace HS2 : Bx (St w0 ([boxA b3 1 34 (.agg #[.slice none 0 0]), boxA b2 8 55 (.agg #[.int .i64 x.fTxg, .int .i64 x.fSeq, .string x.fHead, .int .i64 x.fOp.fKind, .string x.fOp.fPath, .string x.fOp.fTo, .int .i64 x.fOp.fAt, .string x.fOp.fText]), boxA b1 1 34 (.agg #[.slice a0 ps.length c0])]) _) := ⟨HS2⟩
    have HS : Bx (St w0 ([boxA b2 8 55 (.agg #[.int .i64 x.fTxg, .int .i64 x.fSeq, .string x.fHead, .int .i64 x.fOp.fKind, .string x.fOp.fPath, .string x.fOp.fTo, .int .i64 x.fOp.fAt, .string x.fOp.fText]), boxA b1 1 34 (.agg #[.slice a0 ps.length c0])]) _) := ⟨(HS2.out.erase 0)⟩; refine ⟨HS.out, ?_⟩
    refine zh 7 rfl HF (fun _ HS => (yl_assign rfl (HF.ev rfl))) HS.out ?_;clear HF a;intro a HF
    refine wh_done (by kernel_rfl) ?_
    replace HS := HS2; clear HS2
    refine ex_then ?_
    refine wp_ret ?_
    refine bp_ret2 HF Tryz.results16 (HF.resBox rfl (HS.out.box 0 rfl) (by kernel_rfl)) (HF.res rfl) ?_
    exact .inl ⟨by rw [intF_yes hok hxk, ← hqd]; exact hev, rfl, (((HS.out.erase 2).erase 1).erase 0)⟩
   ·skip
    refine ⟨_, rfl, ?_⟩; replace HS2 := Bx.mk hs;clear hs HF a;intro a HF
    replace HS2 : Bx (St w0 ([rowA HD.cells 3 94 (.slice (some ⟨g4, 0, none⟩) qs.length cp) zs, sepA (zs.map HD.asr), boxA b3 1 34 (.agg #[.slice none 0 0]), boxA b2 8 55 (.agg #[.int .i64 x.fTxg, .int .i64 x.fSeq, .string x.fHead, .int .i64 x.fOp.fKind, .string x.fOp.fPath, .string x.fOp.fTo, .int .i64 x.fOp.fAt, .string x.fOp.fText]), boxA b1 1 34 (.agg #[.slice a0 ps.length c0])]) _) := ⟨HS2.out⟩; clear HS; have HS : Bx (St w0 ([boxA b2 8 55 (.agg #[.int .i64 x.fTxg, .int .i64 x.fSeq, .string x.fHead, .int .i64 x.fOp.fKind, .string x.fOp.fPath, .string x.fOp.fTo, .int .i64 x.fOp.fAt, .string x.fOp.fText]), boxA b1 1 34 (.agg #[.slice a0 ps.length c0])]) _) := ⟨(((HS2.out.erase 2).erase 1).erase 0)⟩; refine ⟨HS.out, ?_⟩
    refine zh 4 rfl HF (fun _ HS => (yl_extract rfl (HF.ev rfl) rfl)) HS.out ?_;clear HF a;intro a HF
    refine zh 5 rfl HF (fun _ HS => (yl_extract rfl (HF.ev rfl) rfl)) HS.out ?_;clear HF a;intro a HF
    refine wh_one 6 (by kernel_rfl) ?_
    refine wo_storeBox rfl rfl rfl rfl (HF.ev rfl) (HF.ev rfl) HS2.out 2 rfl (cells_lit [.slice (some ⟨g4, 0, none⟩) qs.length cp] rfl rfl) (by kernel_rfl) ?_
    clear HS HS2; intro w14 HS2; replace HS2 : Bx (St w0 ([rowA HD.cells 3 94 (.slice (some ⟨g4, 0, none⟩) qs.length cp) zs, sepA (zs.map HD.asr), boxA b3 1 34 (.agg #[.slice (some ⟨g4, 0, none⟩) qs.length cp]), boxA b2 8 55 (.agg #[.int .i64 x.fTxg, .int .i64 x.fSeq, .string x.fHead, .int .i64 x.fOp.fKind, .string x.fOp.fPath, .string x.fOp.fTo, .int .i64 x.fOp.fAt, .string x.fOp.fText]), boxA b1 1 34 (.agg #[.slice a0 ps.length c0])]) _) := ⟨HS2⟩
    have HS : Bx (St w0 ([boxA b2 8 55 (.agg #[.int .i64 x.fTxg, .int .i64 x.fSeq, .string x.fHead, .int .i64 x.fOp.fKind, .string x.fOp.fPath, .string x.fOp.fTo, .int .i64 x.fOp.fAt, .string x.fOp.fText]), boxA b1 1 34 (.agg #[.slice a0 ps.length c0])]) _) := ⟨(((HS2.out.erase 2).erase 1).erase 0)⟩; refine ⟨HS.out, ?_⟩
    refine zh 7 rfl HF (fun _ HS => (yl_assign rfl (HF.ev rfl))) HS.out ?_;clear HF a;intro a HF
    refine wh_done (by kernel_rfl) ?_
    replace HS := HS2; clear HS2
    refine ex_then ?_
    refine wp_ret ?_
    refine bp_ret2 HF Tryz.results16 (HF.resBox rfl (HS.out.box 2 rfl) (by kernel_rfl)) (HF.res rfl) ?_
    replace HS:=Bx.mk ((HS.out.pick 1 rfl).pick 1 rfl)
    have HT2 := (((HS.out.erase 4).erase 3).erase 2); rw [← hzl] at HT2
    exact .inr ⟨_, _, zs, by rw [intF_yes hok hxk, ← hqd]; exact hev, by rw [hzl]; rfl, HT2⟩

end Go.Proofs.YtoaopmkbfifhaaaGreatDoor
