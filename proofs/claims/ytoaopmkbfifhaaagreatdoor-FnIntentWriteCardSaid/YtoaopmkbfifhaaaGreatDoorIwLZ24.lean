/- A part of the proof in YtoaopmkbfifhaaaGreatDoorIwLZ29. -/
import Derived.Laws.IdiomRangeMap
import Derived.Scope
import Derived.Test.YtoaopmkbfifhaaaGreatDoorIwLZ23
/- Iterators as things: rounds over a text, rounds over a map; scopes through which no jump goes. -/
namespace Go.Proofs.YtoaopmkbfifhaaaGreatDoor
set_option linter.unusedVariables false
set_option linter.unusedSimpArgs false
set_option maxHeartbeats 1000000
set_option maxRecDepth 100000
open Go.RowKit

section
variable {P : Program} {Q K : Exit → Act → World → Prop} {K' : Act → World → Prop} {a : Act} {w : World}
theorem ex_scope_ret (h : Q .ret a w) : Exit.noGoto Q .ret a w := h
theorem wc_scope {c : Code} (h : c.wp P (Exit.noGoto Q) a w) : (Code.scope c).wp P Q a w := wp_scope_straight h
end
end Go.Proofs.YtoaopmkbfifhaaaGreatDoor

/- Intents found on a set of disks: walked. -/
namespace Go.Proofs.YtoaopmkbfifhaaaGreatDoor
set_option linter.unusedVariables false
set_option linter.unusedSimpArgs false
set_option maxHeartbeats 1000000
set_option maxRecDepth 100000
open Go.RowKit

theorem IntentD.cells_len (x : IntentD) : x.cells.length = 8 := rfl
theorem cells_one_X (xs : List IntentD) : ∀ u ∈ xs.flatMap IntentD.cells, u.oneCell' = true := by
  intro u hu
  obtain ⟨x, _, hx⟩ := List.mem_flatMap.1 hu
  simp only [IntentD.cells, OpD.cells, List.mem_cons, List.not_mem_nil, or_false] at hx
  rcases hx with rfl | rfl | rfl | rfl | rfl | rfl | rfl | rfl <;> rfl
theorem elemX : ElemT Tryz.prog 68 55 8 96 := by
  obtain ⟨i0, hi, hz0, hz1, hz2⟩ := info_parts (P := Tryz.prog) (e := 55) (z := .agg #[.int .i64 0, .int .i64 0, .string ByteArray.empty, .int .i64 0, .string ByteArray.empty, .string ByteArray.empty, .int .i64 0, .string ByteArray.empty]) (size := 8) (bytes := 96) (by kernel_rfl)
  exact ⟨Tryz.underlying68, ⟨i0, _, hi, hz0, hz1, hz2, rfl⟩, by decide⟩
theorem dsAtI (ps : List HD) (k : Nat) : (dsOf ps).getD k default = (ps.getD k default).d := dsOf_get ps k

theorem intents_any (a0 : Option Addr) (c0 : Nat) (ps : List HD) (w0 : World) (hT : TabP w0) (hM : MaxP w0) (hE : ErrP w0) (hl : ps.length = 3) (hok : ∀ k, k < ps.length → (ps.getD k default).d.ok = true) (hR : Rd HD.cells 3 w0 a0 ps.length ps) (hP : ∀ k, k < ps.length → (ps.getD k default).reads w0) (txg : Int) : Calls Tryz.prog 58 #[.agg #[.slice a0 ps.length c0], .int .i64 txg] w0 fun e w' => ∃ ao cp xs, IsL (dsOf ps) txg xs ∧ e = .returned (.slice ao xs.length cp) ∧ St w0 [rowA IntentD.cells 8 55 (.slice ao xs.length cp) xs] w' := by
 have HT := Bx.mk hT; have HM := Bx.mk hM; have HE := Bx.mk hE; have HR := Bx.mk hR; have HP := Bx.mk hP; clear hT hM hE hR hP
 have HS := Bx.mk (St.start w0)
 refine wc_enter Tryz.func58 rfl Tryz.ntmps58 [(0, .agg #[.slice a0 ps.length c0]), (1, .int .i64 txg)] ⟨rfl, rfl, trivial⟩ rfl ?_; intro a HF
 refine wp_sr ?_
 refine wl_box rfl HF rfl (HF.ev rfl) (Z := [.slice a0 ps.length c0]) rfl rfl rfl rfl HS.out ?_; clear HF HS a; intro a w1 b1 HF HS; replace HS := Bx.mk HS
 refine za HF ?_;clear HF a;intro a HF
 refine wl_ne ?_
 refine wc_scope ?_
 refine wp_sr ?_
 refine za HF ?_;clear HF a;intro a HF
 refine wl_ne ?_
 refine wp_seq ?_
 refine wp_label ?_
 refine ex_then ?_
 refine wp_seq ?_
 refine wp_sr ?_
 refine za HF ?_;clear HF a;intro a HF
 refine wl_ne ?_
 refine wp_block ?_
 replace HS := Bx.mk (HS.out.nilRow IntentD.cells 8 55 none)
 refine wc_loop (ι := Nat) (fun s a w => ∃ (ao : Option Addr) (cp : Nat) (xs : List IntentD), (1 ≤ s ∧ s ≤ 5 ∧ xs.length + 1 = s ∧ GotL (dsOf ps) txg xs) ∧ Fr 52 a [(0, .agg #[.slice a0 ps.length c0]), (1, .int .i64 txg), (2, .pointer (some ⟨b1, 0, none⟩)), (4, .slice none 0 0), (5, .slice ao xs.length cp), (6, .int .i64 (s : Int))] ∧ St w0 ([rowA IntentD.cells 8 55 (.slice ao xs.length cp) xs, boxA b1 1 34 (.agg #[.slice a0 ps.length c0])]) w) (fun s => 6 - s) 1 ⟨_, _, [], ⟨Nat.le_refl _, by omega, rfl, GotL.nil _ _⟩, HF.less _ ⟨rfl, rfl, rfl, rfl, rfl, rfl, trivial⟩, HS.out⟩ ?_
 clear HF HS; clear a
 rintro s a w2 ⟨ao, cp, xs, ⟨hs1, hs5, hxl, hgl⟩, HF, HS⟩
 replace HS := Bx.mk HS
 refine wp_seq ?_
 refine wp_sr ?_
 refine zm HF ?_;clear HF a;intro a HF
 refine zy HF (yl_leqI rfl (HF.ev rfl) (HF.ev rfl)) ?_;clear HF a;intro a HF
 refine wl_ne ?_
 refine HF.cases 12 rfl (fun cc1 _ => ?_) fun cc1 _ => ?_
 ·clear HF;rename_i HF
  have dcc1 := of_decide_eq_true cc1
  refine wc_true HF rfl ?_
  refine wp_skip ?_
  refine ex_then ?_
  refine wp_seq ?_
  refine wp_block ?_
  refine wp_seq ?_
  refine wp_sr ?_
  refine zy HF (yfa 0 rfl (HF.ev rfl)) ?_;clear HF a;intro a HF
  refine zy HF (ylo (v := .slice a0 ps.length c0) rfl (HF.ev rfl) (((HS.out.box 1 rfl).cell 0).trans rfl)) ?_;clear HF a;intro a HF
  refine zy HF (yl_lenL (e := 94) (size := 3) rfl (HF.ev rfl) (by kernel_rfl)) ?_;clear HF a;intro a HF
  refine zm HF ?_;clear HF a;intro a HF
  refine wl_ne ?_
  refine wp_block ?_
  refine wc_loop (ι := Nat) (fun k a w => (k ≤ ps.length ∧ ∀ i, i < k → hitI (dsOf ps) txg s i = false) ∧ Fr 52 a [(0, .agg #[.slice a0 ps.length c0]), (1, .int .i64 txg), (2, .pointer (some ⟨b1, 0, none⟩)), (4, .slice none 0 0), (5, .slice ao xs.length cp), (6, .int .i64 (s : Int)), (16, .slice a0 ps.length c0), (17, .int .i64 (ps.length : Int)), (18, .int .i64 (k : Int))] ∧ St w0 ([rowA IntentD.cells 8 55 (.slice ao xs.length cp) xs, boxA b1 1 34 (.agg #[.slice a0 ps.length c0])]) w) (fun k => ps.length - k) 0 ⟨⟨Nat.zero_le _, fun i hi => absurd hi (Nat.not_lt_zero _)⟩, HF.less _ ⟨rfl, rfl, rfl, rfl, rfl, rfl, rfl, rfl, rfl, trivial⟩, HS.out⟩ ?_
  clear HF HS; clear a
  rintro k a w3 ⟨⟨hk, hno⟩, HF, HS⟩
  replace HS := Bx.mk HS
  refine wp_sr ?_
  refine zy HF (yl_lssI rfl (HF.ev rfl) (HF.ev rfl)) ?_;clear HF a;intro a HF
  refine wl_ne ?_
  refine wp_seq ?_
  refine HF.cases 19 rfl (fun cc2 _ => ?_) fun cc2 _ => ?_
  ·clear HF;rename_i HF
   have dcc2 := of_decide_eq_true cc2
   refine wc_true HF rfl ?_
   refine wp_skip ?_
   refine ex_then ?_
   refine wp_seq ?_
   refine wp_block ?_
   refine wp_seq ?_
   obtain ⟨g0, o0, r0⟩ := HR.out.opn; have R0 := Bx.mk r0; clear r0
   have hok2 := ok_waits (hok k (by omega))
   refine wp_region_lit ?_
   refine zy HF (yl_indexAddrR (e := 94) (i := k) (size := 3) rfl (HF.ev rfl) (HF.ev rfl) (by kernel_rfl) rfl (by omega) (R0.out.ao k (by omega))) ?_;clear HF a;intro a HF
   refine zy HF (ylr (cs := [.slice ((ps.getD k default).a0) ((ps.getD k default).d.fCells.length) ((ps.getD k default).c0), .slice ((ps.getD k default).a1) ((ps.getD k default).d.fWaits.length) ((ps.getD k default).c1), .bool ((ps.getD k default).d.fGone)]) rfl (HF.ev rfl) (R0.out.elem HS.out (get_getD (xs := ps) (j := k) (d := default) (by omega)))) ?_;clear HF a;intro a HF
   refine wl_alloc rfl HF rfl rfl rfl (Z := [.slice none 0 0, .slice none 0 0, .bool false]) (by kernel_rfl) rfl HS.out ?_; clear HF HS a; intro a w4 b2 HF HS; replace HS := Bx.mk HS
   refine wl_storeBox rfl HF rfl rfl (HF.ev rfl) (HF.ev rfl) HS.out 0 rfl (cells_lit [.slice ((ps.getD k default).a0) ((ps.getD k default).d.fCells.length) ((ps.getD k default).c0), .slice ((ps.getD k default).a1) ((ps.getD k default).d.fWaits.length) ((ps.getD k default).c1), .bool ((ps.getD k default).d.fGone)] rfl rfl) (by kernel_rfl) ?_; clear HS; intro w5 HS; replace HS := Bx.mk HS
   have HS : Bx (St w0 ([boxA b2 3 94 (.agg #[.slice ((ps.getD k default).a0) ((ps.getD k default).d.fCells.length) ((ps.getD k default).c0), .slice ((ps.getD k default).a1) ((ps.getD k default).d.fWaits.length) ((ps.getD k default).c1), .bool ((ps.getD k default).d.fGone)]), rowA IntentD.cells 8 55 (.slice ao xs.length cp) xs, boxA b1 1 34 (.agg #[.slice a0 ps.length c0])]) _) := HS
   refine wl_ne ?_
   refine wp_seq ?_
   refine wp_sr ?_
   refine zy HF (yfa 2 rfl (HF.ev rfl)) ?_;clear HF a;intro a HF
   refine zy HF (ylo (v := .bool ((ps.getD k default).d.fGone)) rfl (HF.ev rfl) (((HS.out.box 0 rfl).cell 2).trans rfl)) ?_;clear HF a;intro a HF
   refine wl_ne ?_
   refine HF.cases 23 rfl (fun cc3 _ => ?_) fun cc3 _ => ?_
   ·clear HF;rename_i HF
    have hit : hitI (dsOf ps) txg s k = false := by unfold hitI; rw [dsAtI, cc3]; rfl
    refine wc_true HF rfl ?_
    refine wp_exit ?_
    refine ex_then_exit ?_
    refine ex_block_hit ?_
    refine ex_then ?_
    refine wp_region_lit ?_
    refine zy HF (yl_addI rfl (HF.ev rfl) (HF.ev rfl) (i64w (by omega))) ?_;clear HF a;intro a HF
    refine zm HF ?_;clear HF a;intro a HF
    refine wl_ne ?_
    have hno1 : ∀ i, i < k + 1 → hitI (dsOf ps) txg s i = false := fun i hi => (by omega : i < k ∨ i = k).elim (hno i) fun e => by subst e; exact hit
    replace HS:=Bx.mk ((HS.out.pick 2 rfl).pick 2 rfl)
    exact ⟨k + 1, ⟨⟨by omega, hno1⟩, HF.less _ ⟨rfl, rfl, rfl, rfl, rfl, rfl, rfl, rfl, rfl, trivial⟩, (HS.out.erase 2)⟩, (by omega)⟩
   ·clear HF;rename_i HF
    refine wc_false HF rfl ?_
    refine wp_skip ?_
    refine ex_then ?_
    refine wp_sr ?_
    refine zy HF (ylr (cs := [.slice ((ps.getD k default).a0) ((ps.getD k default).d.fCells.length) ((ps.getD k default).c0), .slice ((ps.getD k default).a1) ((ps.getD k default).d.fWaits.length) ((ps.getD k default).c1), .bool ((ps.getD k default).d.fGone)]) rfl (HF.ev rfl) ((HS.out.box 0 rfl).sub 0 3)) ?_;clear HF a;intro a HF
    refine zm HF ?_;clear HF a;intro a HF
    refine zy HF (yl_addI (r := ((4 + s : Nat) : Int)) rfl (HF.ev rfl) (HF.ev rfl) ((i64w (by omega)).trans (by omega))) ?_;clear HF a;intro a HF
    refine zy HF (yl_subI (r := ((3 + s : Nat) : Int)) rfl (HF.ev rfl) (HF.ev rfl) ((i64w (by omega)).trans (by omega))) ?_;clear HF a;intro a HF
    refine wl_callB rfl HF rfl (enter_of Tryz.func102 (by kernel_rfl) rfl) (args := #[.agg #[.slice ((ps.getD k default).a0) ((ps.getD k default).d.fCells.length) ((ps.getD k default).c0), .slice ((ps.getD k default).a1) ((ps.getD k default).d.fWaits.length) ((ps.getD k default).c1), .bool ((ps.getD k default).d.fGone)], .int .i64 ((3 + s : Nat) : Int)]) rfl (v := .string ((ps.getD k default).d.look (3 + s))) ((look_any (ps.getD k default).a0 (ps.getD k default).c0 (ps.getD k default).a1 (ps.getD k default).c1 (ps.getD k default).d (3 + s) _ (by rw [hok2.1]; omega) (by omega) ((HP.out k (by omega)).below HS.out.bel).rc ((HP.out k (by omega)).below HS.out.bel).rw)) rfl rfl HS.out ?_; clear HF HS a; intro w6 a HS HF; replace HS := Bx.mk HS
    refine wl_call rfl HF rfl (enter_of Tryz.func105 (by kernel_rfl) rfl) (args := #[.string ((ps.getD k default).d.look (3 + s))]) rfl (intentGet_f ((ps.getD k default).d.look (3 + s)) _ (HT.out.below HS.out.bel) (HM.out.below HS.out.bel) (HE.out.below HS.out.bel) (by have := look_le (hok k (by omega)) (3 + s) (by omega); omega)) rfl rfl ?_
    rintro _ w7 ⟨rfl, hb⟩
    refine ⟨_, rfl, ?_⟩; replace HS := Bx.mk (HS.out.later hb);clear hb HF a;intro a HF
    obtain ⟨xg, hxg⟩ : ∃ x, x = gotI ((ps.getD k default).d.look (3 + s)) := ⟨_, rfl⟩; obtain ⟨bg, hbg⟩ : ∃ b, b = gotX ((ps.getD k default).d.look (3 + s)) := ⟨_, rfl⟩; rw [← hxg, ← hbg] at HF
    have hit : hitI (dsOf ps) txg s k = (!(ps.getD k default).d.fGone && (bg && ((xg.fTxg == txg) && (xg.fSeq == (s : Int))))) := by unfold hitI; rw [dsAtI, ← hxg, ← hbg]
    refine zm HF ?_;clear HF a;intro a HF
    refine zy HF (yl_extract rfl (HF.ev rfl) rfl) ?_;clear HF a;intro a HF
    refine zy HF (yl_extract rfl (HF.ev rfl) rfl) ?_;clear HF a;intro a HF
    refine wl_alloc rfl HF rfl rfl rfl (Z := [.int .i64 0, .int .i64 0, .string ByteArray.empty, .int .i64 0, .string ByteArray.empty, .string ByteArray.empty, .int .i64 0, .string ByteArray.empty]) (by kernel_rfl) rfl HS.out ?_; clear HF HS a; intro a w8 b3 HF HS; replace HS := Bx.mk HS
    refine wl_storeBox rfl HF rfl rfl (HF.ev rfl) (HF.ev rfl) HS.out 0 rfl (cells_lit [.int .i64 xg.fTxg, .int .i64 xg.fSeq, .string xg.fHead, .int .i64 xg.fOp.fKind, .string xg.fOp.fPath, .string xg.fOp.fTo, .int .i64 xg.fOp.fAt, .string xg.fOp.fText] rfl rfl) (by kernel_rfl) ?_; clear HS; intro w9 HS; replace HS := Bx.mk HS
    have HS : Bx (St w0 ([boxA b3 8 55 (.agg #[.int .i64 xg.fTxg, .int .i64 xg.fSeq, .string xg.fHead, .int .i64 xg.fOp.fKind, .string xg.fOp.fPath, .string xg.fOp.fTo, .int .i64 xg.fOp.fAt, .string xg.fOp.fText]), boxA b2 3 94 (.agg #[.slice ((ps.getD k default).a0) ((ps.getD k default).d.fCells.length) ((ps.getD k default).c0), .slice ((ps.getD k default).a1) ((ps.getD k default).d.fWaits.length) ((ps.getD k default).c1), .bool ((ps.getD k default).d.fGone)]), rowA IntentD.cells 8 55 (.slice ao xs.length cp) xs, boxA b1 1 34 (.agg #[.slice a0 ps.length c0])]) _) := HS
    refine za HF ?_;clear HF a;intro a HF
    refine wl_ne ?_
    refine wp_sr ?_
    refine zm HF ?_;clear HF a;intro a HF
    refine zm HF ?_;clear HF a;intro a HF
    refine HF.cases 34 rfl (fun cc4 _ => ?_) fun cc4 _ => ?_
    ·clear HF;rename_i HF
     refine zg HF (yfa 0 rfl (HF.ev rfl)) ?_;clear HF a;intro a HF
     refine zg HF (ylo (v := .int .i64 xg.fTxg) rfl (HF.ev rfl) (((HS.out.box 0 rfl).cell 0).trans rfl)) ?_;clear HF a;intro a HF
     refine zg HF (yl_move rfl (HF.ev rfl)) ?_;clear HF a;intro a HF
     refine zg HF (yl_eqlI rfl (HF.ev rfl) (HF.ev rfl)) ?_;clear HF a;intro a HF
     refine zy HF (yl_pick_t rfl (HF.ev rfl) (HF.ev rfl)) ?_;clear HF a;intro a HF
     refine zm HF ?_;clear HF a;intro a HF
     refine HF.cases 40 rfl (fun cc5 _ => ?_) fun cc5 _ => ?_
     ·clear HF;rename_i HF
      have dcc5 := eq_of_beq cc5
      refine zg HF (yfa 1 rfl (HF.ev rfl)) ?_;clear HF a;intro a HF
      refine zg HF (ylo (v := .int .i64 xg.fSeq) rfl (HF.ev rfl) (((HS.out.box 0 rfl).cell 1).trans rfl)) ?_;clear HF a;intro a HF
      refine zg HF (yl_move rfl (HF.ev rfl)) ?_;clear HF a;intro a HF
      refine zg HF (yl_eqlI rfl (HF.ev rfl) (HF.ev rfl)) ?_;clear HF a;intro a HF
      refine zy HF (yl_pick_t rfl (HF.ev rfl) (HF.ev rfl)) ?_;clear HF a;intro a HF
      refine wl_ne ?_
      refine HF.cases 45 rfl (fun cc6 _ => ?_) fun cc6 _ => ?_
      ·clear HF;rename_i HF
       have dcc6 := eq_of_beq cc6
       refine wc_true HF rfl ?_
       refine wp_sr ?_
       refine zm HF ?_;clear HF a;intro a HF
       refine zy HF (ylr (cs := [.int .i64 xg.fTxg, .int .i64 xg.fSeq, .string xg.fHead, .int .i64 xg.fOp.fKind, .string xg.fOp.fPath, .string xg.fOp.fTo, .int .i64 xg.fOp.fAt, .string xg.fOp.fText]) rfl (HF.ev rfl) ((HS.out.box 0 rfl).sub 0 8)) ?_;clear HF a;intro a HF
       refine wl_buildS (enc := IntentD.cells) (e := 55) (size := 8) rfl HF rfl rfl rfl (ps := [(0, .agg #[.int .i64 xg.fTxg, .int .i64 xg.fSeq, .string xg.fHead, .int .i64 xg.fOp.fKind, .string xg.fOp.fPath, .string xg.fOp.fTo, .int .i64 xg.fOp.fAt, .string xg.fOp.fText])]) rfl (cells := [.int .i64 xg.fTxg, .int .i64 xg.fSeq, .string xg.fHead, .int .i64 xg.fOp.fKind, .string xg.fOp.fPath, .string xg.fOp.fTo, .int .i64 xg.fOp.fAt, .string xg.fOp.fText]) (by kernel_rfl) [xg] rfl rfl (by unfold maxLen; omega) rfl HS.out ?_; clear HF HS a; intro b4 a w10 HF HS; replace HS := Bx.mk HS
       refine wl_appL rfl HF rfl rfl rfl (HF.ev rfl) (HF.ev rfl) elemX IntentD.cells_len HS.out 3 (xs := xs) rfl (ys := [xg]) (St.rdN HS.out IntentD.cells_len 0 rfl) (cells_one_X _) (by unfold maxLen; (try simp only [List.length_append, List.length_cons, List.length_nil, List.nil_append, List.length_map]); omega) (by (try simp only [List.length_append, List.length_cons, List.length_nil, List.nil_append, List.length_map]); omega) ?_; clear HF HS a; intro ao5 cp6 w11 a HF HS; replace HS := Bx.mk HS
       try dsimp only [List.eraseIdx] at HS
       refine za HF ?_;clear HF a;intro a HF
       refine wl_ne ?_
       refine wp_exit ?_
       refine ex_block_miss rfl ?_
       refine ex_then_exit ?_
       refine ex_then_exit ?_
       refine ex_block_miss rfl ?_
       refine ex_then_exit ?_
       refine ex_block_hit ?_
       refine ex_then ?_
       refine wp_region_lit ?_
       refine zm HF ?_;clear HF a;intro a HF
       refine zy HF (yl_addI rfl (HF.ev rfl) (HF.ev rfl) (i64w (by omega))) ?_;clear HF a;intro a HF
       refine za HF ?_;clear HF a;intro a HF
       refine wl_ne ?_
       have hz : xs.length + ([xg] : List IntentD).length = (xs ++ [xg]).length := (List.length_append ..).symm
       rw [hz] at HS HF
       have hlen : (xs ++ [xg]).length + 1 = s + 1 := by rw [List.length_append]; simp only [List.length_cons, List.length_nil]; omega
       have hyes : hitI (dsOf ps) txg s k = true := by rw [hit, cc3, cc4, cc5, cc6]; rfl
       have hgot : GotL (dsOf ps) txg (xs ++ [xg]) := hgl.snoc (i := k) (by rw [hxl]; exact ⟨by omega, hyes, by rw [hxg, dsAtI], hno⟩)
       replace HS:=Bx.mk ((HS.out.pick 4 rfl).pick 4 rfl)
       exact ⟨s + 1, ⟨_, _, xs ++ [xg], ⟨by omega, by omega, hlen, hgot⟩, HF.less _ ⟨rfl, rfl, rfl, rfl, rfl, rfl, trivial⟩, (((HS.out.erase 4).erase 3).erase 2)⟩, (by omega)⟩
      ·clear HF;rename_i HF
       have dcc6 := ne_of_beq_false cc6
       have hit0 : hitI (dsOf ps) txg s k = false := by rw [hit, cc6]; simp
       refine wc_false HF rfl ?_
       refine wp_skip ?_
       refine ex_block ?_
       refine ex_then ?_
       refine wp_region_lit ?_
       refine zy HF (yl_addI rfl (HF.ev rfl) (HF.ev rfl) (i64w (by omega))) ?_;clear HF a;intro a HF
       refine zm HF ?_;clear HF a;intro a HF
       refine wl_ne ?_
       have hno1 : ∀ i, i < k + 1 → hitI (dsOf ps) txg s i = false := fun i hi => (by omega : i < k ∨ i = k).elim (hno i) fun e => by subst e; exact hit0
       replace HS:=Bx.mk ((HS.out.pick 3 rfl).pick 3 rfl)
       exact ⟨k + 1, ⟨⟨by omega, hno1⟩, HF.less _ ⟨rfl, rfl, rfl, rfl, rfl, rfl, rfl, rfl, rfl, trivial⟩, ((HS.out.erase 3).erase 2)⟩, (by omega)⟩
     ·clear HF;rename_i HF
      have dcc5 := ne_of_beq_false cc5
      have hit0 : hitI (dsOf ps) txg s k = false := by rw [hit, cc5]; simp
      refine zk HF ?_;clear HF a;intro a HF
      refine zk HF ?_;clear HF a;intro a HF
      refine zk HF ?_;clear HF a;intro a HF
      refine zk HF ?_;clear HF a;intro a HF
      refine zy HF (yl_pick_f rfl (HF.ev rfl) (HF.ev rfl)) ?_;clear HF a;intro a HF
      refine wl_ne ?_
      refine wc_false HF rfl ?_
      refine wp_skip ?_
      refine ex_block ?_
      refine ex_then ?_
      refine wp_region_lit ?_
      refine zy HF (yl_addI rfl (HF.ev rfl) (HF.ev rfl) (i64w (by omega))) ?_;clear HF a;intro a HF
      refine zm HF ?_;clear HF a;intro a HF
      refine wl_ne ?_
      have hno1 : ∀ i, i < k + 1 → hitI (dsOf ps) txg s i = false := fun i hi => (by omega : i < k ∨ i = k).elim (hno i) fun e => by subst e; exact hit0
      replace HS:=Bx.mk ((HS.out.pick 3 rfl).pick 3 rfl)
      exact ⟨k + 1, ⟨⟨by omega, hno1⟩, HF.less _ ⟨rfl, rfl, rfl, rfl, rfl, rfl, rfl, rfl, rfl, trivial⟩, ((HS.out.erase 3).erase 2)⟩, (by omega)⟩
    ·clear HF;rename_i HF
     have hit0 : hitI (dsOf ps) txg s k = false := by rw [hit, cc4]; simp
     refine zk HF ?_;clear HF a;intro a HF
     refine zk HF ?_;clear HF a;intro a HF
     refine zk HF ?_;clear HF a;intro a HF
     refine zk HF ?_;clear HF a;intro a HF
     refine zy HF (yl_pick_f rfl (HF.ev rfl) (HF.ev rfl)) ?_;clear HF a;intro a HF
     refine zm HF ?_;clear HF a;intro a HF
     refine zk HF ?_;clear HF a;intro a HF
     refine zk HF ?_;clear HF a;intro a HF
     refine zk HF ?_;clear HF a;intro a HF
     refine zk HF ?_;clear HF a;intro a HF
     refine zy HF (yl_pick_f rfl (HF.ev rfl) (HF.ev rfl)) ?_;clear HF a;intro a HF
     refine wl_ne ?_
     refine wc_false HF rfl ?_
     refine wp_skip ?_
     refine ex_block ?_
     refine ex_then ?_
     refine wp_region_lit ?_
     refine zy HF (yl_addI rfl (HF.ev rfl) (HF.ev rfl) (i64w (by omega))) ?_;clear HF a;intro a HF
     refine zm HF ?_;clear HF a;intro a HF
     refine wl_ne ?_
     have hno1 : ∀ i, i < k + 1 → hitI (dsOf ps) txg s i = false := fun i hi => (by omega : i < k ∨ i = k).elim (hno i) fun e => by subst e; exact hit0
     replace HS:=Bx.mk ((HS.out.pick 3 rfl).pick 3 rfl)
     exact ⟨k + 1, ⟨⟨by omega, hno1⟩, HF.less _ ⟨rfl, rfl, rfl, rfl, rfl, rfl, rfl, rfl, rfl, trivial⟩, ((HS.out.erase 3).erase 2)⟩, (by omega)⟩
  ·clear HF;rename_i HF
   have dcc2 := of_decide_eq_false cc2
   refine wc_false HF rfl ?_
   refine wp_exit ?_
   refine ex_then_exit ?_
   refine ex_then_exit ?_
   refine ex_block_hit ?_
   refine ex_then ?_
   refine wp_exit ?_
   refine ex_block_miss rfl ?_
   refine ex_then_exit ?_
   refine ex_then_exit ?_
   refine ex_block_hit ?_
   refine ex_then ?_
   refine wp_sr ?_
   refine zm HF ?_;clear HF a;intro a HF
   refine za HF ?_;clear HF a;intro a HF
   refine wl_ne ?_
   refine wp_ret ?_
   refine ex_scope_ret ?_
   refine bp_ret1 HF Tryz.results58 (HF.res rfl) ?_
   refine ⟨_, _, xs, ⟨hgl, ?_, by omega⟩, rfl, (HS.out.erase 1)⟩
   intro _; rw [hxl]; exact fun i hi => hno i (by omega)
 ·clear HF;rename_i HF
  have dcc1 := of_decide_eq_false cc1
  refine wc_false HF rfl ?_
  refine wp_exit ?_
  refine ex_then_exit ?_
  refine ex_then_exit ?_
  refine ex_block_hit ?_
  refine ex_then ?_
  refine wp_sr ?_
  refine zm HF ?_;clear HF a;intro a HF
  refine za HF ?_;clear HF a;intro a HF
  refine wl_ne ?_
  refine wp_ret ?_
  refine ex_scope_ret ?_
  refine bp_ret1 HF Tryz.results58 (HF.res rfl) ?_
  refine ⟨_, _, xs, ⟨hgl, ?_, by omega⟩, rfl, (HS.out.erase 1)⟩
  intro h; omega

theorem intentList_any (a0 : Option Addr) (c0 : Nat) (ps : List HD) (w0 : World) (hT : TabP w0) (hM : MaxP w0) (hE : ErrP w0) (hl : ps.length ≤ 1048576) (hf : ∀ k, (ps.getD k default).d.fits) (hR : Rd HD.cells 3 w0 a0 ps.length ps) (hP : ∀ k, k < ps.length → (ps.getD k default).reads w0) (hok : okR (dsOf ps) = true) (txg : Int) : Calls Tryz.prog 25 #[.agg #[.slice a0 ps.length c0], .int .i64 txg] w0 fun e w' => ∃ ao cp xs, IsL (dsOf ps) txg xs ∧ e = .returned (.slice ao xs.length cp) ∧ St w0 [rowA IntentD.cells 8 55 (.slice ao xs.length cp) xs] w' := by
 have HT := Bx.mk hT; have HM := Bx.mk hM; have HE := Bx.mk hE; have HR := Bx.mk hR; have HP := Bx.mk hP; clear hT hM hE hR hP
 have h3 := okR_three hok
 have HS := Bx.mk (St.start w0)
 refine wc_enter Tryz.func25 rfl Tryz.ntmps25 [(0, .agg #[.slice a0 ps.length c0]), (1, .int .i64 txg)] ⟨rfl, rfl, trivial⟩ rfl ?_; intro a HF
 refine wp_sr ?_
 refine wl_box rfl HF rfl (HF.ev rfl) (Z := [.slice a0 ps.length c0]) rfl rfl rfl rfl HS.out ?_; clear HF HS a; intro a w1 b1 HF HS; replace HS := Bx.mk HS
 refine za HF ?_;clear HF a;intro a HF
 refine wl_ne ?_
 refine wp_seq ?_
 refine wp_sr ?_
 refine zy HF (ylr (cs := [.slice a0 ps.length c0]) rfl (HF.ev rfl) ((HS.out.box 0 rfl).sub 0 1)) ?_;clear HF a;intro a HF
 refine wl_callB rfl HF rfl (enter_of Tryz.func35 (by kernel_rfl) rfl) (args := #[.agg #[.slice a0 ps.length c0]]) rfl (v := .bool true) ((by rw [← hok]; exact implRaidOk_any a0 c0 ps _ (by omega) hf (HR.out.below HS.out.bel) (fun k hk => (HP.out k hk).below HS.out.bel))) rfl rfl HS.out ?_; clear HF HS a; intro w2 a HS HF; replace HS := Bx.mk HS
 refine zy HF (yl_not rfl (HF.ev rfl)) ?_;clear HF a;intro a HF
 refine wl_ne ?_
 refine wc_false HF rfl ?_
 refine wp_skip ?_
 refine ex_then ?_
 refine wp_sr ?_
 refine zy HF (ylr (cs := [.slice a0 ps.length c0]) rfl (HF.ev rfl) ((HS.out.box 0 rfl).sub 0 1)) ?_;clear HF a;intro a HF
 refine zm HF ?_;clear HF a;intro a HF
 refine wl_call rfl HF rfl (enter_of Tryz.func58 (by kernel_rfl) rfl) (args := #[.agg #[.slice a0 ps.length c0], .int .i64 txg]) rfl (intents_any a0 c0 ps _ (HT.out.below HS.out.bel) (HM.out.below HS.out.bel) (HE.out.below HS.out.bel) h3.1 h3.2 (HR.out.below HS.out.bel) (fun k hk => (HP.out k hk).below HS.out.bel) txg) rfl rfl ?_
 rintro _ w3 ⟨ao, cp, xs, hil, rfl, hs1⟩
 refine ⟨_, rfl, ?_⟩; replace HS := Bx.mk (HS.out.add hs1);clear hs1 HF a;intro a HF
 try dsimp only [List.eraseIdx] at HS
 refine za HF ?_;clear HF a;intro a HF
 refine wl_ne ?_
 refine wp_ret ?_
 refine bp_ret1 HF Tryz.results25 (HF.res rfl) ?_
 exact ⟨_, _, xs, hil, rfl, (HS.out.erase 1)⟩

end Go.Proofs.YtoaopmkbfifhaaaGreatDoor

/- Drawing roots and spoilt texts. -/
namespace Go.Proofs.YtoaopmkbfifhaaaGreatDoor
set_option linter.unusedVariables false
set_option linter.unusedSimpArgs false
set_option maxHeartbeats 1000000
set_option maxRecDepth 100000
open Go.RowKit

abbrev lit0 : List ByteArray := [(⟨#[48]⟩ : ByteArray), (⟨#[58]⟩ : ByteArray), (⟨#[46]⟩ : ByteArray), (⟨#[45]⟩ : ByteArray), (⟨#[59]⟩ : ByteArray), (⟨#[32]⟩ : ByteArray)]
theorem l91Spoil_any (w0 w : World) (rb : Nat) (ab : Option Addr) (n cb : Nat) (bs : List UInt8) (hn : n ≤ 2000) (hR : Rd encB 1 w0 ab n bs) (B : Nat) (hB : B ≤ 700000) (s : ByteArray) (hs : s.size ≤ 100000) (F : List Asr) (hS : St w0 (rdA rb ab n cb B :: F) w) : Calls Tryz.prog 96 #[.pointer (some ⟨rb, 0, none⟩), .string s] w fun e w' => ∃ t : ByteArray, e = .returned (.string t) ∧ t.size ≤ s.size + 4 ∧ St w0 (rdA rb ab n cb (B + 20) :: F) w' := by
 have HS := Bx.mk hS; clear hS
 refine wc_enter Tryz.func96 rfl Tryz.ntmps96 [(0, .pointer (some ⟨rb, 0, none⟩)), (1, .string s)] ⟨rfl, rfl, trivial⟩ rfl ?_; intro a HF
 refine wp_sr ?_
 refine za HF ?_;clear HF a;intro a HF
 refine wl_ne ?_
 refine wp_seq ?_
 refine wp_sr ?_
 refine zm HF ?_;clear HF a;intro a HF
 refine zy HF (yl_eqlS rfl (HF.ev rfl) (HF.ev rfl)) ?_;clear HF a;intro a HF
 refine wl_ne ?_
 refine HF.cases 7 rfl (fun cc1 _ => ?_) fun cc1 _ => ?_
 ·clear HF;rename_i HF
  refine wc_true HF rfl ?_
  refine wp_sr ?_
  refine zm HF ?_;clear HF a;intro a HF
  replace HS:=Bx.mk (HS.out.pick 0 rfl)
  refine wl_call rfl HF rfl (enter_of Tryz.func138 (by kernel_rfl) rfl) (args := #[.pointer (some ⟨rb, 0, none⟩), .int .i64 4]) rfl (l91Text_any w0 _ rb ab n cb bs hn hR B (by omega) 4 (by omega) _ HS.out) rfl rfl ?_
  rintro _ w1 ⟨dt1, rfl, ht1, hs1⟩
  refine ⟨_, rfl, ?_⟩; replace HS := Bx.mk hs1;clear hs1 HF a;intro a HF
  try dsimp only [List.eraseIdx] at HS
  refine za HF ?_;clear HF a;intro a HF
  refine wl_ne ?_
  refine wp_ret ?_
  refine ex_then_ret ?_
  refine bp_ret1 HF Tryz.results96 (HF.res rfl) ?_
  replace HS:=Bx.mk (HS.out.pick 0 rfl)
  replace HS : Bx (St w0 (rdA rb ab n cb (B + 20) :: F) _) := ⟨HS.out.rdLe (by omega)⟩
  exact ⟨_, rfl, (by omega), HS.out⟩
 ·clear HF;rename_i HF
  have hsp := size_pos (s := s) (by simpa using cc1)
  refine wc_false HF rfl ?_
  refine wp_skip ?_
  refine ex_then ?_
  refine wp_sr ?_
  refine zm HF ?_;clear HF a;intro a HF
  refine zm HF ?_;clear HF a;intro a HF
  refine zy HF (yl_lenS rfl (HF.ev rfl) (by kernel_rfl)) ?_;clear HF a;intro a HF
  replace HS:=Bx.mk (HS.out.pick 0 rfl)
  refine wl_call rfl HF rfl (enter_of Tryz.func94 (by kernel_rfl) rfl) (args := #[.pointer (some ⟨rb, 0, none⟩), .int .i64 (s.size : Int)]) rfl (pickN w0 _ rb ab n cb bs hn hR B (by omega) (s.size : Int) (by omega) _ HS.out) rfl rfl ?_
  rintro _ w2 ⟨dn2, rfl, hu2, hs1⟩
  refine ⟨_, rfl, ?_⟩; replace HS := Bx.mk hs1;clear hs1 HF a;intro a HF
  try dsimp only [List.eraseIdx] at HS
  refine za HF ?_;clear HF a;intro a HF
  refine wl_ne ?_
  refine wp_seq ?_
  refine wp_sr ?_
  refine zm HF ?_;clear HF a;intro a HF
  replace HS:=Bx.mk (HS.out.pick 0 rfl)
  refine wl_call rfl HF rfl (enter_of Tryz.func94 (by kernel_rfl) rfl) (args := #[.pointer (some ⟨rb, 0, none⟩), .int .i64 4]) rfl (pickN w0 _ rb ab n cb bs hn hR (B + 1) (by omega) 4 (by omega) _ HS.out) rfl rfl ?_
  rintro _ w3 ⟨dn3, rfl, hu3, hs1⟩
  refine ⟨_, rfl, ?_⟩; replace HS := Bx.mk hs1;clear hs1 HF a;intro a HF
  try dsimp only [List.eraseIdx] at HS
  refine wl_ne ?_
  refine wp_block ?_
  refine wp_sr ?_
  refine zy HF (yl_eqlI rfl (HF.ev rfl) (HF.ev rfl)) ?_;clear HF a;intro a HF
  refine za HF ?_;clear HF a;intro a HF
  refine wl_ne ?_
  refine HF.cases 16 rfl (fun cc2 _ => ?_) fun cc2 _ => ?_
  ·clear HF;rename_i HF
   have dcc2 := eq_of_beq cc2
   refine wc_true HF rfl ?_
   refine wp_seq ?_
   refine wr_quiet (by kernel_rfl) (by kernel_rfl) HS.out ?_
   refine zq HF (fun _ HS => (yl_move rfl (HF.ev rfl))) ?_;clear HF a;intro a HF
   refine zq HF (fun _ HS => (yl_move rfl (HF.ev rfl))) ?_;clear HF a;intro a HF
   refine zq HF (fun _ HS => (yl_sliceSh (k := dn2) rfl (HF.ev rfl) (HF.ev rfl) (by kernel_rfl) (by omega) (by omega))) ?_;clear HF a;intro a HF
   refine zq HF (fun _ HS => (yl_move rfl (HF.ev rfl))) ?_;clear HF a;intro a HF
   refine zq HF (fun _ HS => (yl_move rfl (HF.ev rfl))) ?_;clear HF a;intro a HF
   refine zq HF (fun _ HS => (yl_addI rfl (HF.ev rfl) (HF.ev rfl) (i64w (by omega)))) ?_;clear HF a;intro a HF
   refine zq HF (fun _ HS => (yl_sliceSl (k := dn2 + 1) rfl (HF.ev rfl) (HF.ev rfl) (by kernel_rfl) (by omega) (by omega))) ?_;clear HF a;intro a HF
   refine zq HF (fun _ HS => (yl_addS rfl (HF.ev rfl) (HF.ev rfl) (by (try simp only [ByteArray.size_append, ByteArray.size_extract, size1]); omega))) ?_;clear HF a;intro a HF
   refine zq HF (fun _ HS => (yl_assign rfl (HF.ev rfl))) ?_;clear HF a;intro a HF
   refine wpQuiet_nil ?_; intro w4 HS; replace HS := Bx.mk HS
   refine ex_then ?_
   refine wp_ret ?_
   refine ex_block_ret ?_
   refine ex_then_ret ?_
   refine bp_ret1 HF Tryz.results96 (HF.res rfl) ?_
   replace HS:=Bx.mk (HS.out.pick 0 rfl)
   replace HS : Bx (St w0 (rdA rb ab n cb (B + 20) :: F) _) := ⟨HS.out.rdLe (by omega)⟩
   exact ⟨_, rfl, (by rw [ByteArray.size_append]; (try simp only [ByteArray.size_append, ByteArray.size_extract, size1]); omega), HS.out⟩
  ·clear HF;rename_i HF
   have dcc2 := ne_of_beq_false cc2
   refine wc_false HF rfl ?_
   refine wp_sr ?_
   refine zy HF (yl_eqlI rfl (HF.ev rfl) (HF.ev rfl)) ?_;clear HF a;intro a HF
   refine za HF ?_;clear HF a;intro a HF
   refine wl_ne ?_
   refine HF.cases 26 rfl (fun cc3 _ => ?_) fun cc3 _ => ?_
   ·clear HF;rename_i HF
    have dcc3 := eq_of_beq cc3
    refine wc_true HF rfl ?_
    refine wp_sr ?_
    refine zm HF ?_;clear HF a;intro a HF
    refine zm HF ?_;clear HF a;intro a HF
    refine zy HF (yl_sliceSh (k := dn2) rfl (HF.ev rfl) (HF.ev rfl) (by kernel_rfl) (by omega) (by omega)) ?_;clear HF a;intro a HF
    refine za HF ?_;clear HF a;intro a HF
    refine wl_ne ?_
    refine wp_ret ?_
    refine ex_block_ret ?_
    refine ex_then_ret ?_
    refine bp_ret1 HF Tryz.results96 (HF.res rfl) ?_
    replace HS:=Bx.mk (HS.out.pick 0 rfl)
    replace HS : Bx (St w0 (rdA rb ab n cb (B + 20) :: F) _) := ⟨HS.out.rdLe (by omega)⟩
    exact ⟨_, rfl, (by rw [ByteArray.size_extract]; (try simp only [ByteArray.size_append, ByteArray.size_extract, size1]); omega), HS.out⟩
   ·clear HF;rename_i HF
    have dcc3 := ne_of_beq_false cc3
    refine wc_false HF rfl ?_
    refine wp_sr ?_
    refine zy HF (yl_eqlI rfl (HF.ev rfl) (HF.ev rfl)) ?_;clear HF a;intro a HF
    refine za HF ?_;clear HF a;intro a HF
    refine wl_ne ?_
    refine HF.cases 31 rfl (fun cc4 _ => ?_) fun cc4 _ => ?_
    ·clear HF;rename_i HF
     have dcc4 := eq_of_beq cc4
     refine wc_true HF rfl ?_
     refine wp_seq ?_
     refine wr_heldS (s := F) (by kernel_rfl) (St.drew ((HS.out.erase 0))) ?_
     have HS2 := Bx.mk HS.out.drew; replace HS := Bx.mk (show St w0 (F) _ from (HS.out.drew.erase 0))
     generalize World.drew _ = w5 at HS HS2 ⊢
     refine zh 0 rfl HF (fun _ HS => (yl_move rfl (HF.ev rfl))) HS.out ?_;clear HF a;intro a HF
     refine zh 1 rfl HF (fun _ HS => (yl_move rfl (HF.ev rfl))) HS.out ?_;clear HF a;intro a HF
     refine zh 2 rfl HF (fun _ HS => (yl_sliceSh (k := dn2) rfl (HF.ev rfl) (HF.ev rfl) (by kernel_rfl) (by omega) (by omega))) HS.out ?_;clear HF a;intro a HF
     refine zh 3 rfl HF (fun _ HS => (yl_move rfl (HF.ev rfl))) HS.out ?_;clear HF a;intro a HF
     refine zh 9 rfl HF (fun _ HS => (yl_move rfl (HF.ev rfl))) HS.out ?_;clear HF a;intro a HF
     refine zh 10 rfl HF (fun _ HS => (yl_move rfl (HF.ev rfl))) HS.out ?_;clear HF a;intro a HF
     refine zh 11 rfl HF (fun _ HS => (yl_addI rfl (HF.ev rfl) (HF.ev rfl) (i64w (by omega)))) HS.out ?_;clear HF a;intro a HF
     refine zh 12 rfl HF (fun _ HS => (yl_sliceSl (k := dn2 + 1) rfl (HF.ev rfl) (HF.ev rfl) (by kernel_rfl) (by omega) (by omega))) HS.out ?_;clear HF a;intro a HF
     refine wh_one 4 (by kernel_rfl) ?_
     replace HS2:=Bx.mk (HS2.out.pick 0 rfl)
     refine wo_call rfl rfl HF rfl (enter_of Tryz.func94 (by kernel_rfl) rfl) (args := #[.pointer (some ⟨rb, 0, none⟩), .int .i64 256]) rfl (pickN w0 _ rb ab n cb bs hn hR (B + 1 + 1) (by omega) 256 (by omega) _ HS2.out) rfl rfl ?_
     rintro _ w7 ⟨dn4, rfl, hu4, hs1⟩
     refine ⟨_, rfl, ?_⟩; replace HS2 := Bx.mk hs1;clear hs1 HF a;intro a HF
     replace HS2 : Bx (St w0 (rdA rb ab n cb (B + 1 + 1 + 1) :: F) _) := ⟨HS2.out⟩
     clear HS; have HS : Bx (St w0 (F) _) := ⟨(HS2.out.erase 0)⟩; refine ⟨HS.out, ?_⟩
     refine zh 5 rfl HF (fun _ HS => (yl_toU8 (b := UInt8.ofNat (dn4 : Int).toNat) rfl (HF.ev rfl) (by omega) rfl (by kernel_rfl) (by kernel_rfl))) HS.out ?_;clear HF a;intro a HF
     refine wh_one 6 (by kernel_rfl) ?_
     refine wo_buildS (enc := encB) (e := 5) (size := 1) rfl rfl HF rfl rfl rfl (ps := [(0, .int .u8 ((UInt8.ofNat (dn4 : Int).toNat).toNat : Int))]) rfl (cells := [.int .u8 ((UInt8.ofNat (dn4 : Int).toNat).toNat : Int)]) (by kernel_rfl) [(UInt8.ofNat (dn4 : Int).toNat)] rfl rfl (by unfold maxLen; omega) rfl HS2.out HS.out ?_; clear HF HS HS2 a; intro b5 a w9 HF HS2 HS; replace HS := Bx.mk HS; replace HS2 := Bx.mk HS2; refine ⟨HS.out, ?_⟩
     refine wh_one 7 (by kernel_rfl) ?_
     refine wo_y rfl rfl HF rfl rfl (yl_convBS (e1 := 5) rfl (HF.ev rfl) (by kernel_rfl) (by kernel_rfl) (by kernel_rfl) (xs := [(UInt8.ofNat (dn4 : Int).toNat)]) (St.rdN HS2.out encB_len 0 rfl)) ?_;clear HF a;intro a HF; refine ⟨HS.out, ?_⟩
     refine zh 8 rfl HF (fun _ HS => (yl_addS rfl (HF.ev rfl) (HF.ev rfl) (by (try simp only [ByteArray.size_append, ByteArray.size_extract, size1]); omega))) HS.out ?_;clear HF a;intro a HF
     refine zh 13 rfl HF (fun _ HS => (yl_addS rfl (HF.ev rfl) (HF.ev rfl) (by (try simp only [ByteArray.size_append, ByteArray.size_extract, size1]); omega))) HS.out ?_;clear HF a;intro a HF
     refine zh 14 rfl HF (fun _ HS => (yl_assign rfl (HF.ev rfl))) HS.out ?_;clear HF a;intro a HF
     refine wh_done (by kernel_rfl) ?_
     replace HS := HS2; clear HS2
     refine ex_then ?_
     refine wp_ret ?_
     refine ex_block_ret ?_
     refine ex_then_ret ?_
     refine bp_ret1 HF Tryz.results96 (HF.res rfl) ?_
     replace HS:=Bx.mk (HS.out.pick 1 rfl)
     replace HS : Bx (St w0 (rdA rb ab n cb (B + 20) :: rowA encB 1 5 (.slice (some ⟨b5, 0, none⟩) 1 1) ([(UInt8.ofNat (dn4 : Int).toNat)]) :: F) _) := ⟨HS.out.rdLe (by omega)⟩
     exact ⟨_, rfl, (by rw [ByteArray.size_append]; (try simp only [ByteArray.size_append, ByteArray.size_extract, size1]); omega), (HS.out.erase 1)⟩
    ·clear HF;rename_i HF
     have dcc4 := ne_of_beq_false cc4
     refine wc_false HF rfl ?_
     refine wp_skip ?_
     refine ex_block ?_
     refine ex_then ?_
     refine wp_seq ?_
     have hl6 : ∀ k, (lit0.getD k ByteArray.empty).size ≤ 1 := getD_le (by decide)
     refine wp_region_lit ?_
     refine zm HF ?_;clear HF a;intro a HF
     refine wl_buildS (enc := encS) (e := 9) (size := 1) rfl HF rfl rfl rfl (ps := [(0, .string (⟨#[48]⟩ : ByteArray)), (1, .string (⟨#[58]⟩ : ByteArray)), (2, .string (⟨#[46]⟩ : ByteArray)), (3, .string (⟨#[45]⟩ : ByteArray)), (4, .string (⟨#[59]⟩ : ByteArray)), (5, .string (⟨#[32]⟩ : ByteArray))]) rfl (cells := [.string (⟨#[48]⟩ : ByteArray), .string (⟨#[58]⟩ : ByteArray), .string (⟨#[46]⟩ : ByteArray), .string (⟨#[45]⟩ : ByteArray), .string (⟨#[59]⟩ : ByteArray), .string (⟨#[32]⟩ : ByteArray)]) (by kernel_rfl) lit0 rfl rfl (by unfold maxLen; omega) rfl HS.out ?_; clear HF HS a; intro b6 a w11 HF HS; replace HS := Bx.mk HS
     refine zm HF ?_;clear HF a;intro a HF
     replace HS:=Bx.mk (HS.out.pick 1 rfl)
     refine wl_call rfl HF rfl (enter_of Tryz.func94 (by kernel_rfl) rfl) (args := #[.pointer (some ⟨rb, 0, none⟩), .int .i64 6]) rfl (pickN w0 _ rb ab n cb bs hn hR (B + 1 + 1) (by omega) 6 (by omega) _ HS.out) rfl rfl ?_
     rintro _ w12 ⟨dn7, rfl, hu7, hs1⟩
     refine ⟨_, rfl, ?_⟩; replace HS := Bx.mk hs1;clear hs1 HF a;intro a HF
     try dsimp only [List.eraseIdx] at HS
     refine zy HF (yl_indexAddr (e := 9) (i := dn7) (size := 1) rfl (HF.ev rfl) (HF.ev rfl) (by kernel_rfl) rfl (by omega)) ?_;clear HF a;intro a HF
     refine zy HF (ylo (v := .string ((lit0).getD dn7 ByteArray.empty)) rfl (HF.ev rfl) (HS.out.elem1 encS_len 1 rfl (get_getD (xs := lit0) (j := dn7) (d := ByteArray.empty) (by (try simp only [List.length_cons, List.length_nil]); omega)) rfl)) ?_;clear HF a;intro a HF
     refine zy HF (yl_addS rfl (HF.ev rfl) (HF.ev rfl) (by have := hl6 dn7; (try simp only [ByteArray.size_append, ByteArray.size_extract, size1]); omega)) ?_;clear HF a;intro a HF
     refine za HF ?_;clear HF a;intro a HF
     refine wl_ne ?_
     refine wp_ret ?_
     refine bp_ret1 HF Tryz.results96 (HF.res rfl) ?_
     replace HS:=Bx.mk (HS.out.pick 0 rfl)
     replace HS : Bx (St w0 (rdA rb ab n cb (B + 20) :: rowA encS 1 9 (.slice (some ⟨b6, 0, none⟩) 6 6) (lit0) :: F) _) := ⟨HS.out.rdLe (by omega)⟩
     exact ⟨_, rfl, (by have h7 := hl6 dn7; rw [ByteArray.size_append]; (try simp only [ByteArray.size_append, ByteArray.size_extract, size1]); omega), (HS.out.erase 1)⟩

end Go.Proofs.YtoaopmkbfifhaaaGreatDoor

/- Drawing disks with roots. -/
namespace Go.Proofs.YtoaopmkbfifhaaaGreatDoor
set_option linter.unusedVariables false
set_option linter.unusedSimpArgs false
set_option maxHeartbeats 1000000
set_option maxRecDepth 100000
open Go.RowKit

theorem niceS_set {n k : Nat} {ds : List DiskD} {d : DiskD} (h : niceS n ds) (hd : d.nice n) : niceS n (ds.set k d) := ⟨by rw [List.length_set]; exact h.1, fun e he => (List.mem_or_eq_of_mem_set he).elim (h.2 e) fun q => by rw [q]; exact hd⟩
theorem nice_cell {n m : Nat} {d : DiskD} {t : ByteArray} (h : d.nice n) (ht : t.size ≤ 1000) : DiskD.nice n { d with fCells := d.fCells.set m t } := ⟨h.g, by rw [List.length_set]; exact h.c, h.w, h.a, fun x hx => (List.mem_or_eq_of_mem_set hx).elim (h.z x) fun e => by rw [e]; exact ht, h.u⟩
theorem fits_cell {n m : Nat} {d : DiskD} {t : ByteArray} (h : d.nice n) (hn : n ≤ 1000) (ht : t.size ≤ 100000) : DiskD.fits { d with fCells := d.fCells.set m t } := ⟨by show (d.fCells.set m t).length ≤ _; rw [List.length_set, h.c]; omega, by have := h.w; show d.fWaits.length ≤ _; omega, fun k => by have := getD_le (xs := d.fCells.set m t) (m := 100000) (fun x hx => (List.mem_or_eq_of_mem_set hx).elim (fun hm => Nat.le_trans (h.z x hm) (by decide)) fun e => by rw [e]; exact ht) k; show ((d.fCells.set m t).getD k _).size ≤ _; omega, fun k => by have := waits_le h.u k; show ((d.fWaits.getD k default).fText).size ≤ _; omega⟩
theorem set_self {qs : List HD} {k : Nat} (hk : k < qs.length) {q : HD} (h : q = qs.getD k default) : qs.set k q = qs := by
  rw [h, getD_get hk]
  exact List.set_getElem_self hk
/-- A cell written in a disk of a set. -/
theorem St.cellIn {W w : World} {F : List Asr} {g : Nat} {c : Nat} {qs : List HD} {k m : Nat} {q : HD} {t : ByteArray} (hk : k < qs.length) (hq : q = qs.getD k default) (h : St W (rowA HD.cells 3 94 (.slice (some ⟨g, 0, none⟩) 3 c) qs :: rowA encS 1 9 (.slice q.a0 q.d.fCells.length q.c0) (q.d.fCells.set m t) :: rowA WaitD.cells 2 137 (.slice q.a1 q.d.fWaits.length q.c1) q.d.fWaits :: sepA ((qs.eraseIdx k).map HD.asr) :: F) w) :
    St W (rowA HD.cells 3 94 (.slice (some ⟨g, 0, none⟩) 3 c) (qs.set k ⟨q.a0, q.c0, q.a1, q.c1, { q.d with fCells := q.d.fCells.set m t }⟩) :: sepA ((qs.set k ⟨q.a0, q.c0, q.a1, q.c1, { q.d with fCells := q.d.fCells.set m t }⟩).map HD.asr) :: F) w := by
  have hcc : HD.cells ⟨q.a0, q.c0, q.a1, q.c1, { q.d with fCells := q.d.fCells.set m t }⟩ = HD.cells q := by simp only [HD.cells, List.length_set]
  have hlen : q.d.fCells.length = (q.d.fCells.set m t).length := List.length_set.symm
  have h1 := h.imp0 (fun w f h => rowA_congr (ys := qs.set k ⟨q.a0, q.c0, q.a1, q.c1, { q.d with fCells := q.d.fCells.set m t }⟩) (by simp) ((congrArg (List.flatMap HD.cells) (set_self hk hq).symm).trans (flatMap_set_same hcc)) h)
  have h2 := St.pick (St.pick (St.pick h1 1 rfl) 2 rfl) 3 rfl
  rw [hlen] at h1
  have h3 := ((h1.pick 2 rfl).pick 2 rfl)
  have h4 : St W (HD.asr ⟨q.a0, q.c0, q.a1, q.c1, { q.d with fCells := q.d.fCells.set m t }⟩ :: _) w := (St.join (r := [_, _])).1 h3
  have h5 := St.hdIn ((h4.pick 2 rfl).swap) hk
  exact h5.swap

end Go.Proofs.YtoaopmkbfifhaaaGreatDoor

/- Drawing names, paths, operations. -/
namespace Go.Proofs.YtoaopmkbfifhaaaGreatDoor
set_option linter.unusedVariables false
set_option linter.unusedSimpArgs false
set_option maxHeartbeats 1000000
set_option maxRecDepth 100000
open Go.RowKit

abbrev lit1 : List ByteArray := [(⟨#[]⟩ : ByteArray), (⟨#[65]⟩ : ByteArray), (⟨#[97, 98, 99, 100, 101]⟩ : ByteArray), (⟨#[97, 47]⟩ : ByteArray), (⟨#[109, 97, 105, 110]⟩ : ByteArray)]
abbrev lit2 : List ByteArray := [(⟨#[97]⟩ : ByteArray), (⟨#[98]⟩ : ByteArray), (⟨#[99]⟩ : ByteArray), (⟨#[97, 98]⟩ : ByteArray), (⟨#[122, 122]⟩ : ByteArray)]
theorem l92Name_any (w0 w : World) (rb : Nat) (ab : Option Addr) (n cb : Nat) (bs : List UInt8) (hn : n ≤ 2000) (hR : Rd encB 1 w0 ab n bs) (B : Nat) (hB : B ≤ 900000) (F : List Asr) (hS : St w0 (rdA rb ab n cb B :: F) w) : Calls Tryz.prog 146 #[.pointer (some ⟨rb, 0, none⟩)] w fun e w' => ∃ t : ByteArray, e = .returned (.string t) ∧ t.size ≤ 8 ∧ St w0 (rdA rb ab n cb (B + 2) :: F) w' := by
 have HS := Bx.mk hS; clear hS
 refine wc_enter Tryz.func146 rfl Tryz.ntmps146 [(0, .pointer (some ⟨rb, 0, none⟩))] ⟨rfl, trivial⟩ rfl ?_; intro a HF
 refine wp_sr ?_
 refine za HF ?_;clear HF a;intro a HF
 refine wl_ne ?_
 refine wp_seq ?_
 refine wp_sr ?_
 refine zm HF ?_;clear HF a;intro a HF
 replace HS:=Bx.mk (HS.out.pick 0 rfl)
 refine wl_call rfl HF rfl (enter_of Tryz.func94 (by kernel_rfl) rfl) (args := #[.pointer (some ⟨rb, 0, none⟩), .int .i64 24]) rfl (pickN w0 _ rb ab n cb bs hn hR B (by omega) 24 (by omega) _ HS.out) rfl rfl ?_
 rintro _ w1 ⟨dn1, rfl, hu1, hs1⟩
 refine ⟨_, rfl, ?_⟩; replace HS := Bx.mk hs1;clear hs1 HF a;intro a HF
 try dsimp only [List.eraseIdx] at HS
 refine zy HF (yl_eqlI rfl (HF.ev rfl) (HF.ev rfl)) ?_;clear HF a;intro a HF
 refine wl_ne ?_
 refine HF.cases 5 rfl (fun cc1 _ => ?_) fun cc1 _ => ?_
 ·clear HF;rename_i HF
  have dcc1 := eq_of_beq cc1
  refine wc_true HF rfl ?_
  refine wp_sr ?_
  refine wl_buildS (enc := encS) (e := 9) (size := 1) rfl HF rfl rfl rfl (ps := [(0, .string (⟨#[]⟩ : ByteArray)), (1, .string (⟨#[65]⟩ : ByteArray)), (2, .string (⟨#[97, 98, 99, 100, 101]⟩ : ByteArray)), (3, .string (⟨#[97, 47]⟩ : ByteArray)), (4, .string (⟨#[109, 97, 105, 110]⟩ : ByteArray))]) rfl (cells := [.string (⟨#[]⟩ : ByteArray), .string (⟨#[65]⟩ : ByteArray), .string (⟨#[97, 98, 99, 100, 101]⟩ : ByteArray), .string (⟨#[97, 47]⟩ : ByteArray), .string (⟨#[109, 97, 105, 110]⟩ : ByteArray)]) (by kernel_rfl) lit1 rfl rfl (by unfold maxLen; omega) rfl HS.out ?_; clear HF HS a; intro b2 a w2 HF HS; replace HS := Bx.mk HS
  refine zm HF ?_;clear HF a;intro a HF
  replace HS:=Bx.mk (HS.out.pick 1 rfl)
  refine wl_call rfl HF rfl (enter_of Tryz.func94 (by kernel_rfl) rfl) (args := #[.pointer (some ⟨rb, 0, none⟩), .int .i64 5]) rfl (pickN w0 _ rb ab n cb bs hn hR (B + 1) (by omega) 5 (by omega) _ HS.out) rfl rfl ?_
  rintro _ w3 ⟨dn3, rfl, hu3, hs1⟩
  refine ⟨_, rfl, ?_⟩; replace HS := Bx.mk hs1;clear hs1 HF a;intro a HF
  try dsimp only [List.eraseIdx] at HS
  refine zy HF (yl_indexAddr (e := 9) (i := dn3) (size := 1) rfl (HF.ev rfl) (HF.ev rfl) (by kernel_rfl) rfl (by omega)) ?_;clear HF a;intro a HF
  refine zy HF (ylo (v := .string ((lit1).getD dn3 ByteArray.empty)) rfl (HF.ev rfl) (HS.out.elem1 encS_len 1 rfl (get_getD (xs := lit1) (j := dn3) (d := ByteArray.empty) (by (try simp only [List.length_cons, List.length_nil]); omega)) rfl)) ?_;clear HF a;intro a HF
  refine za HF ?_;clear HF a;intro a HF
  refine wl_ne ?_
  refine wp_ret ?_
  refine ex_then_ret ?_
  refine bp_ret1 HF Tryz.results146 (HF.res rfl) ?_
  replace HS:=Bx.mk (HS.out.pick 0 rfl)
  replace HS : Bx (St w0 (rdA rb ab n cb (B + 2) :: rowA encS 1 9 (.slice (some ⟨b2, 0, none⟩) 5 5) (lit1) :: F) _) := ⟨HS.out.rdLe (by omega)⟩
  exact ⟨_, rfl, (by first | exact getD_le (by decide) _ | decide | omega), (HS.out.erase 1)⟩
 ·clear HF;rename_i HF
  have dcc1 := ne_of_beq_false cc1
  refine wc_false HF rfl ?_
  refine wp_skip ?_
  refine ex_then ?_
  refine wp_sr ?_
  refine wl_buildS (enc := encS) (e := 9) (size := 1) rfl HF rfl rfl rfl (ps := [(0, .string (⟨#[97]⟩ : ByteArray)), (1, .string (⟨#[98]⟩ : ByteArray)), (2, .string (⟨#[99]⟩ : ByteArray)), (3, .string (⟨#[97, 98]⟩ : ByteArray)), (4, .string (⟨#[122, 122]⟩ : ByteArray))]) rfl (cells := [.string (⟨#[97]⟩ : ByteArray), .string (⟨#[98]⟩ : ByteArray), .string (⟨#[99]⟩ : ByteArray), .string (⟨#[97, 98]⟩ : ByteArray), .string (⟨#[122, 122]⟩ : ByteArray)]) (by kernel_rfl) lit2 rfl rfl (by unfold maxLen; omega) rfl HS.out ?_; clear HF HS a; intro b4 a w4 HF HS; replace HS := Bx.mk HS
  refine zm HF ?_;clear HF a;intro a HF
  replace HS:=Bx.mk (HS.out.pick 1 rfl)
  refine wl_call rfl HF rfl (enter_of Tryz.func94 (by kernel_rfl) rfl) (args := #[.pointer (some ⟨rb, 0, none⟩), .int .i64 5]) rfl (pickN w0 _ rb ab n cb bs hn hR (B + 1) (by omega) 5 (by omega) _ HS.out) rfl rfl ?_
  rintro _ w5 ⟨dn5, rfl, hu5, hs1⟩
  refine ⟨_, rfl, ?_⟩; replace HS := Bx.mk hs1;clear hs1 HF a;intro a HF
  try dsimp only [List.eraseIdx] at HS
  refine zy HF (yl_indexAddr (e := 9) (i := dn5) (size := 1) rfl (HF.ev rfl) (HF.ev rfl) (by kernel_rfl) rfl (by omega)) ?_;clear HF a;intro a HF
  refine zy HF (ylo (v := .string ((lit2).getD dn5 ByteArray.empty)) rfl (HF.ev rfl) (HS.out.elem1 encS_len 1 rfl (get_getD (xs := lit2) (j := dn5) (d := ByteArray.empty) (by (try simp only [List.length_cons, List.length_nil]); omega)) rfl)) ?_;clear HF a;intro a HF
  refine za HF ?_;clear HF a;intro a HF
  refine wl_ne ?_
  refine wp_ret ?_
  refine bp_ret1 HF Tryz.results146 (HF.res rfl) ?_
  replace HS:=Bx.mk (HS.out.pick 0 rfl)
  replace HS : Bx (St w0 (rdA rb ab n cb (B + 2) :: rowA encS 1 9 (.slice (some ⟨b4, 0, none⟩) 5 5) (lit2) :: F) _) := ⟨HS.out.rdLe (by omega)⟩
  exact ⟨_, rfl, (by first | exact getD_le (by decide) _ | decide | omega), (HS.out.erase 1)⟩

abbrev lit3 : List ByteArray := [(⟨#[]⟩ : ByteArray), (⟨#[97]⟩ : ByteArray), (⟨#[47, 47]⟩ : ByteArray), (⟨#[47, 97, 47]⟩ : ByteArray), (⟨#[47, 65]⟩ : ByteArray), (⟨#[47, 97, 47, 98, 47, 99, 47, 97, 47, 98]⟩ : ByteArray), (⟨#[47, 97, 98, 99, 100, 101]⟩ : ByteArray), (⟨#[47, 97, 47, 47, 98]⟩ : ByteArray)]
abbrev lit4 : List ByteArray := [(⟨#[47, 97]⟩ : ByteArray), (⟨#[47, 98]⟩ : ByteArray), (⟨#[47, 97, 47, 98]⟩ : ByteArray), (⟨#[47, 97, 47, 99]⟩ : ByteArray), (⟨#[47, 98, 47, 97]⟩ : ByteArray), (⟨#[47, 99]⟩ : ByteArray), (⟨#[47, 97, 47, 98, 47, 99]⟩ : ByteArray), (⟨#[47, 99, 47, 97]⟩ : ByteArray), (⟨#[47, 97, 98]⟩ : ByteArray), (⟨#[47]⟩ : ByteArray)]
theorem l92Path_any (w0 w : World) (rb : Nat) (ab : Option Addr) (n cb : Nat) (bs : List UInt8) (hn : n ≤ 2000) (hR : Rd encB 1 w0 ab n bs) (B : Nat) (hB : B ≤ 900000) (F : List Asr) (hS : St w0 (rdA rb ab n cb B :: F) w) : Calls Tryz.prog 147 #[.pointer (some ⟨rb, 0, none⟩)] w fun e w' => ∃ t : ByteArray, e = .returned (.string t) ∧ t.size ≤ 12 ∧ St w0 (rdA rb ab n cb (B + 2) :: F) w' := by
 have HS := Bx.mk hS; clear hS
 refine wc_enter Tryz.func147 rfl Tryz.ntmps147 [(0, .pointer (some ⟨rb, 0, none⟩))] ⟨rfl, trivial⟩ rfl ?_; intro a HF
 refine wp_sr ?_
 refine za HF ?_;clear HF a;intro a HF
 refine wl_ne ?_
 refine wp_seq ?_
 refine wp_sr ?_
 refine zm HF ?_;clear HF a;intro a HF
 replace HS:=Bx.mk (HS.out.pick 0 rfl)
 refine wl_call rfl HF rfl (enter_of Tryz.func94 (by kernel_rfl) rfl) (args := #[.pointer (some ⟨rb, 0, none⟩), .int .i64 30]) rfl (pickN w0 _ rb ab n cb bs hn hR B (by omega) 30 (by omega) _ HS.out) rfl rfl ?_
 rintro _ w1 ⟨dn1, rfl, hu1, hs1⟩
 refine ⟨_, rfl, ?_⟩; replace HS := Bx.mk hs1;clear hs1 HF a;intro a HF
 try dsimp only [List.eraseIdx] at HS
 refine zy HF (yl_eqlI rfl (HF.ev rfl) (HF.ev rfl)) ?_;clear HF a;intro a HF
 refine wl_ne ?_
 refine HF.cases 5 rfl (fun cc1 _ => ?_) fun cc1 _ => ?_
 ·clear HF;rename_i HF
  have dcc1 := eq_of_beq cc1
  refine wc_true HF rfl ?_
  refine wp_sr ?_
  refine wl_buildS (enc := encS) (e := 9) (size := 1) rfl HF rfl rfl rfl (ps := [(0, .string (⟨#[]⟩ : ByteArray)), (1, .string (⟨#[97]⟩ : ByteArray)), (2, .string (⟨#[47, 47]⟩ : ByteArray)), (3, .string (⟨#[47, 97, 47]⟩ : ByteArray)), (4, .string (⟨#[47, 65]⟩ : ByteArray)), (5, .string (⟨#[47, 97, 47, 98, 47, 99, 47, 97, 47, 98]⟩ : ByteArray)), (6, .string (⟨#[47, 97, 98, 99, 100, 101]⟩ : ByteArray)), (7, .string (⟨#[47, 97, 47, 47, 98]⟩ : ByteArray))]) rfl (cells := [.string (⟨#[]⟩ : ByteArray), .string (⟨#[97]⟩ : ByteArray), .string (⟨#[47, 47]⟩ : ByteArray), .string (⟨#[47, 97, 47]⟩ : ByteArray), .string (⟨#[47, 65]⟩ : ByteArray), .string (⟨#[47, 97, 47, 98, 47, 99, 47, 97, 47, 98]⟩ : ByteArray), .string (⟨#[47, 97, 98, 99, 100, 101]⟩ : ByteArray), .string (⟨#[47, 97, 47, 47, 98]⟩ : ByteArray)]) (by kernel_rfl) lit3 rfl rfl (by unfold maxLen; omega) rfl HS.out ?_; clear HF HS a; intro b2 a w2 HF HS; replace HS := Bx.mk HS
  refine zm HF ?_;clear HF a;intro a HF
  replace HS:=Bx.mk (HS.out.pick 1 rfl)
  refine wl_call rfl HF rfl (enter_of Tryz.func94 (by kernel_rfl) rfl) (args := #[.pointer (some ⟨rb, 0, none⟩), .int .i64 8]) rfl (pickN w0 _ rb ab n cb bs hn hR (B + 1) (by omega) 8 (by omega) _ HS.out) rfl rfl ?_
  rintro _ w3 ⟨dn3, rfl, hu3, hs1⟩
  refine ⟨_, rfl, ?_⟩; replace HS := Bx.mk hs1;clear hs1 HF a;intro a HF
  try dsimp only [List.eraseIdx] at HS
  refine zy HF (yl_indexAddr (e := 9) (i := dn3) (size := 1) rfl (HF.ev rfl) (HF.ev rfl) (by kernel_rfl) rfl (by omega)) ?_;clear HF a;intro a HF
  refine zy HF (ylo (v := .string ((lit3).getD dn3 ByteArray.empty)) rfl (HF.ev rfl) (HS.out.elem1 encS_len 1 rfl (get_getD (xs := lit3) (j := dn3) (d := ByteArray.empty) (by (try simp only [List.length_cons, List.length_nil]); omega)) rfl)) ?_;clear HF a;intro a HF
  refine za HF ?_;clear HF a;intro a HF
  refine wl_ne ?_
  refine wp_ret ?_
  refine ex_then_ret ?_
  refine bp_ret1 HF Tryz.results147 (HF.res rfl) ?_
  replace HS:=Bx.mk (HS.out.pick 0 rfl)
  replace HS : Bx (St w0 (rdA rb ab n cb (B + 2) :: rowA encS 1 9 (.slice (some ⟨b2, 0, none⟩) 8 8) (lit3) :: F) _) := ⟨HS.out.rdLe (by omega)⟩
  exact ⟨_, rfl, (by first | exact getD_le (by decide) _ | decide | omega), (HS.out.erase 1)⟩
 ·clear HF;rename_i HF
  have dcc1 := ne_of_beq_false cc1
  refine wc_false HF rfl ?_
  refine wp_skip ?_
  refine ex_then ?_
  refine wp_sr ?_
  refine wl_buildS (enc := encS) (e := 9) (size := 1) rfl HF rfl rfl rfl (ps := [(0, .string (⟨#[47, 97]⟩ : ByteArray)), (1, .string (⟨#[47, 98]⟩ : ByteArray)), (2, .string (⟨#[47, 97, 47, 98]⟩ : ByteArray)), (3, .string (⟨#[47, 97, 47, 99]⟩ : ByteArray)), (4, .string (⟨#[47, 98, 47, 97]⟩ : ByteArray)), (5, .string (⟨#[47, 99]⟩ : ByteArray)), (6, .string (⟨#[47, 97, 47, 98, 47, 99]⟩ : ByteArray)), (7, .string (⟨#[47, 99, 47, 97]⟩ : ByteArray)), (8, .string (⟨#[47, 97, 98]⟩ : ByteArray)), (9, .string (⟨#[47]⟩ : ByteArray))]) rfl (cells := [.string (⟨#[47, 97]⟩ : ByteArray), .string (⟨#[47, 98]⟩ : ByteArray), .string (⟨#[47, 97, 47, 98]⟩ : ByteArray), .string (⟨#[47, 97, 47, 99]⟩ : ByteArray), .string (⟨#[47, 98, 47, 97]⟩ : ByteArray), .string (⟨#[47, 99]⟩ : ByteArray), .string (⟨#[47, 97, 47, 98, 47, 99]⟩ : ByteArray), .string (⟨#[47, 99, 47, 97]⟩ : ByteArray), .string (⟨#[47, 97, 98]⟩ : ByteArray), .string (⟨#[47]⟩ : ByteArray)]) (by kernel_rfl) lit4 rfl rfl (by unfold maxLen; omega) rfl HS.out ?_; clear HF HS a; intro b4 a w4 HF HS; replace HS := Bx.mk HS
  refine zm HF ?_;clear HF a;intro a HF
  replace HS:=Bx.mk (HS.out.pick 1 rfl)
  refine wl_call rfl HF rfl (enter_of Tryz.func94 (by kernel_rfl) rfl) (args := #[.pointer (some ⟨rb, 0, none⟩), .int .i64 10]) rfl (pickN w0 _ rb ab n cb bs hn hR (B + 1) (by omega) 10 (by omega) _ HS.out) rfl rfl ?_
  rintro _ w5 ⟨dn5, rfl, hu5, hs1⟩
  refine ⟨_, rfl, ?_⟩; replace HS := Bx.mk hs1;clear hs1 HF a;intro a HF
  try dsimp only [List.eraseIdx] at HS
  refine zy HF (yl_indexAddr (e := 9) (i := dn5) (size := 1) rfl (HF.ev rfl) (HF.ev rfl) (by kernel_rfl) rfl (by omega)) ?_;clear HF a;intro a HF
  refine zy HF (ylo (v := .string ((lit4).getD dn5 ByteArray.empty)) rfl (HF.ev rfl) (HS.out.elem1 encS_len 1 rfl (get_getD (xs := lit4) (j := dn5) (d := ByteArray.empty) (by (try simp only [List.length_cons, List.length_nil]); omega)) rfl)) ?_;clear HF a;intro a HF
  refine za HF ?_;clear HF a;intro a HF
  refine wl_ne ?_
  refine wp_ret ?_
  refine bp_ret1 HF Tryz.results147 (HF.res rfl) ?_
  replace HS:=Bx.mk (HS.out.pick 0 rfl)
  replace HS : Bx (St w0 (rdA rb ab n cb (B + 2) :: rowA encS 1 9 (.slice (some ⟨b4, 0, none⟩) 10 10) (lit4) :: F) _) := ⟨HS.out.rdLe (by omega)⟩
  exact ⟨_, rfl, (by first | exact getD_le (by decide) _ | decide | omega), (HS.out.erase 1)⟩

set_option maxHeartbeats 4000000 in
abbrev lit5 : List Int := [(1 : Int), (1 : Int), (2 : Int), (2 : Int), (3 : Int), (3 : Int), (3 : Int), (4 : Int), (5 : Int), (6 : Int), (7 : Int), (7 : Int)]
abbrev lit6 : List Int := [(0 : Int), (1 : Int), (5 : Int), (12 : Int), (13 : Int), (24 : Int), (40 : Int), (100 : Int), (180 : Int)]
abbrev lit7 : List Int := [(0 : Int), (1 : Int), (5 : Int), (12 : Int), (13 : Int), (25 : Int), (60 : Int), (192 : Int)]
abbrev lit8 : List Int := [(0 : Int), (8 : Int), (-1 : Int), (3 : Int)]
theorem l92Op_any (w0 w : World) (rb : Nat) (ab : Option Addr) (n cb : Nat) (bs : List UInt8) (hn : n ≤ 2000) (hR : Rd encB 1 w0 ab n bs) (B : Nat) (hB : B ≤ 800000) (F : List Asr) (hS : St w0 (rdA rb ab n cb B :: F) w) : Calls Tryz.prog 104 #[.pointer (some ⟨rb, 0, none⟩)] w fun e w' => ∃ o : OpD, e = .returned (.agg #[.int .i64 o.fKind, .string o.fPath, .string o.fTo, .int .i64 o.fAt, .string o.fText]) ∧ o.fPath.size ≤ 100 ∧ o.fTo.size ≤ 100 ∧ o.fText.size ≤ 100 ∧ St w0 (rdA rb ab n cb (B + 120) :: F) w' := by
 have HS := Bx.mk hS; clear hS
 refine wc_enter Tryz.func104 rfl Tryz.ntmps104 [(0, .pointer (some ⟨rb, 0, none⟩))] ⟨rfl, trivial⟩ rfl ?_; intro a HF
 refine wp_sr ?_
 refine wl_alloc rfl HF rfl rfl rfl (Z := [.int .i64 0, .string ByteArray.empty, .string ByteArray.empty, .int .i64 0, .string ByteArray.empty]) (by kernel_rfl) rfl HS.out ?_; clear HF HS a; intro a w1 b1 HF HS; replace HS := Bx.mk HS
 refine wl_ne ?_
 refine wp_seq ?_
 refine wp_join (R := fun a w => ∃ (bo : Nat) (k1 : Int) (p1 t1 : ByteArray) (a1 : Int) (x1 : ByteArray), (p1.size ≤ 100 ∧ t1.size ≤ 100 ∧ x1.size ≤ 100) ∧ Fr 70 a [(0, .pointer (some ⟨rb, 0, none⟩)), (2, .pointer (some ⟨b1, 0, none⟩)), (3, .pointer (some ⟨bo, 0, none⟩))] ∧ St w0 (rdA rb ab n cb (B + 4) :: boxA bo 5 53 (.agg #[.int .i64 k1, .string p1, .string t1, .int .i64 a1, .string x1]) :: boxA b1 5 53 (.agg #[.int .i64 0, .string ByteArray.empty, .string ByteArray.empty, .int .i64 0, .string ByteArray.empty]) :: F) w) ?_ ?_
 ·skip
  refine wr_heldS (s := boxA b1 5 53 (.agg #[.int .i64 0, .string ByteArray.empty, .string ByteArray.empty, .int .i64 0, .string ByteArray.empty]) :: F) (by kernel_rfl) (St.drew ((HS.out.erase 1))) ?_
  have HS2 := Bx.mk HS.out.drew; replace HS := Bx.mk (show St w0 (boxA b1 5 53 (.agg #[.int .i64 0, .string ByteArray.empty, .string ByteArray.empty, .int .i64 0, .string ByteArray.empty]) :: F) _ from (HS.out.drew.erase 1))
  generalize World.drew _ = w2 at HS HS2 ⊢
  refine zh 1 rfl HF (fun _ HS => (yl_move rfl (HF.ev rfl))) HS.out ?_;clear HF a;intro a HF
  refine zh 5 rfl HF (fun _ HS => (yl_move rfl (HF.ev rfl))) HS.out ?_;clear HF a;intro a HF
  refine wh_three 0 2 8 (by kernel_rfl) ?_ ?_ ?_
  ·skip
   refine wo_buildS (enc := encI) (e := 3) (size := 1) rfl rfl HF rfl rfl rfl (ps := [(0, .int .i64 1), (1, .int .i64 1), (2, .int .i64 2), (3, .int .i64 2), (4, .int .i64 3), (5, .int .i64 3), (6, .int .i64 3), (7, .int .i64 4), (8, .int .i64 5), (9, .int .i64 6), (10, .int .i64 7), (11, .int .i64 7)]) rfl (cells := [.int .i64 1, .int .i64 1, .int .i64 2, .int .i64 2, .int .i64 3, .int .i64 3, .int .i64 3, .int .i64 4, .int .i64 5, .int .i64 6, .int .i64 7, .int .i64 7]) (by kernel_rfl) lit5 rfl rfl (by unfold maxLen; omega) rfl HS2.out HS.out ?_; clear HF HS HS2 a; intro b2 a w4 HF HS2 HS; replace HS := Bx.mk HS; replace HS2 := Bx.mk HS2; refine ⟨HS.out, ?_⟩
   refine wh_two 2 8 (by kernel_rfl) ?_ ?_
   ·skip
    replace HS2:=Bx.mk (HS2.out.pick 2 rfl)
    refine wo_call rfl rfl HF rfl (enter_of Tryz.func94 (by kernel_rfl) rfl) (args := #[.pointer (some ⟨rb, 0, none⟩), .int .i64 12]) rfl (pickN w0 _ rb ab n cb bs hn hR B (by omega) 12 (by omega) _ HS2.out) rfl rfl ?_
    rintro _ w6 ⟨dn3, rfl, hu3, hs1⟩
    refine ⟨_, rfl, ?_⟩; replace HS2 := Bx.mk hs1;clear hs1 HF a;intro a HF
    replace HS2 : Bx (St w0 (rdA rb ab n cb (B + 1) :: rowA encI 1 3 (.slice (some ⟨b2, 0, none⟩) 12 12) (lit5) :: boxA b1 5 53 (.agg #[.int .i64 0, .string ByteArray.empty, .string ByteArray.empty, .int .i64 0, .string ByteArray.empty]) :: F) _) := ⟨HS2.out⟩
    clear HS; have HS : Bx (St w0 (boxA b1 5 53 (.agg #[.int .i64 0, .string ByteArray.empty, .string ByteArray.empty, .int .i64 0, .string ByteArray.empty]) :: F) _) := ⟨((HS2.out.erase 1).erase 0)⟩; refine ⟨HS.out, ?_⟩
    refine zh 3 rfl HF (fun _ HS => (yl_indexAddr (e := 3) (i := dn3) (size := 1) rfl (HF.ev rfl) (HF.ev rfl) (by kernel_rfl) rfl (by omega))) HS.out ?_;clear HF a;intro a HF
    refine wh_three 4 6 8 (by kernel_rfl) ?_ ?_ ?_
    ·skip
     refine wo_y rfl rfl HF rfl rfl (ylo (v := .int .i64 ((lit5).getD dn3 0)) rfl (HF.ev rfl) (HS2.out.elem1 encI_len 1 rfl (get_getD (xs := lit5) (j := dn3) (d := 0) (by (try simp only [List.length_cons, List.length_nil]); omega)) rfl)) ?_;clear HF a;intro a HF; refine ⟨HS.out, ?_⟩
     refine wh_two 6 8 (by kernel_rfl) ?_ ?_
     ·skip
      replace HS2:=Bx.mk (HS2.out.pick 0 rfl)
      refine wo_call rfl rfl HF rfl (enter_of Tryz.func147 (by kernel_rfl) rfl) (args := #[.pointer (some ⟨rb, 0, none⟩)]) rfl (l92Path_any w0 _ rb ab n cb bs hn hR (B + 1) (by omega) _ HS2.out) rfl rfl ?_
      rintro _ w9 ⟨dt4, rfl, ht4, hs1⟩
      refine ⟨_, rfl, ?_⟩; replace HS2 := Bx.mk hs1;clear hs1 HF a;intro a HF
      replace HS2 : Bx (St w0 (rdA rb ab n cb (B + 1 + 2) :: rowA encI 1 3 (.slice (some ⟨b2, 0, none⟩) 12 12) (lit5) :: boxA b1 5 53 (.agg #[.int .i64 0, .string ByteArray.empty, .string ByteArray.empty, .int .i64 0, .string ByteArray.empty]) :: F) _) := ⟨HS2.out⟩
      clear HS; have HS : Bx (St w0 (boxA b1 5 53 (.agg #[.int .i64 0, .string ByteArray.empty, .string ByteArray.empty, .int .i64 0, .string ByteArray.empty]) :: F) _) := ⟨((HS2.out.erase 1).erase 0)⟩; refine ⟨HS.out, ?_⟩
      refine zh 7 rfl HF (fun _ HS => (yl_build HF rfl (ps := [(0, .int .i64 ((lit5).getD dn3 0)), (1, .string dt4)]) rfl (cs := #[.int .i64 ((lit5).getD dn3 0), .string dt4, .string ByteArray.empty, .int .i64 0, .string ByteArray.empty]) (by kernel_rfl))) HS.out ?_;clear HF a;intro a HF
      refine wh_one 8 (by kernel_rfl) ?_
      refine wo_alloc rfl rfl HF rfl rfl rfl (Z := [.int .i64 0, .string ByteArray.empty, .string ByteArray.empty, .int .i64 0, .string ByteArray.empty]) (by kernel_rfl) rfl HS2.out HS.out ?_; clear HF HS HS2 a; intro a w10 b5 HF HS2 HS; replace HS := Bx.mk HS; replace HS2 := Bx.mk HS2; refine ⟨HS.out, ?_⟩
      refine wh_one 9 (by kernel_rfl) ?_
      refine wo_storeBox rfl rfl rfl rfl (HF.ev rfl) (HF.ev rfl) HS2.out 0 rfl (cells_lit [.int .i64 ((lit5).getD dn3 0), .string dt4, .string ByteArray.empty, .int .i64 0, .string ByteArray.empty] rfl rfl) (by kernel_rfl) ?_
      clear HS HS2; intro w11 HS2; replace HS2 : Bx (St w0 (boxA b5 5 53 (.agg #[.int .i64 ((lit5).getD dn3 0), .string dt4, .string ByteArray.empty, .int .i64 0, .string ByteArray.empty]) :: rdA rb ab n cb (B + 1 + 2) :: rowA encI 1 3 (.slice (some ⟨b2, 0, none⟩) 12 12) (lit5) :: boxA b1 5 53 (.agg #[.int .i64 0, .string ByteArray.empty, .string ByteArray.empty, .int .i64 0, .string ByteArray.empty]) :: F) _) := ⟨HS2⟩
      have HS : Bx (St w0 (boxA b1 5 53 (.agg #[.int .i64 0, .string ByteArray.empty, .string ByteArray.empty, .int .i64 0, .string ByteArray.empty]) :: F) _) := ⟨(((HS2.out.erase 2).erase 1).erase 0)⟩; refine ⟨HS.out, ?_⟩
      refine wh_done (by kernel_rfl) ?_
      replace HS := HS2; clear HS2
      replace HS:=Bx.mk (HS.out.pick 1 rfl)
      replace HS : Bx (St w0 (rdA rb ab n cb (B + 4) :: boxA b5 5 53 (.agg #[.int .i64 ((lit5).getD dn3 0), .string dt4, .string ByteArray.empty, .int .i64 0, .string ByteArray.empty]) :: rowA encI 1 3 (.slice (some ⟨b2, 0, none⟩) 12 12) (lit5) :: boxA b1 5 53 (.agg #[.int .i64 0, .string ByteArray.empty, .string ByteArray.empty, .int .i64 0, .string ByteArray.empty]) :: F) _) := ⟨HS.out.rdLe (by omega)⟩
      replace HS:=Bx.mk (((HS.out.pick 3 rfl).pick 2 rfl).pick 2 rfl)
      replace HS := Bx.mk ((HS.out.erase 3))
      exact on_mk ⟨_, ((lit5).getD dn3 0), dt4, ByteArray.empty, 0, ByteArray.empty, ⟨(by first | exact Nat.zero_le _ | (show ByteArray.size _ ≤ 100; first | omega | (rw [manyB_size]; show _ * 1 ≤ _; omega))), (by first | exact Nat.zero_le _ | (show ByteArray.size _ ≤ 100; first | omega | (rw [manyB_size]; show _ * 1 ≤ _; omega))), (by first | exact Nat.zero_le _ | (show ByteArray.size _ ≤ 100; first | omega | (rw [manyB_size]; show _ * 1 ≤ _; omega)))⟩, HF.less _ ⟨rfl, rfl, rfl, trivial⟩, HS.out⟩
     ·skip
      refine wo_alloc rfl rfl HF rfl rfl rfl (Z := [.int .i64 0, .string ByteArray.empty, .string ByteArray.empty, .int .i64 0, .string ByteArray.empty]) (by kernel_rfl) rfl HS2.out HS.out ?_; clear HF HS HS2 a; intro a w12 b6 HF HS2 HS; replace HS := Bx.mk HS; replace HS2 := Bx.mk HS2; refine ⟨HS.out, ?_⟩
      refine wh_one 6 (by kernel_rfl) ?_
      replace HS2:=Bx.mk (HS2.out.pick 1 rfl)
      refine wo_call rfl rfl HF rfl (enter_of Tryz.func147 (by kernel_rfl) rfl) (args := #[.pointer (some ⟨rb, 0, none⟩)]) rfl (l92Path_any w0 _ rb ab n cb bs hn hR (B + 1) (by omega) _ HS2.out) rfl rfl ?_
      rintro _ w14 ⟨dt7, rfl, ht7, hs1⟩
      refine ⟨_, rfl, ?_⟩; replace HS2 := Bx.mk hs1;clear hs1 HF a;intro a HF
      replace HS2 : Bx (St w0 (rdA rb ab n cb (B + 1 + 2) :: boxA b6 5 53 (.agg #[.int .i64 0, .string ByteArray.empty, .string ByteArray.empty, .int .i64 0, .string ByteArray.empty]) :: rowA encI 1 3 (.slice (some ⟨b2, 0, none⟩) 12 12) (lit5) :: boxA b1 5 53 (.agg #[.int .i64 0, .string ByteArray.empty, .string ByteArray.empty, .int .i64 0, .string ByteArray.empty]) :: F) _) := ⟨HS2.out⟩
      clear HS; have HS : Bx (St w0 (boxA b1 5 53 (.agg #[.int .i64 0, .string ByteArray.empty, .string ByteArray.empty, .int .i64 0, .string ByteArray.empty]) :: F) _) := ⟨(((HS2.out.erase 2).erase 1).erase 0)⟩; refine ⟨HS.out, ?_⟩
      refine zh 7 rfl HF (fun _ HS => (yl_build HF rfl (ps := [(0, .int .i64 ((lit5).getD dn3 0)), (1, .string dt7)]) rfl (cs := #[.int .i64 ((lit5).getD dn3 0), .string dt7, .string ByteArray.empty, .int .i64 0, .string ByteArray.empty]) (by kernel_rfl))) HS.out ?_;clear HF a;intro a HF
      refine wh_one 9 (by kernel_rfl) ?_
      refine wo_storeBox rfl rfl rfl rfl (HF.ev rfl) (HF.ev rfl) HS2.out 1 rfl (cells_lit [.int .i64 ((lit5).getD dn3 0), .string dt7, .string ByteArray.empty, .int .i64 0, .string ByteArray.empty] rfl rfl) (by kernel_rfl) ?_
      clear HS HS2; intro w15 HS2; replace HS2 : Bx (St w0 (rdA rb ab n cb (B + 1 + 2) :: boxA b6 5 53 (.agg #[.int .i64 ((lit5).getD dn3 0), .string dt7, .string ByteArray.empty, .int .i64 0, .string ByteArray.empty]) :: rowA encI 1 3 (.slice (some ⟨b2, 0, none⟩) 12 12) (lit5) :: boxA b1 5 53 (.agg #[.int .i64 0, .string ByteArray.empty, .string ByteArray.empty, .int .i64 0, .string ByteArray.empty]) :: F) _) := ⟨HS2⟩
      have HS : Bx (St w0 (boxA b1 5 53 (.agg #[.int .i64 0, .string ByteArray.empty, .string ByteArray.empty, .int .i64 0, .string ByteArray.empty]) :: F) _) := ⟨(((HS2.out.erase 2).erase 1).erase 0)⟩; refine ⟨HS.out, ?_⟩
      refine wh_done (by kernel_rfl) ?_
      replace HS := HS2; clear HS2
      replace HS:=Bx.mk (HS.out.pick 0 rfl)
      replace HS : Bx (St w0 (rdA rb ab n cb (B + 4) :: boxA b6 5 53 (.agg #[.int .i64 ((lit5).getD dn3 0), .string dt7, .string ByteArray.empty, .int .i64 0, .string ByteArray.empty]) :: rowA encI 1 3 (.slice (some ⟨b2, 0, none⟩) 12 12) (lit5) :: boxA b1 5 53 (.agg #[.int .i64 0, .string ByteArray.empty, .string ByteArray.empty, .int .i64 0, .string ByteArray.empty]) :: F) _) := ⟨HS.out.rdLe (by omega)⟩
      replace HS:=Bx.mk (((HS.out.pick 3 rfl).pick 2 rfl).pick 2 rfl)
      replace HS := Bx.mk ((HS.out.erase 3))
      exact on_mk ⟨_, ((lit5).getD dn3 0), dt7, ByteArray.empty, 0, ByteArray.empty, ⟨(by first | exact Nat.zero_le _ | (show ByteArray.size _ ≤ 100; first | omega | (rw [manyB_size]; show _ * 1 ≤ _; omega))), (by first | exact Nat.zero_le _ | (show ByteArray.size _ ≤ 100; first | omega | (rw [manyB_size]; show _ * 1 ≤ _; omega))), (by first | exact Nat.zero_le _ | (show ByteArray.size _ ≤ 100; first | omega | (rw [manyB_size]; show _ * 1 ≤ _; omega)))⟩, HF.less _ ⟨rfl, rfl, rfl, trivial⟩, HS.out⟩
    ·skip
     replace HS2:=Bx.mk (HS2.out.pick 0 rfl)
     refine wo_call rfl rfl HF rfl (enter_of Tryz.func147 (by kernel_rfl) rfl) (args := #[.pointer (some ⟨rb, 0, none⟩)]) rfl (l92Path_any w0 _ rb ab n cb bs hn hR (B + 1) (by omega) _ HS2.out) rfl rfl ?_
     rintro _ w17 ⟨dt8, rfl, ht8, hs1⟩
     refine ⟨_, rfl, ?_⟩; replace HS2 := Bx.mk hs1;clear hs1 HF a;intro a HF
     replace HS2 : Bx (St w0 (rdA rb ab n cb (B + 1 + 2) :: rowA encI 1 3 (.slice (some ⟨b2, 0, none⟩) 12 12) (lit5) :: boxA b1 5 53 (.agg #[.int .i64 0, .string ByteArray.empty, .string ByteArray.empty, .int .i64 0, .string ByteArray.empty]) :: F) _) := ⟨HS2.out⟩
     clear HS; have HS : Bx (St w0 (boxA b1 5 53 (.agg #[.int .i64 0, .string ByteArray.empty, .string ByteArray.empty, .int .i64 0, .string ByteArray.empty]) :: F) _) := ⟨((HS2.out.erase 1).erase 0)⟩; refine ⟨HS.out, ?_⟩
     refine wh_two 4 8 (by kernel_rfl) ?_ ?_
     ·skip
      refine wo_y rfl rfl HF rfl rfl (ylo (v := .int .i64 ((lit5).getD dn3 0)) rfl (HF.ev rfl) (HS2.out.elem1 encI_len 1 rfl (get_getD (xs := lit5) (j := dn3) (d := 0) (by (try simp only [List.length_cons, List.length_nil]); omega)) rfl)) ?_;clear HF a;intro a HF; refine ⟨HS.out, ?_⟩
      refine zh 7 rfl HF (fun _ HS => (yl_build HF rfl (ps := [(0, .int .i64 ((lit5).getD dn3 0)), (1, .string dt8)]) rfl (cs := #[.int .i64 ((lit5).getD dn3 0), .string dt8, .string ByteArray.empty, .int .i64 0, .string ByteArray.empty]) (by kernel_rfl))) HS.out ?_;clear HF a;intro a HF
      refine wh_one 8 (by kernel_rfl) ?_
      refine wo_alloc rfl rfl HF rfl rfl rfl (Z := [.int .i64 0, .string ByteArray.empty, .string ByteArray.empty, .int .i64 0, .string ByteArray.empty]) (by kernel_rfl) rfl HS2.out HS.out ?_; clear HF HS HS2 a; intro a w19 b9 HF HS2 HS; replace HS := Bx.mk HS; replace HS2 := Bx.mk HS2; refine ⟨HS.out, ?_⟩
      refine wh_one 9 (by kernel_rfl) ?_
      refine wo_storeBox rfl rfl rfl rfl (HF.ev rfl) (HF.ev rfl) HS2.out 0 rfl (cells_lit [.int .i64 ((lit5).getD dn3 0), .string dt8, .string ByteArray.empty, .int .i64 0, .string ByteArray.empty] rfl rfl) (by kernel_rfl) ?_
      clear HS HS2; intro w20 HS2; replace HS2 : Bx (St w0 (boxA b9 5 53 (.agg #[.int .i64 ((lit5).getD dn3 0), .string dt8, .string ByteArray.empty, .int .i64 0, .string ByteArray.empty]) :: rdA rb ab n cb (B + 1 + 2) :: rowA encI 1 3 (.slice (some ⟨b2, 0, none⟩) 12 12) (lit5) :: boxA b1 5 53 (.agg #[.int .i64 0, .string ByteArray.empty, .string ByteArray.empty, .int .i64 0, .string ByteArray.empty]) :: F) _) := ⟨HS2⟩
      have HS : Bx (St w0 (boxA b1 5 53 (.agg #[.int .i64 0, .string ByteArray.empty, .string ByteArray.empty, .int .i64 0, .string ByteArray.empty]) :: F) _) := ⟨(((HS2.out.erase 2).erase 1).erase 0)⟩; refine ⟨HS.out, ?_⟩
      refine wh_done (by kernel_rfl) ?_
      replace HS := HS2; clear HS2
      replace HS:=Bx.mk (HS.out.pick 1 rfl)
      replace HS : Bx (St w0 (rdA rb ab n cb (B + 4) :: boxA b9 5 53 (.agg #[.int .i64 ((lit5).getD dn3 0), .string dt8, .string ByteArray.empty, .int .i64 0, .string ByteArray.empty]) :: rowA encI 1 3 (.slice (some ⟨b2, 0, none⟩) 12 12) (lit5) :: boxA b1 5 53 (.agg #[.int .i64 0, .string ByteArray.empty, .string ByteArray.empty, .int .i64 0, .string ByteArray.empty]) :: F) _) := ⟨HS.out.rdLe (by omega)⟩
      replace HS:=Bx.mk (((HS.out.pick 3 rfl).pick 2 rfl).pick 2 rfl)
      replace HS := Bx.mk ((HS.out.erase 3))
      exact on_mk ⟨_, ((lit5).getD dn3 0), dt8, ByteArray.empty, 0, ByteArray.empty, ⟨(by first | exact Nat.zero_le _ | (show ByteArray.size _ ≤ 100; first | omega | (rw [manyB_size]; show _ * 1 ≤ _; omega))), (by first | exact Nat.zero_le _ | (show ByteArray.size _ ≤ 100; first | omega | (rw [manyB_size]; show _ * 1 ≤ _; omega))), (by first | exact Nat.zero_le _ | (show ByteArray.size _ ≤ 100; first | omega | (rw [manyB_size]; show _ * 1 ≤ _; omega)))⟩, HF.less _ ⟨rfl, rfl, rfl, trivial⟩, HS.out⟩
     ·skip
      refine wo_alloc rfl rfl HF rfl rfl rfl (Z := [.int .i64 0, .string ByteArray.empty, .string ByteArray.empty, .int .i64 0, .string ByteArray.empty]) (by kernel_rfl) rfl HS2.out HS.out ?_; clear HF HS HS2 a; intro a w21 b10 HF HS2 HS; replace HS := Bx.mk HS; replace HS2 := Bx.mk HS2; refine ⟨HS.out, ?_⟩
      refine wh_one 4 (by kernel_rfl) ?_
      refine wo_y rfl rfl HF rfl rfl (ylo (v := .int .i64 ((lit5).getD dn3 0)) rfl (HF.ev rfl) (HS2.out.elem1 encI_len 2 rfl (get_getD (xs := lit5) (j := dn3) (d := 0) (by (try simp only [List.length_cons, List.length_nil]); omega)) rfl)) ?_;clear HF a;intro a HF; refine ⟨HS.out, ?_⟩
      refine zh 7 rfl HF (fun _ HS => (yl_build HF rfl (ps := [(0, .int .i64 ((lit5).getD dn3 0)), (1, .string dt8)]) rfl (cs := #[.int .i64 ((lit5).getD dn3 0), .string dt8, .string ByteArray.empty, .int .i64 0, .string ByteArray.empty]) (by kernel_rfl))) HS.out ?_;clear HF a;intro a HF
      refine wh_one 9 (by kernel_rfl) ?_
      refine wo_storeBox rfl rfl rfl rfl (HF.ev rfl) (HF.ev rfl) HS2.out 0 rfl (cells_lit [.int .i64 ((lit5).getD dn3 0), .string dt8, .string ByteArray.empty, .int .i64 0, .string ByteArray.empty] rfl rfl) (by kernel_rfl) ?_
      clear HS HS2; intro w23 HS2; replace HS2 : Bx (St w0 (boxA b10 5 53 (.agg #[.int .i64 ((lit5).getD dn3 0), .string dt8, .string ByteArray.empty, .int .i64 0, .string ByteArray.empty]) :: rdA rb ab n cb (B + 1 + 2) :: rowA encI 1 3 (.slice (some ⟨b2, 0, none⟩) 12 12) (lit5) :: boxA b1 5 53 (.agg #[.int .i64 0, .string ByteArray.empty, .string ByteArray.empty, .int .i64 0, .string ByteArray.empty]) :: F) _) := ⟨HS2⟩
      have HS : Bx (St w0 (boxA b1 5 53 (.agg #[.int .i64 0, .string ByteArray.empty, .string ByteArray.empty, .int .i64 0, .string ByteArray.empty]) :: F) _) := ⟨(((HS2.out.erase 2).erase 1).erase 0)⟩; refine ⟨HS.out, ?_⟩
      refine wh_done (by kernel_rfl) ?_
      replace HS := HS2; clear HS2
      replace HS:=Bx.mk (HS.out.pick 1 rfl)
      replace HS : Bx (St w0 (rdA rb ab n cb (B + 4) :: boxA b10 5 53 (.agg #[.int .i64 ((lit5).getD dn3 0), .string dt8, .string ByteArray.empty, .int .i64 0, .string ByteArray.empty]) :: rowA encI 1 3 (.slice (some ⟨b2, 0, none⟩) 12 12) (lit5) :: boxA b1 5 53 (.agg #[.int .i64 0, .string ByteArray.empty, .string ByteArray.empty, .int .i64 0, .string ByteArray.empty]) :: F) _) := ⟨HS.out.rdLe (by omega)⟩
      replace HS:=Bx.mk (((HS.out.pick 3 rfl).pick 2 rfl).pick 2 rfl)
      replace HS := Bx.mk ((HS.out.erase 3))
      exact on_mk ⟨_, ((lit5).getD dn3 0), dt8, ByteArray.empty, 0, ByteArray.empty, ⟨(by first | exact Nat.zero_le _ | (show ByteArray.size _ ≤ 100; first | omega | (rw [manyB_size]; show _ * 1 ≤ _; omega))), (by first | exact Nat.zero_le _ | (show ByteArray.size _ ≤ 100; first | omega | (rw [manyB_size]; show _ * 1 ≤ _; omega))), (by first | exact Nat.zero_le _ | (show ByteArray.size _ ≤ 100; first | omega | (rw [manyB_size]; show _ * 1 ≤ _; omega)))⟩, HF.less _ ⟨rfl, rfl, rfl, trivial⟩, HS.out⟩
    ·skip
     refine wo_alloc rfl rfl HF rfl rfl rfl (Z := [.int .i64 0, .string ByteArray.empty, .string ByteArray.empty, .int .i64 0, .string ByteArray.empty]) (by kernel_rfl) rfl HS2.out HS.out ?_; clear HF HS HS2 a; intro a w24 b11 HF HS2 HS; replace HS := Bx.mk HS; replace HS2 := Bx.mk HS2; refine ⟨HS.out, ?_⟩
     refine wh_two 4 6 (by kernel_rfl) ?_ ?_
     ·skip
      refine wo_y rfl rfl HF rfl rfl (ylo (v := .int .i64 ((lit5).getD dn3 0)) rfl (HF.ev rfl) (HS2.out.elem1 encI_len 2 rfl (get_getD (xs := lit5) (j := dn3) (d := 0) (by (try simp only [List.length_cons, List.length_nil]); omega)) rfl)) ?_;clear HF a;intro a HF; refine ⟨HS.out, ?_⟩
      refine wh_one 6 (by kernel_rfl) ?_
      replace HS2:=Bx.mk (HS2.out.pick 1 rfl)
      refine wo_call rfl rfl HF rfl (enter_of Tryz.func147 (by kernel_rfl) rfl) (args := #[.pointer (some ⟨rb, 0, none⟩)]) rfl (l92Path_any w0 _ rb ab n cb bs hn hR (B + 1) (by omega) _ HS2.out) rfl rfl ?_
      rintro _ w27 ⟨dt12, rfl, ht12, hs1⟩
      refine ⟨_, rfl, ?_⟩; replace HS2 := Bx.mk hs1;clear hs1 HF a;intro a HF
      replace HS2 : Bx (St w0 (rdA rb ab n cb (B + 1 + 2) :: boxA b11 5 53 (.agg #[.int .i64 0, .string ByteArray.empty, .string ByteArray.empty, .int .i64 0, .string ByteArray.empty]) :: rowA encI 1 3 (.slice (some ⟨b2, 0, none⟩) 12 12) (lit5) :: boxA b1 5 53 (.agg #[.int .i64 0, .string ByteArray.empty, .string ByteArray.empty, .int .i64 0, .string ByteArray.empty]) :: F) _) := ⟨HS2.out⟩
      clear HS; have HS : Bx (St w0 (boxA b1 5 53 (.agg #[.int .i64 0, .string ByteArray.empty, .string ByteArray.empty, .int .i64 0, .string ByteArray.empty]) :: F) _) := ⟨(((HS2.out.erase 2).erase 1).erase 0)⟩; refine ⟨HS.out, ?_⟩
      refine zh 7 rfl HF (fun _ HS => (yl_build HF rfl (ps := [(0, .int .i64 ((lit5).getD dn3 0)), (1, .string dt12)]) rfl (cs := #[.int .i64 ((lit5).getD dn3 0), .string dt12, .string ByteArray.empty, .int .i64 0, .string ByteArray.empty]) (by kernel_rfl))) HS.out ?_;clear HF a;intro a HF
      refine wh_one 9 (by kernel_rfl) ?_
      refine wo_storeBox rfl rfl rfl rfl (HF.ev rfl) (HF.ev rfl) HS2.out 1 rfl (cells_lit [.int .i64 ((lit5).getD dn3 0), .string dt12, .string ByteArray.empty, .int .i64 0, .string ByteArray.empty] rfl rfl) (by kernel_rfl) ?_
      clear HS HS2; intro w28 HS2; replace HS2 : Bx (St w0 (rdA rb ab n cb (B + 1 + 2) :: boxA b11 5 53 (.agg #[.int .i64 ((lit5).getD dn3 0), .string dt12, .string ByteArray.empty, .int .i64 0, .string ByteArray.empty]) :: rowA encI 1 3 (.slice (some ⟨b2, 0, none⟩) 12 12) (lit5) :: boxA b1 5 53 (.agg #[.int .i64 0, .string ByteArray.empty, .string ByteArray.empty, .int .i64 0, .string ByteArray.empty]) :: F) _) := ⟨HS2⟩
      have HS : Bx (St w0 (boxA b1 5 53 (.agg #[.int .i64 0, .string ByteArray.empty, .string ByteArray.empty, .int .i64 0, .string ByteArray.empty]) :: F) _) := ⟨(((HS2.out.erase 2).erase 1).erase 0)⟩; refine ⟨HS.out, ?_⟩
      refine wh_done (by kernel_rfl) ?_
      replace HS := HS2; clear HS2
      replace HS:=Bx.mk (HS.out.pick 0 rfl)
      replace HS : Bx (St w0 (rdA rb ab n cb (B + 4) :: boxA b11 5 53 (.agg #[.int .i64 ((lit5).getD dn3 0), .string dt12, .string ByteArray.empty, .int .i64 0, .string ByteArray.empty]) :: rowA encI 1 3 (.slice (some ⟨b2, 0, none⟩) 12 12) (lit5) :: boxA b1 5 53 (.agg #[.int .i64 0, .string ByteArray.empty, .string ByteArray.empty, .int .i64 0, .string ByteArray.empty]) :: F) _) := ⟨HS.out.rdLe (by omega)⟩
      replace HS:=Bx.mk (((HS.out.pick 3 rfl).pick 2 rfl).pick 2 rfl)
      replace HS := Bx.mk ((HS.out.erase 3))
      exact on_mk ⟨_, ((lit5).getD dn3 0), dt12, ByteArray.empty, 0, ByteArray.empty, ⟨(by first | exact Nat.zero_le _ | (show ByteArray.size _ ≤ 100; first | omega | (rw [manyB_size]; show _ * 1 ≤ _; omega))), (by first | exact Nat.zero_le _ | (show ByteArray.size _ ≤ 100; first | omega | (rw [manyB_size]; show _ * 1 ≤ _; omega))), (by first | exact Nat.zero_le _ | (show ByteArray.size _ ≤ 100; first | omega | (rw [manyB_size]; show _ * 1 ≤ _; omega)))⟩, HF.less _ ⟨rfl, rfl, rfl, trivial⟩, HS.out⟩
     ·skip
      replace HS2:=Bx.mk (HS2.out.pick 1 rfl)
      refine wo_call rfl rfl HF rfl (enter_of Tryz.func147 (by kernel_rfl) rfl) (args := #[.pointer (some ⟨rb, 0, none⟩)]) rfl (l92Path_any w0 _ rb ab n cb bs hn hR (B + 1) (by omega) _ HS2.out) rfl rfl ?_
      rintro _ w30 ⟨dt13, rfl, ht13, hs1⟩
      refine ⟨_, rfl, ?_⟩; replace HS2 := Bx.mk hs1;clear hs1 HF a;intro a HF
      replace HS2 : Bx (St w0 (rdA rb ab n cb (B + 1 + 2) :: boxA b11 5 53 (.agg #[.int .i64 0, .string ByteArray.empty, .string ByteArray.empty, .int .i64 0, .string ByteArray.empty]) :: rowA encI 1 3 (.slice (some ⟨b2, 0, none⟩) 12 12) (lit5) :: boxA b1 5 53 (.agg #[.int .i64 0, .string ByteArray.empty, .string ByteArray.empty, .int .i64 0, .string ByteArray.empty]) :: F) _) := ⟨HS2.out⟩
      clear HS; have HS : Bx (St w0 (boxA b1 5 53 (.agg #[.int .i64 0, .string ByteArray.empty, .string ByteArray.empty, .int .i64 0, .string ByteArray.empty]) :: F) _) := ⟨(((HS2.out.erase 2).erase 1).erase 0)⟩; refine ⟨HS.out, ?_⟩
      refine wh_one 4 (by kernel_rfl) ?_
      refine wo_y rfl rfl HF rfl rfl (ylo (v := .int .i64 ((lit5).getD dn3 0)) rfl (HF.ev rfl) (HS2.out.elem1 encI_len 2 rfl (get_getD (xs := lit5) (j := dn3) (d := 0) (by (try simp only [List.length_cons, List.length_nil]); omega)) rfl)) ?_;clear HF a;intro a HF; refine ⟨HS.out, ?_⟩
      refine zh 7 rfl HF (fun _ HS => (yl_build HF rfl (ps := [(0, .int .i64 ((lit5).getD dn3 0)), (1, .string dt13)]) rfl (cs := #[.int .i64 ((lit5).getD dn3 0), .string dt13, .string ByteArray.empty, .int .i64 0, .string ByteArray.empty]) (by kernel_rfl))) HS.out ?_;clear HF a;intro a HF
      refine wh_one 9 (by kernel_rfl) ?_
      refine wo_storeBox rfl rfl rfl rfl (HF.ev rfl) (HF.ev rfl) HS2.out 1 rfl (cells_lit [.int .i64 ((lit5).getD dn3 0), .string dt13, .string ByteArray.empty, .int .i64 0, .string ByteArray.empty] rfl rfl) (by kernel_rfl) ?_
      clear HS HS2; intro w32 HS2; replace HS2 : Bx (St w0 (rdA rb ab n cb (B + 1 + 2) :: boxA b11 5 53 (.agg #[.int .i64 ((lit5).getD dn3 0), .string dt13, .string ByteArray.empty, .int .i64 0, .string ByteArray.empty]) :: rowA encI 1 3 (.slice (some ⟨b2, 0, none⟩) 12 12) (lit5) :: boxA b1 5 53 (.agg #[.int .i64 0, .string ByteArray.empty, .string ByteArray.empty, .int .i64 0, .string ByteArray.empty]) :: F) _) := ⟨HS2⟩
      have HS : Bx (St w0 (boxA b1 5 53 (.agg #[.int .i64 0, .string ByteArray.empty, .string ByteArray.empty, .int .i64 0, .string ByteArray.empty]) :: F) _) := ⟨(((HS2.out.erase 2).erase 1).erase 0)⟩; refine ⟨HS.out, ?_⟩
      refine wh_done (by kernel_rfl) ?_
      replace HS := HS2; clear HS2
      replace HS:=Bx.mk (HS.out.pick 0 rfl)
      replace HS : Bx (St w0 (rdA rb ab n cb (B + 4) :: boxA b11 5 53 (.agg #[.int .i64 ((lit5).getD dn3 0), .string dt13, .string ByteArray.empty, .int .i64 0, .string ByteArray.empty]) :: rowA encI 1 3 (.slice (some ⟨b2, 0, none⟩) 12 12) (lit5) :: boxA b1 5 53 (.agg #[.int .i64 0, .string ByteArray.empty, .string ByteArray.empty, .int .i64 0, .string ByteArray.empty]) :: F) _) := ⟨HS.out.rdLe (by omega)⟩
      replace HS:=Bx.mk (((HS.out.pick 3 rfl).pick 2 rfl).pick 2 rfl)
      replace HS := Bx.mk ((HS.out.erase 3))
      exact on_mk ⟨_, ((lit5).getD dn3 0), dt13, ByteArray.empty, 0, ByteArray.empty, ⟨(by first | exact Nat.zero_le _ | (show ByteArray.size _ ≤ 100; first | omega | (rw [manyB_size]; show _ * 1 ≤ _; omega))), (by first | exact Nat.zero_le _ | (show ByteArray.size _ ≤ 100; first | omega | (rw [manyB_size]; show _ * 1 ≤ _; omega))), (by first | exact Nat.zero_le _ | (show ByteArray.size _ ≤ 100; first | omega | (rw [manyB_size]; show _ * 1 ≤ _; omega)))⟩, HF.less _ ⟨rfl, rfl, rfl, trivial⟩, HS.out⟩
   ·skip
    refine wo_alloc rfl rfl HF rfl rfl rfl (Z := [.int .i64 0, .string ByteArray.empty, .string ByteArray.empty, .int .i64 0, .string ByteArray.empty]) (by kernel_rfl) rfl HS2.out HS.out ?_; clear HF HS HS2 a; intro a w33 b14 HF HS2 HS; replace HS := Bx.mk HS; replace HS2 := Bx.mk HS2; refine ⟨HS.out, ?_⟩
    refine wh_one 2 (by kernel_rfl) ?_
    replace HS2:=Bx.mk (HS2.out.pick 3 rfl)
    refine wo_call rfl rfl HF rfl (enter_of Tryz.func94 (by kernel_rfl) rfl) (args := #[.pointer (some ⟨rb, 0, none⟩), .int .i64 12]) rfl (pickN w0 _ rb ab n cb bs hn hR B (by omega) 12 (by omega) _ HS2.out) rfl rfl ?_
    rintro _ w35 ⟨dn15, rfl, hu15, hs1⟩
    refine ⟨_, rfl, ?_⟩; replace HS2 := Bx.mk hs1;clear hs1 HF a;intro a HF
    replace HS2 : Bx (St w0 (rdA rb ab n cb (B + 1) :: boxA b14 5 53 (.agg #[.int .i64 0, .string ByteArray.empty, .string ByteArray.empty, .int .i64 0, .string ByteArray.empty]) :: rowA encI 1 3 (.slice (some ⟨b2, 0, none⟩) 12 12) (lit5) :: boxA b1 5 53 (.agg #[.int .i64 0, .string ByteArray.empty, .string ByteArray.empty, .int .i64 0, .string ByteArray.empty]) :: F) _) := ⟨HS2.out⟩
    clear HS; have HS : Bx (St w0 (boxA b1 5 53 (.agg #[.int .i64 0, .string ByteArray.empty, .string ByteArray.empty, .int .i64 0, .string ByteArray.empty]) :: F) _) := ⟨(((HS2.out.erase 2).erase 1).erase 0)⟩; refine ⟨HS.out, ?_⟩
    refine zh 3 rfl HF (fun _ HS => (yl_indexAddr (e := 3) (i := dn15) (size := 1) rfl (HF.ev rfl) (HF.ev rfl) (by kernel_rfl) rfl (by omega))) HS.out ?_;clear HF a;intro a HF
    refine wh_two 4 6 (by kernel_rfl) ?_ ?_
    ·skip
     refine wo_y rfl rfl HF rfl rfl (ylo (v := .int .i64 ((lit5).getD dn15 0)) rfl (HF.ev rfl) (HS2.out.elem1 encI_len 2 rfl (get_getD (xs := lit5) (j := dn15) (d := 0) (by (try simp only [List.length_cons, List.length_nil]); omega)) rfl)) ?_;clear HF a;intro a HF; refine ⟨HS.out, ?_⟩
     refine wh_one 6 (by kernel_rfl) ?_
     replace HS2:=Bx.mk (HS2.out.pick 0 rfl)
     refine wo_call rfl rfl HF rfl (enter_of Tryz.func147 (by kernel_rfl) rfl) (args := #[.pointer (some ⟨rb, 0, none⟩)]) rfl (l92Path_any w0 _ rb ab n cb bs hn hR (B + 1) (by omega) _ HS2.out) rfl rfl ?_
     rintro _ w38 ⟨dt16, rfl, ht16, hs1⟩
     refine ⟨_, rfl, ?_⟩; replace HS2 := Bx.mk hs1;clear hs1 HF a;intro a HF
     replace HS2 : Bx (St w0 (rdA rb ab n cb (B + 1 + 2) :: boxA b14 5 53 (.agg #[.int .i64 0, .string ByteArray.empty, .string ByteArray.empty, .int .i64 0, .string ByteArray.empty]) :: rowA encI 1 3 (.slice (some ⟨b2, 0, none⟩) 12 12) (lit5) :: boxA b1 5 53 (.agg #[.int .i64 0, .string ByteArray.empty, .string ByteArray.empty, .int .i64 0, .string ByteArray.empty]) :: F) _) := ⟨HS2.out⟩
     clear HS; have HS : Bx (St w0 (boxA b1 5 53 (.agg #[.int .i64 0, .string ByteArray.empty, .string ByteArray.empty, .int .i64 0, .string ByteArray.empty]) :: F) _) := ⟨(((HS2.out.erase 2).erase 1).erase 0)⟩; refine ⟨HS.out, ?_⟩
     refine zh 7 rfl HF (fun _ HS => (yl_build HF rfl (ps := [(0, .int .i64 ((lit5).getD dn15 0)), (1, .string dt16)]) rfl (cs := #[.int .i64 ((lit5).getD dn15 0), .string dt16, .string ByteArray.empty, .int .i64 0, .string ByteArray.empty]) (by kernel_rfl))) HS.out ?_;clear HF a;intro a HF
     refine wh_one 9 (by kernel_rfl) ?_
     refine wo_storeBox rfl rfl rfl rfl (HF.ev rfl) (HF.ev rfl) HS2.out 1 rfl (cells_lit [.int .i64 ((lit5).getD dn15 0), .string dt16, .string ByteArray.empty, .int .i64 0, .string ByteArray.empty] rfl rfl) (by kernel_rfl) ?_
     clear HS HS2; intro w39 HS2; replace HS2 : Bx (St w0 (rdA rb ab n cb (B + 1 + 2) :: boxA b14 5 53 (.agg #[.int .i64 ((lit5).getD dn15 0), .string dt16, .string ByteArray.empty, .int .i64 0, .string ByteArray.empty]) :: rowA encI 1 3 (.slice (some ⟨b2, 0, none⟩) 12 12) (lit5) :: boxA b1 5 53 (.agg #[.int .i64 0, .string ByteArray.empty, .string ByteArray.empty, .int .i64 0, .string ByteArray.empty]) :: F) _) := ⟨HS2⟩
     have HS : Bx (St w0 (boxA b1 5 53 (.agg #[.int .i64 0, .string ByteArray.empty, .string ByteArray.empty, .int .i64 0, .string ByteArray.empty]) :: F) _) := ⟨(((HS2.out.erase 2).erase 1).erase 0)⟩; refine ⟨HS.out, ?_⟩
     refine wh_done (by kernel_rfl) ?_
     replace HS := HS2; clear HS2
     replace HS:=Bx.mk (HS.out.pick 0 rfl)
     replace HS : Bx (St w0 (rdA rb ab n cb (B + 4) :: boxA b14 5 53 (.agg #[.int .i64 ((lit5).getD dn15 0), .string dt16, .string ByteArray.empty, .int .i64 0, .string ByteArray.empty]) :: rowA encI 1 3 (.slice (some ⟨b2, 0, none⟩) 12 12) (lit5) :: boxA b1 5 53 (.agg #[.int .i64 0, .string ByteArray.empty, .string ByteArray.empty, .int .i64 0, .string ByteArray.empty]) :: F) _) := ⟨HS.out.rdLe (by omega)⟩
     replace HS:=Bx.mk (((HS.out.pick 3 rfl).pick 2 rfl).pick 2 rfl)
     replace HS := Bx.mk ((HS.out.erase 3))
     exact on_mk ⟨_, ((lit5).getD dn15 0), dt16, ByteArray.empty, 0, ByteArray.empty, ⟨(by first | exact Nat.zero_le _ | (show ByteArray.size _ ≤ 100; first | omega | (rw [manyB_size]; show _ * 1 ≤ _; omega))), (by first | exact Nat.zero_le _ | (show ByteArray.size _ ≤ 100; first | omega | (rw [manyB_size]; show _ * 1 ≤ _; omega))), (by first | exact Nat.zero_le _ | (show ByteArray.size _ ≤ 100; first | omega | (rw [manyB_size]; show _ * 1 ≤ _; omega)))⟩, HF.less _ ⟨rfl, rfl, rfl, trivial⟩, HS.out⟩
    ·skip
     replace HS2:=Bx.mk (HS2.out.pick 0 rfl)
     refine wo_call rfl rfl HF rfl (enter_of Tryz.func147 (by kernel_rfl) rfl) (args := #[.pointer (some ⟨rb, 0, none⟩)]) rfl (l92Path_any w0 _ rb ab n cb bs hn hR (B + 1) (by omega) _ HS2.out) rfl rfl ?_
     rintro _ w41 ⟨dt17, rfl, ht17, hs1⟩
     refine ⟨_, rfl, ?_⟩; replace HS2 := Bx.mk hs1;clear hs1 HF a;intro a HF
     replace HS2 : Bx (St w0 (rdA rb ab n cb (B + 1 + 2) :: boxA b14 5 53 (.agg #[.int .i64 0, .string ByteArray.empty, .string ByteArray.empty, .int .i64 0, .string ByteArray.empty]) :: rowA encI 1 3 (.slice (some ⟨b2, 0, none⟩) 12 12) (lit5) :: boxA b1 5 53 (.agg #[.int .i64 0, .string ByteArray.empty, .string ByteArray.empty, .int .i64 0, .string ByteArray.empty]) :: F) _) := ⟨HS2.out⟩
     clear HS; have HS : Bx (St w0 (boxA b1 5 53 (.agg #[.int .i64 0, .string ByteArray.empty, .string ByteArray.empty, .int .i64 0, .string ByteArray.empty]) :: F) _) := ⟨(((HS2.out.erase 2).erase 1).erase 0)⟩; refine ⟨HS.out, ?_⟩
     refine wh_one 4 (by kernel_rfl) ?_
     refine wo_y rfl rfl HF rfl rfl (ylo (v := .int .i64 ((lit5).getD dn15 0)) rfl (HF.ev rfl) (HS2.out.elem1 encI_len 2 rfl (get_getD (xs := lit5) (j := dn15) (d := 0) (by (try simp only [List.length_cons, List.length_nil]); omega)) rfl)) ?_;clear HF a;intro a HF; refine ⟨HS.out, ?_⟩
     refine zh 7 rfl HF (fun _ HS => (yl_build HF rfl (ps := [(0, .int .i64 ((lit5).getD dn15 0)), (1, .string dt17)]) rfl (cs := #[.int .i64 ((lit5).getD dn15 0), .string dt17, .string ByteArray.empty, .int .i64 0, .string ByteArray.empty]) (by kernel_rfl))) HS.out ?_;clear HF a;intro a HF
     refine wh_one 9 (by kernel_rfl) ?_
     refine wo_storeBox rfl rfl rfl rfl (HF.ev rfl) (HF.ev rfl) HS2.out 1 rfl (cells_lit [.int .i64 ((lit5).getD dn15 0), .string dt17, .string ByteArray.empty, .int .i64 0, .string ByteArray.empty] rfl rfl) (by kernel_rfl) ?_
     clear HS HS2; intro w43 HS2; replace HS2 : Bx (St w0 (rdA rb ab n cb (B + 1 + 2) :: boxA b14 5 53 (.agg #[.int .i64 ((lit5).getD dn15 0), .string dt17, .string ByteArray.empty, .int .i64 0, .string ByteArray.empty]) :: rowA encI 1 3 (.slice (some ⟨b2, 0, none⟩) 12 12) (lit5) :: boxA b1 5 53 (.agg #[.int .i64 0, .string ByteArray.empty, .string ByteArray.empty, .int .i64 0, .string ByteArray.empty]) :: F) _) := ⟨HS2⟩
     have HS : Bx (St w0 (boxA b1 5 53 (.agg #[.int .i64 0, .string ByteArray.empty, .string ByteArray.empty, .int .i64 0, .string ByteArray.empty]) :: F) _) := ⟨(((HS2.out.erase 2).erase 1).erase 0)⟩; refine ⟨HS.out, ?_⟩
     refine wh_done (by kernel_rfl) ?_
     replace HS := HS2; clear HS2
     replace HS:=Bx.mk (HS.out.pick 0 rfl)
     replace HS : Bx (St w0 (rdA rb ab n cb (B + 4) :: boxA b14 5 53 (.agg #[.int .i64 ((lit5).getD dn15 0), .string dt17, .string ByteArray.empty, .int .i64 0, .string ByteArray.empty]) :: rowA encI 1 3 (.slice (some ⟨b2, 0, none⟩) 12 12) (lit5) :: boxA b1 5 53 (.agg #[.int .i64 0, .string ByteArray.empty, .string ByteArray.empty, .int .i64 0, .string ByteArray.empty]) :: F) _) := ⟨HS.out.rdLe (by omega)⟩
     replace HS:=Bx.mk (((HS.out.pick 3 rfl).pick 2 rfl).pick 2 rfl)
     replace HS := Bx.mk ((HS.out.erase 3))
     exact on_mk ⟨_, ((lit5).getD dn15 0), dt17, ByteArray.empty, 0, ByteArray.empty, ⟨(by first | exact Nat.zero_le _ | (show ByteArray.size _ ≤ 100; first | omega | (rw [manyB_size]; show _ * 1 ≤ _; omega))), (by first | exact Nat.zero_le _ | (show ByteArray.size _ ≤ 100; first | omega | (rw [manyB_size]; show _ * 1 ≤ _; omega))), (by first | exact Nat.zero_le _ | (show ByteArray.size _ ≤ 100; first | omega | (rw [manyB_size]; show _ * 1 ≤ _; omega)))⟩, HF.less _ ⟨rfl, rfl, rfl, trivial⟩, HS.out⟩
  ·skip
   replace HS2:=Bx.mk (HS2.out.pick 1 rfl)
   refine wo_call rfl rfl HF rfl (enter_of Tryz.func94 (by kernel_rfl) rfl) (args := #[.pointer (some ⟨rb, 0, none⟩), .int .i64 12]) rfl (pickN w0 _ rb ab n cb bs hn hR B (by omega) 12 (by omega) _ HS2.out) rfl rfl ?_
   rintro _ w45 ⟨dn18, rfl, hu18, hs1⟩
   refine ⟨_, rfl, ?_⟩; replace HS2 := Bx.mk hs1;clear hs1 HF a;intro a HF
   replace HS2 : Bx (St w0 (rdA rb ab n cb (B + 1) :: boxA b1 5 53 (.agg #[.int .i64 0, .string ByteArray.empty, .string ByteArray.empty, .int .i64 0, .string ByteArray.empty]) :: F) _) := ⟨HS2.out⟩
   clear HS; have HS : Bx (St w0 (boxA b1 5 53 (.agg #[.int .i64 0, .string ByteArray.empty, .string ByteArray.empty, .int .i64 0, .string ByteArray.empty]) :: F) _) := ⟨(HS2.out.erase 0)⟩; refine ⟨HS.out, ?_⟩
   refine wh_three 0 6 8 (by kernel_rfl) ?_ ?_ ?_
   ·skip
    refine wo_buildS (enc := encI) (e := 3) (size := 1) rfl rfl HF rfl rfl rfl (ps := [(0, .int .i64 1), (1, .int .i64 1), (2, .int .i64 2), (3, .int .i64 2), (4, .int .i64 3), (5, .int .i64 3), (6, .int .i64 3), (7, .int .i64 4), (8, .int .i64 5), (9, .int .i64 6), (10, .int .i64 7), (11, .int .i64 7)]) rfl (cells := [.int .i64 1, .int .i64 1, .int .i64 2, .int .i64 2, .int .i64 3, .int .i64 3, .int .i64 3, .int .i64 4, .int .i64 5, .int .i64 6, .int .i64 7, .int .i64 7]) (by kernel_rfl) lit5 rfl rfl (by unfold maxLen; omega) rfl HS2.out HS.out ?_; clear HF HS HS2 a; intro b19 a w47 HF HS2 HS; replace HS := Bx.mk HS; replace HS2 := Bx.mk HS2; refine ⟨HS.out, ?_⟩
    refine zh 3 rfl HF (fun _ HS => (yl_indexAddr (e := 3) (i := dn18) (size := 1) rfl (HF.ev rfl) (HF.ev rfl) (by kernel_rfl) rfl (by omega))) HS.out ?_;clear HF a;intro a HF
    refine wh_three 4 6 8 (by kernel_rfl) ?_ ?_ ?_
    ·skip
     refine wo_y rfl rfl HF rfl rfl (ylo (v := .int .i64 ((lit5).getD dn18 0)) rfl (HF.ev rfl) (HS2.out.elem1 encI_len 0 rfl (get_getD (xs := lit5) (j := dn18) (d := 0) (by (try simp only [List.length_cons, List.length_nil]); omega)) rfl)) ?_;clear HF a;intro a HF; refine ⟨HS.out, ?_⟩
     refine wh_two 6 8 (by kernel_rfl) ?_ ?_
     ·skip
      replace HS2:=Bx.mk (HS2.out.pick 1 rfl)
      refine wo_call rfl rfl HF rfl (enter_of Tryz.func147 (by kernel_rfl) rfl) (args := #[.pointer (some ⟨rb, 0, none⟩)]) rfl (l92Path_any w0 _ rb ab n cb bs hn hR (B + 1) (by omega) _ HS2.out) rfl rfl ?_
      rintro _ w50 ⟨dt20, rfl, ht20, hs1⟩
      refine ⟨_, rfl, ?_⟩; replace HS2 := Bx.mk hs1;clear hs1 HF a;intro a HF
      replace HS2 : Bx (St w0 (rdA rb ab n cb (B + 1 + 2) :: rowA encI 1 3 (.slice (some ⟨b19, 0, none⟩) 12 12) (lit5) :: boxA b1 5 53 (.agg #[.int .i64 0, .string ByteArray.empty, .string ByteArray.empty, .int .i64 0, .string ByteArray.empty]) :: F) _) := ⟨HS2.out⟩
      clear HS; have HS : Bx (St w0 (boxA b1 5 53 (.agg #[.int .i64 0, .string ByteArray.empty, .string ByteArray.empty, .int .i64 0, .string ByteArray.empty]) :: F) _) := ⟨((HS2.out.erase 1).erase 0)⟩; refine ⟨HS.out, ?_⟩
      refine zh 7 rfl HF (fun _ HS => (yl_build HF rfl (ps := [(0, .int .i64 ((lit5).getD dn18 0)), (1, .string dt20)]) rfl (cs := #[.int .i64 ((lit5).getD dn18 0), .string dt20, .string ByteArray.empty, .int .i64 0, .string ByteArray.empty]) (by kernel_rfl))) HS.out ?_;clear HF a;intro a HF
      refine wh_one 8 (by kernel_rfl) ?_
      refine wo_alloc rfl rfl HF rfl rfl rfl (Z := [.int .i64 0, .string ByteArray.empty, .string ByteArray.empty, .int .i64 0, .string ByteArray.empty]) (by kernel_rfl) rfl HS2.out HS.out ?_; clear HF HS HS2 a; intro a w51 b21 HF HS2 HS; replace HS := Bx.mk HS; replace HS2 := Bx.mk HS2; refine ⟨HS.out, ?_⟩
      refine wh_one 9 (by kernel_rfl) ?_
      refine wo_storeBox rfl rfl rfl rfl (HF.ev rfl) (HF.ev rfl) HS2.out 0 rfl (cells_lit [.int .i64 ((lit5).getD dn18 0), .string dt20, .string ByteArray.empty, .int .i64 0, .string ByteArray.empty] rfl rfl) (by kernel_rfl) ?_
      clear HS HS2; intro w52 HS2; replace HS2 : Bx (St w0 (boxA b21 5 53 (.agg #[.int .i64 ((lit5).getD dn18 0), .string dt20, .string ByteArray.empty, .int .i64 0, .string ByteArray.empty]) :: rdA rb ab n cb (B + 1 + 2) :: rowA encI 1 3 (.slice (some ⟨b19, 0, none⟩) 12 12) (lit5) :: boxA b1 5 53 (.agg #[.int .i64 0, .string ByteArray.empty, .string ByteArray.empty, .int .i64 0, .string ByteArray.empty]) :: F) _) := ⟨HS2⟩
      have HS : Bx (St w0 (boxA b1 5 53 (.agg #[.int .i64 0, .string ByteArray.empty, .string ByteArray.empty, .int .i64 0, .string ByteArray.empty]) :: F) _) := ⟨(((HS2.out.erase 2).erase 1).erase 0)⟩; refine ⟨HS.out, ?_⟩
      refine wh_done (by kernel_rfl) ?_
      replace HS := HS2; clear HS2
      replace HS:=Bx.mk (HS.out.pick 1 rfl)
      replace HS : Bx (St w0 (rdA rb ab n cb (B + 4) :: boxA b21 5 53 (.agg #[.int .i64 ((lit5).getD dn18 0), .string dt20, .string ByteArray.empty, .int .i64 0, .string ByteArray.empty]) :: rowA encI 1 3 (.slice (some ⟨b19, 0, none⟩) 12 12) (lit5) :: boxA b1 5 53 (.agg #[.int .i64 0, .string ByteArray.empty, .string ByteArray.empty, .int .i64 0, .string ByteArray.empty]) :: F) _) := ⟨HS.out.rdLe (by omega)⟩
      replace HS:=Bx.mk (((HS.out.pick 3 rfl).pick 2 rfl).pick 2 rfl)
      replace HS := Bx.mk ((HS.out.erase 3))
      exact on_mk ⟨_, ((lit5).getD dn18 0), dt20, ByteArray.empty, 0, ByteArray.empty, ⟨(by first | exact Nat.zero_le _ | (show ByteArray.size _ ≤ 100; first | omega | (rw [manyB_size]; show _ * 1 ≤ _; omega))), (by first | exact Nat.zero_le _ | (show ByteArray.size _ ≤ 100; first | omega | (rw [manyB_size]; show _ * 1 ≤ _; omega))), (by first | exact Nat.zero_le _ | (show ByteArray.size _ ≤ 100; first | omega | (rw [manyB_size]; show _ * 1 ≤ _; omega)))⟩, HF.less _ ⟨rfl, rfl, rfl, trivial⟩, HS.out⟩
     ·skip
      refine wo_alloc rfl rfl HF rfl rfl rfl (Z := [.int .i64 0, .string ByteArray.empty, .string ByteArray.empty, .int .i64 0, .string ByteArray.empty]) (by kernel_rfl) rfl HS2.out HS.out ?_; clear HF HS HS2 a; intro a w53 b22 HF HS2 HS; replace HS := Bx.mk HS; replace HS2 := Bx.mk HS2; refine ⟨HS.out, ?_⟩
      refine wh_one 6 (by kernel_rfl) ?_
      replace HS2:=Bx.mk (HS2.out.pick 2 rfl)
      refine wo_call rfl rfl HF rfl (enter_of Tryz.func147 (by kernel_rfl) rfl) (args := #[.pointer (some ⟨rb, 0, none⟩)]) rfl (l92Path_any w0 _ rb ab n cb bs hn hR (B + 1) (by omega) _ HS2.out) rfl rfl ?_
      rintro _ w55 ⟨dt23, rfl, ht23, hs1⟩
      refine ⟨_, rfl, ?_⟩; replace HS2 := Bx.mk hs1;clear hs1 HF a;intro a HF
      replace HS2 : Bx (St w0 (rdA rb ab n cb (B + 1 + 2) :: boxA b22 5 53 (.agg #[.int .i64 0, .string ByteArray.empty, .string ByteArray.empty, .int .i64 0, .string ByteArray.empty]) :: rowA encI 1 3 (.slice (some ⟨b19, 0, none⟩) 12 12) (lit5) :: boxA b1 5 53 (.agg #[.int .i64 0, .string ByteArray.empty, .string ByteArray.empty, .int .i64 0, .string ByteArray.empty]) :: F) _) := ⟨HS2.out⟩
      clear HS; have HS : Bx (St w0 (boxA b1 5 53 (.agg #[.int .i64 0, .string ByteArray.empty, .string ByteArray.empty, .int .i64 0, .string ByteArray.empty]) :: F) _) := ⟨(((HS2.out.erase 2).erase 1).erase 0)⟩; refine ⟨HS.out, ?_⟩
      refine zh 7 rfl HF (fun _ HS => (yl_build HF rfl (ps := [(0, .int .i64 ((lit5).getD dn18 0)), (1, .string dt23)]) rfl (cs := #[.int .i64 ((lit5).getD dn18 0), .string dt23, .string ByteArray.empty, .int .i64 0, .string ByteArray.empty]) (by kernel_rfl))) HS.out ?_;clear HF a;intro a HF
      refine wh_one 9 (by kernel_rfl) ?_
      refine wo_storeBox rfl rfl rfl rfl (HF.ev rfl) (HF.ev rfl) HS2.out 1 rfl (cells_lit [.int .i64 ((lit5).getD dn18 0), .string dt23, .string ByteArray.empty, .int .i64 0, .string ByteArray.empty] rfl rfl) (by kernel_rfl) ?_
      clear HS HS2; intro w56 HS2; replace HS2 : Bx (St w0 (rdA rb ab n cb (B + 1 + 2) :: boxA b22 5 53 (.agg #[.int .i64 ((lit5).getD dn18 0), .string dt23, .string ByteArray.empty, .int .i64 0, .string ByteArray.empty]) :: rowA encI 1 3 (.slice (some ⟨b19, 0, none⟩) 12 12) (lit5) :: boxA b1 5 53 (.agg #[.int .i64 0, .string ByteArray.empty, .string ByteArray.empty, .int .i64 0, .string ByteArray.empty]) :: F) _) := ⟨HS2⟩
      have HS : Bx (St w0 (boxA b1 5 53 (.agg #[.int .i64 0, .string ByteArray.empty, .string ByteArray.empty, .int .i64 0, .string ByteArray.empty]) :: F) _) := ⟨(((HS2.out.erase 2).erase 1).erase 0)⟩; refine ⟨HS.out, ?_⟩
      refine wh_done (by kernel_rfl) ?_
      replace HS := HS2; clear HS2
      replace HS:=Bx.mk (HS.out.pick 0 rfl)
      replace HS : Bx (St w0 (rdA rb ab n cb (B + 4) :: boxA b22 5 53 (.agg #[.int .i64 ((lit5).getD dn18 0), .string dt23, .string ByteArray.empty, .int .i64 0, .string ByteArray.empty]) :: rowA encI 1 3 (.slice (some ⟨b19, 0, none⟩) 12 12) (lit5) :: boxA b1 5 53 (.agg #[.int .i64 0, .string ByteArray.empty, .string ByteArray.empty, .int .i64 0, .string ByteArray.empty]) :: F) _) := ⟨HS.out.rdLe (by omega)⟩
      replace HS:=Bx.mk (((HS.out.pick 3 rfl).pick 2 rfl).pick 2 rfl)
      replace HS := Bx.mk ((HS.out.erase 3))
      exact on_mk ⟨_, ((lit5).getD dn18 0), dt23, ByteArray.empty, 0, ByteArray.empty, ⟨(by first | exact Nat.zero_le _ | (show ByteArray.size _ ≤ 100; first | omega | (rw [manyB_size]; show _ * 1 ≤ _; omega))), (by first | exact Nat.zero_le _ | (show ByteArray.size _ ≤ 100; first | omega | (rw [manyB_size]; show _ * 1 ≤ _; omega))), (by first | exact Nat.zero_le _ | (show ByteArray.size _ ≤ 100; first | omega | (rw [manyB_size]; show _ * 1 ≤ _; omega)))⟩, HF.less _ ⟨rfl, rfl, rfl, trivial⟩, HS.out⟩
    ·skip
     replace HS2:=Bx.mk (HS2.out.pick 1 rfl)
     refine wo_call rfl rfl HF rfl (enter_of Tryz.func147 (by kernel_rfl) rfl) (args := #[.pointer (some ⟨rb, 0, none⟩)]) rfl (l92Path_any w0 _ rb ab n cb bs hn hR (B + 1) (by omega) _ HS2.out) rfl rfl ?_
     rintro _ w58 ⟨dt24, rfl, ht24, hs1⟩
     refine ⟨_, rfl, ?_⟩; replace HS2 := Bx.mk hs1;clear hs1 HF a;intro a HF
     replace HS2 : Bx (St w0 (rdA rb ab n cb (B + 1 + 2) :: rowA encI 1 3 (.slice (some ⟨b19, 0, none⟩) 12 12) (lit5) :: boxA b1 5 53 (.agg #[.int .i64 0, .string ByteArray.empty, .string ByteArray.empty, .int .i64 0, .string ByteArray.empty]) :: F) _) := ⟨HS2.out⟩
     clear HS; have HS : Bx (St w0 (boxA b1 5 53 (.agg #[.int .i64 0, .string ByteArray.empty, .string ByteArray.empty, .int .i64 0, .string ByteArray.empty]) :: F) _) := ⟨((HS2.out.erase 1).erase 0)⟩; refine ⟨HS.out, ?_⟩
     refine wh_two 4 8 (by kernel_rfl) ?_ ?_
     ·skip
      refine wo_y rfl rfl HF rfl rfl (ylo (v := .int .i64 ((lit5).getD dn18 0)) rfl (HF.ev rfl) (HS2.out.elem1 encI_len 1 rfl (get_getD (xs := lit5) (j := dn18) (d := 0) (by (try simp only [List.length_cons, List.length_nil]); omega)) rfl)) ?_;clear HF a;intro a HF; refine ⟨HS.out, ?_⟩
      refine zh 7 rfl HF (fun _ HS => (yl_build HF rfl (ps := [(0, .int .i64 ((lit5).getD dn18 0)), (1, .string dt24)]) rfl (cs := #[.int .i64 ((lit5).getD dn18 0), .string dt24, .string ByteArray.empty, .int .i64 0, .string ByteArray.empty]) (by kernel_rfl))) HS.out ?_;clear HF a;intro a HF
      refine wh_one 8 (by kernel_rfl) ?_
      refine wo_alloc rfl rfl HF rfl rfl rfl (Z := [.int .i64 0, .string ByteArray.empty, .string ByteArray.empty, .int .i64 0, .string ByteArray.empty]) (by kernel_rfl) rfl HS2.out HS.out ?_; clear HF HS HS2 a; intro a w60 b25 HF HS2 HS; replace HS := Bx.mk HS; replace HS2 := Bx.mk HS2; refine ⟨HS.out, ?_⟩
      refine wh_one 9 (by kernel_rfl) ?_
      refine wo_storeBox rfl rfl rfl rfl (HF.ev rfl) (HF.ev rfl) HS2.out 0 rfl (cells_lit [.int .i64 ((lit5).getD dn18 0), .string dt24, .string ByteArray.empty, .int .i64 0, .string ByteArray.empty] rfl rfl) (by kernel_rfl) ?_
      clear HS HS2; intro w61 HS2; replace HS2 : Bx (St w0 (boxA b25 5 53 (.agg #[.int .i64 ((lit5).getD dn18 0), .string dt24, .string ByteArray.empty, .int .i64 0, .string ByteArray.empty]) :: rdA rb ab n cb (B + 1 + 2) :: rowA encI 1 3 (.slice (some ⟨b19, 0, none⟩) 12 12) (lit5) :: boxA b1 5 53 (.agg #[.int .i64 0, .string ByteArray.empty, .string ByteArray.empty, .int .i64 0, .string ByteArray.empty]) :: F) _) := ⟨HS2⟩
      have HS : Bx (St w0 (boxA b1 5 53 (.agg #[.int .i64 0, .string ByteArray.empty, .string ByteArray.empty, .int .i64 0, .string ByteArray.empty]) :: F) _) := ⟨(((HS2.out.erase 2).erase 1).erase 0)⟩; refine ⟨HS.out, ?_⟩
      refine wh_done (by kernel_rfl) ?_
      replace HS := HS2; clear HS2
      replace HS:=Bx.mk (HS.out.pick 1 rfl)
      replace HS : Bx (St w0 (rdA rb ab n cb (B + 4) :: boxA b25 5 53 (.agg #[.int .i64 ((lit5).getD dn18 0), .string dt24, .string ByteArray.empty, .int .i64 0, .string ByteArray.empty]) :: rowA encI 1 3 (.slice (some ⟨b19, 0, none⟩) 12 12) (lit5) :: boxA b1 5 53 (.agg #[.int .i64 0, .string ByteArray.empty, .string ByteArray.empty, .int .i64 0, .string ByteArray.empty]) :: F) _) := ⟨HS.out.rdLe (by omega)⟩
      replace HS:=Bx.mk (((HS.out.pick 3 rfl).pick 2 rfl).pick 2 rfl)
      replace HS := Bx.mk ((HS.out.erase 3))
      exact on_mk ⟨_, ((lit5).getD dn18 0), dt24, ByteArray.empty, 0, ByteArray.empty, ⟨(by first | exact Nat.zero_le _ | (show ByteArray.size _ ≤ 100; first | omega | (rw [manyB_size]; show _ * 1 ≤ _; omega))), (by first | exact Nat.zero_le _ | (show ByteArray.size _ ≤ 100; first | omega | (rw [manyB_size]; show _ * 1 ≤ _; omega))), (by first | exact Nat.zero_le _ | (show ByteArray.size _ ≤ 100; first | omega | (rw [manyB_size]; show _ * 1 ≤ _; omega)))⟩, HF.less _ ⟨rfl, rfl, rfl, trivial⟩, HS.out⟩
     ·skip
      refine wo_alloc rfl rfl HF rfl rfl rfl (Z := [.int .i64 0, .string ByteArray.empty, .string ByteArray.empty, .int .i64 0, .string ByteArray.empty]) (by kernel_rfl) rfl HS2.out HS.out ?_; clear HF HS HS2 a; intro a w62 b26 HF HS2 HS; replace HS := Bx.mk HS; replace HS2 := Bx.mk HS2; refine ⟨HS.out, ?_⟩
      refine wh_one 4 (by kernel_rfl) ?_
      refine wo_y rfl rfl HF rfl rfl (ylo (v := .int .i64 ((lit5).getD dn18 0)) rfl (HF.ev rfl) (HS2.out.elem1 encI_len 2 rfl (get_getD (xs := lit5) (j := dn18) (d := 0) (by (try simp only [List.length_cons, List.length_nil]); omega)) rfl)) ?_;clear HF a;intro a HF; refine ⟨HS.out, ?_⟩
      refine zh 7 rfl HF (fun _ HS => (yl_build HF rfl (ps := [(0, .int .i64 ((lit5).getD dn18 0)), (1, .string dt24)]) rfl (cs := #[.int .i64 ((lit5).getD dn18 0), .string dt24, .string ByteArray.empty, .int .i64 0, .string ByteArray.empty]) (by kernel_rfl))) HS.out ?_;clear HF a;intro a HF
      refine wh_one 9 (by kernel_rfl) ?_
      refine wo_storeBox rfl rfl rfl rfl (HF.ev rfl) (HF.ev rfl) HS2.out 0 rfl (cells_lit [.int .i64 ((lit5).getD dn18 0), .string dt24, .string ByteArray.empty, .int .i64 0, .string ByteArray.empty] rfl rfl) (by kernel_rfl) ?_
      clear HS HS2; intro w64 HS2; replace HS2 : Bx (St w0 (boxA b26 5 53 (.agg #[.int .i64 ((lit5).getD dn18 0), .string dt24, .string ByteArray.empty, .int .i64 0, .string ByteArray.empty]) :: rdA rb ab n cb (B + 1 + 2) :: rowA encI 1 3 (.slice (some ⟨b19, 0, none⟩) 12 12) (lit5) :: boxA b1 5 53 (.agg #[.int .i64 0, .string ByteArray.empty, .string ByteArray.empty, .int .i64 0, .string ByteArray.empty]) :: F) _) := ⟨HS2⟩
      have HS : Bx (St w0 (boxA b1 5 53 (.agg #[.int .i64 0, .string ByteArray.empty, .string ByteArray.empty, .int .i64 0, .string ByteArray.empty]) :: F) _) := ⟨(((HS2.out.erase 2).erase 1).erase 0)⟩; refine ⟨HS.out, ?_⟩
      refine wh_done (by kernel_rfl) ?_
      replace HS := HS2; clear HS2
      replace HS:=Bx.mk (HS.out.pick 1 rfl)
      replace HS : Bx (St w0 (rdA rb ab n cb (B + 4) :: boxA b26 5 53 (.agg #[.int .i64 ((lit5).getD dn18 0), .string dt24, .string ByteArray.empty, .int .i64 0, .string ByteArray.empty]) :: rowA encI 1 3 (.slice (some ⟨b19, 0, none⟩) 12 12) (lit5) :: boxA b1 5 53 (.agg #[.int .i64 0, .string ByteArray.empty, .string ByteArray.empty, .int .i64 0, .string ByteArray.empty]) :: F) _) := ⟨HS.out.rdLe (by omega)⟩
      replace HS:=Bx.mk (((HS.out.pick 3 rfl).pick 2 rfl).pick 2 rfl)
      replace HS := Bx.mk ((HS.out.erase 3))
      exact on_mk ⟨_, ((lit5).getD dn18 0), dt24, ByteArray.empty, 0, ByteArray.empty, ⟨(by first | exact Nat.zero_le _ | (show ByteArray.size _ ≤ 100; first | omega | (rw [manyB_size]; show _ * 1 ≤ _; omega))), (by first | exact Nat.zero_le _ | (show ByteArray.size _ ≤ 100; first | omega | (rw [manyB_size]; show _ * 1 ≤ _; omega))), (by first | exact Nat.zero_le _ | (show ByteArray.size _ ≤ 100; first | omega | (rw [manyB_size]; show _ * 1 ≤ _; omega)))⟩, HF.less _ ⟨rfl, rfl, rfl, trivial⟩, HS.out⟩
    ·skip
     refine wo_alloc rfl rfl HF rfl rfl rfl (Z := [.int .i64 0, .string ByteArray.empty, .string ByteArray.empty, .int .i64 0, .string ByteArray.empty]) (by kernel_rfl) rfl HS2.out HS.out ?_; clear HF HS HS2 a; intro a w65 b27 HF HS2 HS; replace HS := Bx.mk HS; replace HS2 := Bx.mk HS2; refine ⟨HS.out, ?_⟩
     refine wh_two 4 6 (by kernel_rfl) ?_ ?_
     ·skip
      refine wo_y rfl rfl HF rfl rfl (ylo (v := .int .i64 ((lit5).getD dn18 0)) rfl (HF.ev rfl) (HS2.out.elem1 encI_len 1 rfl (get_getD (xs := lit5) (j := dn18) (d := 0) (by (try simp only [List.length_cons, List.length_nil]); omega)) rfl)) ?_;clear HF a;intro a HF; refine ⟨HS.out, ?_⟩
      refine wh_one 6 (by kernel_rfl) ?_
      replace HS2:=Bx.mk (HS2.out.pick 2 rfl)
      refine wo_call rfl rfl HF rfl (enter_of Tryz.func147 (by kernel_rfl) rfl) (args := #[.pointer (some ⟨rb, 0, none⟩)]) rfl (l92Path_any w0 _ rb ab n cb bs hn hR (B + 1) (by omega) _ HS2.out) rfl rfl ?_
      rintro _ w68 ⟨dt28, rfl, ht28, hs1⟩
      refine ⟨_, rfl, ?_⟩; replace HS2 := Bx.mk hs1;clear hs1 HF a;intro a HF
      replace HS2 : Bx (St w0 (rdA rb ab n cb (B + 1 + 2) :: boxA b27 5 53 (.agg #[.int .i64 0, .string ByteArray.empty, .string ByteArray.empty, .int .i64 0, .string ByteArray.empty]) :: rowA encI 1 3 (.slice (some ⟨b19, 0, none⟩) 12 12) (lit5) :: boxA b1 5 53 (.agg #[.int .i64 0, .string ByteArray.empty, .string ByteArray.empty, .int .i64 0, .string ByteArray.empty]) :: F) _) := ⟨HS2.out⟩
      clear HS; have HS : Bx (St w0 (boxA b1 5 53 (.agg #[.int .i64 0, .string ByteArray.empty, .string ByteArray.empty, .int .i64 0, .string ByteArray.empty]) :: F) _) := ⟨(((HS2.out.erase 2).erase 1).erase 0)⟩; refine ⟨HS.out, ?_⟩
      refine zh 7 rfl HF (fun _ HS => (yl_build HF rfl (ps := [(0, .int .i64 ((lit5).getD dn18 0)), (1, .string dt28)]) rfl (cs := #[.int .i64 ((lit5).getD dn18 0), .string dt28, .string ByteArray.empty, .int .i64 0, .string ByteArray.empty]) (by kernel_rfl))) HS.out ?_;clear HF a;intro a HF
      refine wh_one 9 (by kernel_rfl) ?_
      refine wo_storeBox rfl rfl rfl rfl (HF.ev rfl) (HF.ev rfl) HS2.out 1 rfl (cells_lit [.int .i64 ((lit5).getD dn18 0), .string dt28, .string ByteArray.empty, .int .i64 0, .string ByteArray.empty] rfl rfl) (by kernel_rfl) ?_
      clear HS HS2; intro w69 HS2; replace HS2 : Bx (St w0 (rdA rb ab n cb (B + 1 + 2) :: boxA b27 5 53 (.agg #[.int .i64 ((lit5).getD dn18 0), .string dt28, .string ByteArray.empty, .int .i64 0, .string ByteArray.empty]) :: rowA encI 1 3 (.slice (some ⟨b19, 0, none⟩) 12 12) (lit5) :: boxA b1 5 53 (.agg #[.int .i64 0, .string ByteArray.empty, .string ByteArray.empty, .int .i64 0, .string ByteArray.empty]) :: F) _) := ⟨HS2⟩
      have HS : Bx (St w0 (boxA b1 5 53 (.agg #[.int .i64 0, .string ByteArray.empty, .string ByteArray.empty, .int .i64 0, .string ByteArray.empty]) :: F) _) := ⟨(((HS2.out.erase 2).erase 1).erase 0)⟩; refine ⟨HS.out, ?_⟩
      refine wh_done (by kernel_rfl) ?_
      replace HS := HS2; clear HS2
      replace HS:=Bx.mk (HS.out.pick 0 rfl)
      replace HS : Bx (St w0 (rdA rb ab n cb (B + 4) :: boxA b27 5 53 (.agg #[.int .i64 ((lit5).getD dn18 0), .string dt28, .string ByteArray.empty, .int .i64 0, .string ByteArray.empty]) :: rowA encI 1 3 (.slice (some ⟨b19, 0, none⟩) 12 12) (lit5) :: boxA b1 5 53 (.agg #[.int .i64 0, .string ByteArray.empty, .string ByteArray.empty, .int .i64 0, .string ByteArray.empty]) :: F) _) := ⟨HS.out.rdLe (by omega)⟩
      replace HS:=Bx.mk (((HS.out.pick 3 rfl).pick 2 rfl).pick 2 rfl)
      replace HS := Bx.mk ((HS.out.erase 3))
      exact on_mk ⟨_, ((lit5).getD dn18 0), dt28, ByteArray.empty, 0, ByteArray.empty, ⟨(by first | exact Nat.zero_le _ | (show ByteArray.size _ ≤ 100; first | omega | (rw [manyB_size]; show _ * 1 ≤ _; omega))), (by first | exact Nat.zero_le _ | (show ByteArray.size _ ≤ 100; first | omega | (rw [manyB_size]; show _ * 1 ≤ _; omega))), (by first | exact Nat.zero_le _ | (show ByteArray.size _ ≤ 100; first | omega | (rw [manyB_size]; show _ * 1 ≤ _; omega)))⟩, HF.less _ ⟨rfl, rfl, rfl, trivial⟩, HS.out⟩
     ·skip
      replace HS2:=Bx.mk (HS2.out.pick 2 rfl)
      refine wo_call rfl rfl HF rfl (enter_of Tryz.func147 (by kernel_rfl) rfl) (args := #[.pointer (some ⟨rb, 0, none⟩)]) rfl (l92Path_any w0 _ rb ab n cb bs hn hR (B + 1) (by omega) _ HS2.out) rfl rfl ?_
      rintro _ w71 ⟨dt29, rfl, ht29, hs1⟩
      refine ⟨_, rfl, ?_⟩; replace HS2 := Bx.mk hs1;clear hs1 HF a;intro a HF
      replace HS2 : Bx (St w0 (rdA rb ab n cb (B + 1 + 2) :: boxA b27 5 53 (.agg #[.int .i64 0, .string ByteArray.empty, .string ByteArray.empty, .int .i64 0, .string ByteArray.empty]) :: rowA encI 1 3 (.slice (some ⟨b19, 0, none⟩) 12 12) (lit5) :: boxA b1 5 53 (.agg #[.int .i64 0, .string ByteArray.empty, .string ByteArray.empty, .int .i64 0, .string ByteArray.empty]) :: F) _) := ⟨HS2.out⟩
      clear HS; have HS : Bx (St w0 (boxA b1 5 53 (.agg #[.int .i64 0, .string ByteArray.empty, .string ByteArray.empty, .int .i64 0, .string ByteArray.empty]) :: F) _) := ⟨(((HS2.out.erase 2).erase 1).erase 0)⟩; refine ⟨HS.out, ?_⟩
      refine wh_one 4 (by kernel_rfl) ?_
      refine wo_y rfl rfl HF rfl rfl (ylo (v := .int .i64 ((lit5).getD dn18 0)) rfl (HF.ev rfl) (HS2.out.elem1 encI_len 2 rfl (get_getD (xs := lit5) (j := dn18) (d := 0) (by (try simp only [List.length_cons, List.length_nil]); omega)) rfl)) ?_;clear HF a;intro a HF; refine ⟨HS.out, ?_⟩
      refine zh 7 rfl HF (fun _ HS => (yl_build HF rfl (ps := [(0, .int .i64 ((lit5).getD dn18 0)), (1, .string dt29)]) rfl (cs := #[.int .i64 ((lit5).getD dn18 0), .string dt29, .string ByteArray.empty, .int .i64 0, .string ByteArray.empty]) (by kernel_rfl))) HS.out ?_;clear HF a;intro a HF
      refine wh_one 9 (by kernel_rfl) ?_
      refine wo_storeBox rfl rfl rfl rfl (HF.ev rfl) (HF.ev rfl) HS2.out 1 rfl (cells_lit [.int .i64 ((lit5).getD dn18 0), .string dt29, .string ByteArray.empty, .int .i64 0, .string ByteArray.empty] rfl rfl) (by kernel_rfl) ?_
      clear HS HS2; intro w73 HS2; replace HS2 : Bx (St w0 (rdA rb ab n cb (B + 1 + 2) :: boxA b27 5 53 (.agg #[.int .i64 ((lit5).getD dn18 0), .string dt29, .string ByteArray.empty, .int .i64 0, .string ByteArray.empty]) :: rowA encI 1 3 (.slice (some ⟨b19, 0, none⟩) 12 12) (lit5) :: boxA b1 5 53 (.agg #[.int .i64 0, .string ByteArray.empty, .string ByteArray.empty, .int .i64 0, .string ByteArray.empty]) :: F) _) := ⟨HS2⟩
      have HS : Bx (St w0 (boxA b1 5 53 (.agg #[.int .i64 0, .string ByteArray.empty, .string ByteArray.empty, .int .i64 0, .string ByteArray.empty]) :: F) _) := ⟨(((HS2.out.erase 2).erase 1).erase 0)⟩; refine ⟨HS.out, ?_⟩
      refine wh_done (by kernel_rfl) ?_
      replace HS := HS2; clear HS2
      replace HS:=Bx.mk (HS.out.pick 0 rfl)
      replace HS : Bx (St w0 (rdA rb ab n cb (B + 4) :: boxA b27 5 53 (.agg #[.int .i64 ((lit5).getD dn18 0), .string dt29, .string ByteArray.empty, .int .i64 0, .string ByteArray.empty]) :: rowA encI 1 3 (.slice (some ⟨b19, 0, none⟩) 12 12) (lit5) :: boxA b1 5 53 (.agg #[.int .i64 0, .string ByteArray.empty, .string ByteArray.empty, .int .i64 0, .string ByteArray.empty]) :: F) _) := ⟨HS.out.rdLe (by omega)⟩
      replace HS:=Bx.mk (((HS.out.pick 3 rfl).pick 2 rfl).pick 2 rfl)
      replace HS := Bx.mk ((HS.out.erase 3))
      exact on_mk ⟨_, ((lit5).getD dn18 0), dt29, ByteArray.empty, 0, ByteArray.empty, ⟨(by first | exact Nat.zero_le _ | (show ByteArray.size _ ≤ 100; first | omega | (rw [manyB_size]; show _ * 1 ≤ _; omega))), (by first | exact Nat.zero_le _ | (show ByteArray.size _ ≤ 100; first | omega | (rw [manyB_size]; show _ * 1 ≤ _; omega))), (by first | exact Nat.zero_le _ | (show ByteArray.size _ ≤ 100; first | omega | (rw [manyB_size]; show _ * 1 ≤ _; omega)))⟩, HF.less _ ⟨rfl, rfl, rfl, trivial⟩, HS.out⟩
   ·skip
    replace HS2:=Bx.mk (HS2.out.pick 0 rfl)
    refine wo_call rfl rfl HF rfl (enter_of Tryz.func147 (by kernel_rfl) rfl) (args := #[.pointer (some ⟨rb, 0, none⟩)]) rfl (l92Path_any w0 _ rb ab n cb bs hn hR (B + 1) (by omega) _ HS2.out) rfl rfl ?_
    rintro _ w75 ⟨dt30, rfl, ht30, hs1⟩
    refine ⟨_, rfl, ?_⟩; replace HS2 := Bx.mk hs1;clear hs1 HF a;intro a HF
    replace HS2 : Bx (St w0 (rdA rb ab n cb (B + 1 + 2) :: boxA b1 5 53 (.agg #[.int .i64 0, .string ByteArray.empty, .string ByteArray.empty, .int .i64 0, .string ByteArray.empty]) :: F) _) := ⟨HS2.out⟩
    clear HS; have HS : Bx (St w0 (boxA b1 5 53 (.agg #[.int .i64 0, .string ByteArray.empty, .string ByteArray.empty, .int .i64 0, .string ByteArray.empty]) :: F) _) := ⟨(HS2.out.erase 0)⟩; refine ⟨HS.out, ?_⟩
    refine wh_two 0 8 (by kernel_rfl) ?_ ?_
    ·skip
     refine wo_buildS (enc := encI) (e := 3) (size := 1) rfl rfl HF rfl rfl rfl (ps := [(0, .int .i64 1), (1, .int .i64 1), (2, .int .i64 2), (3, .int .i64 2), (4, .int .i64 3), (5, .int .i64 3), (6, .int .i64 3), (7, .int .i64 4), (8, .int .i64 5), (9, .int .i64 6), (10, .int .i64 7), (11, .int .i64 7)]) rfl (cells := [.int .i64 1, .int .i64 1, .int .i64 2, .int .i64 2, .int .i64 3, .int .i64 3, .int .i64 3, .int .i64 4, .int .i64 5, .int .i64 6, .int .i64 7, .int .i64 7]) (by kernel_rfl) lit5 rfl rfl (by unfold maxLen; omega) rfl HS2.out HS.out ?_; clear HF HS HS2 a; intro b31 a w77 HF HS2 HS; replace HS := Bx.mk HS; replace HS2 := Bx.mk HS2; refine ⟨HS.out, ?_⟩
     refine zh 3 rfl HF (fun _ HS => (yl_indexAddr (e := 3) (i := dn18) (size := 1) rfl (HF.ev rfl) (HF.ev rfl) (by kernel_rfl) rfl (by omega))) HS.out ?_;clear HF a;intro a HF
     refine wh_two 4 8 (by kernel_rfl) ?_ ?_
     ·skip
      refine wo_y rfl rfl HF rfl rfl (ylo (v := .int .i64 ((lit5).getD dn18 0)) rfl (HF.ev rfl) (HS2.out.elem1 encI_len 0 rfl (get_getD (xs := lit5) (j := dn18) (d := 0) (by (try simp only [List.length_cons, List.length_nil]); omega)) rfl)) ?_;clear HF a;intro a HF; refine ⟨HS.out, ?_⟩
      refine zh 7 rfl HF (fun _ HS => (yl_build HF rfl (ps := [(0, .int .i64 ((lit5).getD dn18 0)), (1, .string dt30)]) rfl (cs := #[.int .i64 ((lit5).getD dn18 0), .string dt30, .string ByteArray.empty, .int .i64 0, .string ByteArray.empty]) (by kernel_rfl))) HS.out ?_;clear HF a;intro a HF
      refine wh_one 8 (by kernel_rfl) ?_
      refine wo_alloc rfl rfl HF rfl rfl rfl (Z := [.int .i64 0, .string ByteArray.empty, .string ByteArray.empty, .int .i64 0, .string ByteArray.empty]) (by kernel_rfl) rfl HS2.out HS.out ?_; clear HF HS HS2 a; intro a w79 b32 HF HS2 HS; replace HS := Bx.mk HS; replace HS2 := Bx.mk HS2; refine ⟨HS.out, ?_⟩
      refine wh_one 9 (by kernel_rfl) ?_
      refine wo_storeBox rfl rfl rfl rfl (HF.ev rfl) (HF.ev rfl) HS2.out 0 rfl (cells_lit [.int .i64 ((lit5).getD dn18 0), .string dt30, .string ByteArray.empty, .int .i64 0, .string ByteArray.empty] rfl rfl) (by kernel_rfl) ?_
      clear HS HS2; intro w80 HS2; replace HS2 : Bx (St w0 (boxA b32 5 53 (.agg #[.int .i64 ((lit5).getD dn18 0), .string dt30, .string ByteArray.empty, .int .i64 0, .string ByteArray.empty]) :: rowA encI 1 3 (.slice (some ⟨b31, 0, none⟩) 12 12) (lit5) :: rdA rb ab n cb (B + 1 + 2) :: boxA b1 5 53 (.agg #[.int .i64 0, .string ByteArray.empty, .string ByteArray.empty, .int .i64 0, .string ByteArray.empty]) :: F) _) := ⟨HS2⟩
      have HS : Bx (St w0 (boxA b1 5 53 (.agg #[.int .i64 0, .string ByteArray.empty, .string ByteArray.empty, .int .i64 0, .string ByteArray.empty]) :: F) _) := ⟨(((HS2.out.erase 2).erase 1).erase 0)⟩; refine ⟨HS.out, ?_⟩
      refine wh_done (by kernel_rfl) ?_
      replace HS := HS2; clear HS2
      replace HS:=Bx.mk (HS.out.pick 2 rfl)
      replace HS : Bx (St w0 (rdA rb ab n cb (B + 4) :: boxA b32 5 53 (.agg #[.int .i64 ((lit5).getD dn18 0), .string dt30, .string ByteArray.empty, .int .i64 0, .string ByteArray.empty]) :: rowA encI 1 3 (.slice (some ⟨b31, 0, none⟩) 12 12) (lit5) :: boxA b1 5 53 (.agg #[.int .i64 0, .string ByteArray.empty, .string ByteArray.empty, .int .i64 0, .string ByteArray.empty]) :: F) _) := ⟨HS.out.rdLe (by omega)⟩
      replace HS:=Bx.mk (((HS.out.pick 3 rfl).pick 2 rfl).pick 2 rfl)
      replace HS := Bx.mk ((HS.out.erase 3))
      exact on_mk ⟨_, ((lit5).getD dn18 0), dt30, ByteArray.empty, 0, ByteArray.empty, ⟨(by first | exact Nat.zero_le _ | (show ByteArray.size _ ≤ 100; first | omega | (rw [manyB_size]; show _ * 1 ≤ _; omega))), (by first | exact Nat.zero_le _ | (show ByteArray.size _ ≤ 100; first | omega | (rw [manyB_size]; show _ * 1 ≤ _; omega))), (by first | exact Nat.zero_le _ | (show ByteArray.size _ ≤ 100; first | omega | (rw [manyB_size]; show _ * 1 ≤ _; omega)))⟩, HF.less _ ⟨rfl, rfl, rfl, trivial⟩, HS.out⟩
     ·skip
      refine wo_alloc rfl rfl HF rfl rfl rfl (Z := [.int .i64 0, .string ByteArray.empty, .string ByteArray.empty, .int .i64 0, .string ByteArray.empty]) (by kernel_rfl) rfl HS2.out HS.out ?_; clear HF HS HS2 a; intro a w81 b33 HF HS2 HS; replace HS := Bx.mk HS; replace HS2 := Bx.mk HS2; refine ⟨HS.out, ?_⟩
      refine wh_one 4 (by kernel_rfl) ?_
      refine wo_y rfl rfl HF rfl rfl (ylo (v := .int .i64 ((lit5).getD dn18 0)) rfl (HF.ev rfl) (HS2.out.elem1 encI_len 1 rfl (get_getD (xs := lit5) (j := dn18) (d := 0) (by (try simp only [List.length_cons, List.length_nil]); omega)) rfl)) ?_;clear HF a;intro a HF; refine ⟨HS.out, ?_⟩
      refine zh 7 rfl HF (fun _ HS => (yl_build HF rfl (ps := [(0, .int .i64 ((lit5).getD dn18 0)), (1, .string dt30)]) rfl (cs := #[.int .i64 ((lit5).getD dn18 0), .string dt30, .string ByteArray.empty, .int .i64 0, .string ByteArray.empty]) (by kernel_rfl))) HS.out ?_;clear HF a;intro a HF
      refine wh_one 9 (by kernel_rfl) ?_
      refine wo_storeBox rfl rfl rfl rfl (HF.ev rfl) (HF.ev rfl) HS2.out 0 rfl (cells_lit [.int .i64 ((lit5).getD dn18 0), .string dt30, .string ByteArray.empty, .int .i64 0, .string ByteArray.empty] rfl rfl) (by kernel_rfl) ?_
      clear HS HS2; intro w83 HS2; replace HS2 : Bx (St w0 (boxA b33 5 53 (.agg #[.int .i64 ((lit5).getD dn18 0), .string dt30, .string ByteArray.empty, .int .i64 0, .string ByteArray.empty]) :: rowA encI 1 3 (.slice (some ⟨b31, 0, none⟩) 12 12) (lit5) :: rdA rb ab n cb (B + 1 + 2) :: boxA b1 5 53 (.agg #[.int .i64 0, .string ByteArray.empty, .string ByteArray.empty, .int .i64 0, .string ByteArray.empty]) :: F) _) := ⟨HS2⟩
      have HS : Bx (St w0 (boxA b1 5 53 (.agg #[.int .i64 0, .string ByteArray.empty, .string ByteArray.empty, .int .i64 0, .string ByteArray.empty]) :: F) _) := ⟨(((HS2.out.erase 2).erase 1).erase 0)⟩; refine ⟨HS.out, ?_⟩
      refine wh_done (by kernel_rfl) ?_
      replace HS := HS2; clear HS2
      replace HS:=Bx.mk (HS.out.pick 2 rfl)
      replace HS : Bx (St w0 (rdA rb ab n cb (B + 4) :: boxA b33 5 53 (.agg #[.int .i64 ((lit5).getD dn18 0), .string dt30, .string ByteArray.empty, .int .i64 0, .string ByteArray.empty]) :: rowA encI 1 3 (.slice (some ⟨b31, 0, none⟩) 12 12) (lit5) :: boxA b1 5 53 (.agg #[.int .i64 0, .string ByteArray.empty, .string ByteArray.empty, .int .i64 0, .string ByteArray.empty]) :: F) _) := ⟨HS.out.rdLe (by omega)⟩
      replace HS:=Bx.mk (((HS.out.pick 3 rfl).pick 2 rfl).pick 2 rfl)
      replace HS := Bx.mk ((HS.out.erase 3))
      exact on_mk ⟨_, ((lit5).getD dn18 0), dt30, ByteArray.empty, 0, ByteArray.empty, ⟨(by first | exact Nat.zero_le _ | (show ByteArray.size _ ≤ 100; first | omega | (rw [manyB_size]; show _ * 1 ≤ _; omega))), (by first | exact Nat.zero_le _ | (show ByteArray.size _ ≤ 100; first | omega | (rw [manyB_size]; show _ * 1 ≤ _; omega))), (by first | exact Nat.zero_le _ | (show ByteArray.size _ ≤ 100; first | omega | (rw [manyB_size]; show _ * 1 ≤ _; omega)))⟩, HF.less _ ⟨rfl, rfl, rfl, trivial⟩, HS.out⟩
    ·skip
     refine wo_alloc rfl rfl HF rfl rfl rfl (Z := [.int .i64 0, .string ByteArray.empty, .string ByteArray.empty, .int .i64 0, .string ByteArray.empty]) (by kernel_rfl) rfl HS2.out HS.out ?_; clear HF HS HS2 a; intro a w84 b34 HF HS2 HS; replace HS := Bx.mk HS; replace HS2 := Bx.mk HS2; refine ⟨HS.out, ?_⟩
     refine wh_one 0 (by kernel_rfl) ?_
     refine wo_buildS (enc := encI) (e := 3) (size := 1) rfl rfl HF rfl rfl rfl (ps := [(0, .int .i64 1), (1, .int .i64 1), (2, .int .i64 2), (3, .int .i64 2), (4, .int .i64 3), (5, .int .i64 3), (6, .int .i64 3), (7, .int .i64 4), (8, .int .i64 5), (9, .int .i64 6), (10, .int .i64 7), (11, .int .i64 7)]) rfl (cells := [.int .i64 1, .int .i64 1, .int .i64 2, .int .i64 2, .int .i64 3, .int .i64 3, .int .i64 3, .int .i64 4, .int .i64 5, .int .i64 6, .int .i64 7, .int .i64 7]) (by kernel_rfl) lit5 rfl rfl (by unfold maxLen; omega) rfl HS2.out HS.out ?_; clear HF HS HS2 a; intro b35 a w86 HF HS2 HS; replace HS := Bx.mk HS; replace HS2 := Bx.mk HS2; refine ⟨HS.out, ?_⟩
     refine zh 3 rfl HF (fun _ HS => (yl_indexAddr (e := 3) (i := dn18) (size := 1) rfl (HF.ev rfl) (HF.ev rfl) (by kernel_rfl) rfl (by omega))) HS.out ?_;clear HF a;intro a HF
     refine wh_one 4 (by kernel_rfl) ?_
     refine wo_y rfl rfl HF rfl rfl (ylo (v := .int .i64 ((lit5).getD dn18 0)) rfl (HF.ev rfl) (HS2.out.elem1 encI_len 0 rfl (get_getD (xs := lit5) (j := dn18) (d := 0) (by (try simp only [List.length_cons, List.length_nil]); omega)) rfl)) ?_;clear HF a;intro a HF; refine ⟨HS.out, ?_⟩
     refine zh 7 rfl HF (fun _ HS => (yl_build HF rfl (ps := [(0, .int .i64 ((lit5).getD dn18 0)), (1, .string dt30)]) rfl (cs := #[.int .i64 ((lit5).getD dn18 0), .string dt30, .string ByteArray.empty, .int .i64 0, .string ByteArray.empty]) (by kernel_rfl))) HS.out ?_;clear HF a;intro a HF
     refine wh_one 9 (by kernel_rfl) ?_
     refine wo_storeBox rfl rfl rfl rfl (HF.ev rfl) (HF.ev rfl) HS2.out 1 rfl (cells_lit [.int .i64 ((lit5).getD dn18 0), .string dt30, .string ByteArray.empty, .int .i64 0, .string ByteArray.empty] rfl rfl) (by kernel_rfl) ?_
     clear HS HS2; intro w88 HS2; replace HS2 : Bx (St w0 (rowA encI 1 3 (.slice (some ⟨b35, 0, none⟩) 12 12) (lit5) :: boxA b34 5 53 (.agg #[.int .i64 ((lit5).getD dn18 0), .string dt30, .string ByteArray.empty, .int .i64 0, .string ByteArray.empty]) :: rdA rb ab n cb (B + 1 + 2) :: boxA b1 5 53 (.agg #[.int .i64 0, .string ByteArray.empty, .string ByteArray.empty, .int .i64 0, .string ByteArray.empty]) :: F) _) := ⟨HS2⟩
     have HS : Bx (St w0 (boxA b1 5 53 (.agg #[.int .i64 0, .string ByteArray.empty, .string ByteArray.empty, .int .i64 0, .string ByteArray.empty]) :: F) _) := ⟨(((HS2.out.erase 2).erase 1).erase 0)⟩; refine ⟨HS.out, ?_⟩
     refine wh_done (by kernel_rfl) ?_
     replace HS := HS2; clear HS2
     replace HS:=Bx.mk (HS.out.pick 2 rfl)
     replace HS : Bx (St w0 (rdA rb ab n cb (B + 4) :: rowA encI 1 3 (.slice (some ⟨b35, 0, none⟩) 12 12) (lit5) :: boxA b34 5 53 (.agg #[.int .i64 ((lit5).getD dn18 0), .string dt30, .string ByteArray.empty, .int .i64 0, .string ByteArray.empty]) :: boxA b1 5 53 (.agg #[.int .i64 0, .string ByteArray.empty, .string ByteArray.empty, .int .i64 0, .string ByteArray.empty]) :: F) _) := ⟨HS.out.rdLe (by omega)⟩
     replace HS:=Bx.mk (((HS.out.pick 3 rfl).pick 3 rfl).pick 2 rfl)
     replace HS := Bx.mk ((HS.out.erase 3))
     exact on_mk ⟨_, ((lit5).getD dn18 0), dt30, ByteArray.empty, 0, ByteArray.empty, ⟨(by first | exact Nat.zero_le _ | (show ByteArray.size _ ≤ 100; first | omega | (rw [manyB_size]; show _ * 1 ≤ _; omega))), (by first | exact Nat.zero_le _ | (show ByteArray.size _ ≤ 100; first | omega | (rw [manyB_size]; show _ * 1 ≤ _; omega))), (by first | exact Nat.zero_le _ | (show ByteArray.size _ ≤ 100; first | omega | (rw [manyB_size]; show _ * 1 ≤ _; omega)))⟩, HF.less _ ⟨rfl, rfl, rfl, trivial⟩, HS.out⟩
   ·skip
    refine wo_alloc rfl rfl HF rfl rfl rfl (Z := [.int .i64 0, .string ByteArray.empty, .string ByteArray.empty, .int .i64 0, .string ByteArray.empty]) (by kernel_rfl) rfl HS2.out HS.out ?_; clear HF HS HS2 a; intro a w89 b36 HF HS2 HS; replace HS := Bx.mk HS; replace HS2 := Bx.mk HS2; refine ⟨HS.out, ?_⟩
    refine wh_two 0 6 (by kernel_rfl) ?_ ?_
    ·skip
     refine wo_buildS (enc := encI) (e := 3) (size := 1) rfl rfl HF rfl rfl rfl (ps := [(0, .int .i64 1), (1, .int .i64 1), (2, .int .i64 2), (3, .int .i64 2), (4, .int .i64 3), (5, .int .i64 3), (6, .int .i64 3), (7, .int .i64 4), (8, .int .i64 5), (9, .int .i64 6), (10, .int .i64 7), (11, .int .i64 7)]) rfl (cells := [.int .i64 1, .int .i64 1, .int .i64 2, .int .i64 2, .int .i64 3, .int .i64 3, .int .i64 3, .int .i64 4, .int .i64 5, .int .i64 6, .int .i64 7, .int .i64 7]) (by kernel_rfl) lit5 rfl rfl (by unfold maxLen; omega) rfl HS2.out HS.out ?_; clear HF HS HS2 a; intro b37 a w91 HF HS2 HS; replace HS := Bx.mk HS; replace HS2 := Bx.mk HS2; refine ⟨HS.out, ?_⟩
     refine zh 3 rfl HF (fun _ HS => (yl_indexAddr (e := 3) (i := dn18) (size := 1) rfl (HF.ev rfl) (HF.ev rfl) (by kernel_rfl) rfl (by omega))) HS.out ?_;clear HF a;intro a HF
     refine wh_two 4 6 (by kernel_rfl) ?_ ?_
     ·skip
      refine wo_y rfl rfl HF rfl rfl (ylo (v := .int .i64 ((lit5).getD dn18 0)) rfl (HF.ev rfl) (HS2.out.elem1 encI_len 0 rfl (get_getD (xs := lit5) (j := dn18) (d := 0) (by (try simp only [List.length_cons, List.length_nil]); omega)) rfl)) ?_;clear HF a;intro a HF; refine ⟨HS.out, ?_⟩
      refine wh_one 6 (by kernel_rfl) ?_
      replace HS2:=Bx.mk (HS2.out.pick 2 rfl)
      refine wo_call rfl rfl HF rfl (enter_of Tryz.func147 (by kernel_rfl) rfl) (args := #[.pointer (some ⟨rb, 0, none⟩)]) rfl (l92Path_any w0 _ rb ab n cb bs hn hR (B + 1) (by omega) _ HS2.out) rfl rfl ?_
      rintro _ w94 ⟨dt38, rfl, ht38, hs1⟩
      refine ⟨_, rfl, ?_⟩; replace HS2 := Bx.mk hs1;clear hs1 HF a;intro a HF
      replace HS2 : Bx (St w0 (rdA rb ab n cb (B + 1 + 2) :: rowA encI 1 3 (.slice (some ⟨b37, 0, none⟩) 12 12) (lit5) :: boxA b36 5 53 (.agg #[.int .i64 0, .string ByteArray.empty, .string ByteArray.empty, .int .i64 0, .string ByteArray.empty]) :: boxA b1 5 53 (.agg #[.int .i64 0, .string ByteArray.empty, .string ByteArray.empty, .int .i64 0, .string ByteArray.empty]) :: F) _) := ⟨HS2.out⟩
      clear HS; have HS : Bx (St w0 (boxA b1 5 53 (.agg #[.int .i64 0, .string ByteArray.empty, .string ByteArray.empty, .int .i64 0, .string ByteArray.empty]) :: F) _) := ⟨(((HS2.out.erase 2).erase 1).erase 0)⟩; refine ⟨HS.out, ?_⟩
      refine zh 7 rfl HF (fun _ HS => (yl_build HF rfl (ps := [(0, .int .i64 ((lit5).getD dn18 0)), (1, .string dt38)]) rfl (cs := #[.int .i64 ((lit5).getD dn18 0), .string dt38, .string ByteArray.empty, .int .i64 0, .string ByteArray.empty]) (by kernel_rfl))) HS.out ?_;clear HF a;intro a HF
      refine wh_one 9 (by kernel_rfl) ?_
      refine wo_storeBox rfl rfl rfl rfl (HF.ev rfl) (HF.ev rfl) HS2.out 2 rfl (cells_lit [.int .i64 ((lit5).getD dn18 0), .string dt38, .string ByteArray.empty, .int .i64 0, .string ByteArray.empty] rfl rfl) (by kernel_rfl) ?_
      clear HS HS2; intro w95 HS2; replace HS2 : Bx (St w0 (rdA rb ab n cb (B + 1 + 2) :: rowA encI 1 3 (.slice (some ⟨b37, 0, none⟩) 12 12) (lit5) :: boxA b36 5 53 (.agg #[.int .i64 ((lit5).getD dn18 0), .string dt38, .string ByteArray.empty, .int .i64 0, .string ByteArray.empty]) :: boxA b1 5 53 (.agg #[.int .i64 0, .string ByteArray.empty, .string ByteArray.empty, .int .i64 0, .string ByteArray.empty]) :: F) _) := ⟨HS2⟩
      have HS : Bx (St w0 (boxA b1 5 53 (.agg #[.int .i64 0, .string ByteArray.empty, .string ByteArray.empty, .int .i64 0, .string ByteArray.empty]) :: F) _) := ⟨(((HS2.out.erase 2).erase 1).erase 0)⟩; refine ⟨HS.out, ?_⟩
      refine wh_done (by kernel_rfl) ?_
      replace HS := HS2; clear HS2
      replace HS:=Bx.mk (HS.out.pick 0 rfl)
      replace HS : Bx (St w0 (rdA rb ab n cb (B + 4) :: rowA encI 1 3 (.slice (some ⟨b37, 0, none⟩) 12 12) (lit5) :: boxA b36 5 53 (.agg #[.int .i64 ((lit5).getD dn18 0), .string dt38, .string ByteArray.empty, .int .i64 0, .string ByteArray.empty]) :: boxA b1 5 53 (.agg #[.int .i64 0, .string ByteArray.empty, .string ByteArray.empty, .int .i64 0, .string ByteArray.empty]) :: F) _) := ⟨HS.out.rdLe (by omega)⟩
      replace HS:=Bx.mk (((HS.out.pick 3 rfl).pick 3 rfl).pick 2 rfl)
      replace HS := Bx.mk ((HS.out.erase 3))
      exact on_mk ⟨_, ((lit5).getD dn18 0), dt38, ByteArray.empty, 0, ByteArray.empty, ⟨(by first | exact Nat.zero_le _ | (show ByteArray.size _ ≤ 100; first | omega | (rw [manyB_size]; show _ * 1 ≤ _; omega))), (by first | exact Nat.zero_le _ | (show ByteArray.size _ ≤ 100; first | omega | (rw [manyB_size]; show _ * 1 ≤ _; omega))), (by first | exact Nat.zero_le _ | (show ByteArray.size _ ≤ 100; first | omega | (rw [manyB_size]; show _ * 1 ≤ _; omega)))⟩, HF.less _ ⟨rfl, rfl, rfl, trivial⟩, HS.out⟩
     ·skip
      replace HS2:=Bx.mk (HS2.out.pick 2 rfl)
      refine wo_call rfl rfl HF rfl (enter_of Tryz.func147 (by kernel_rfl) rfl) (args := #[.pointer (some ⟨rb, 0, none⟩)]) rfl (l92Path_any w0 _ rb ab n cb bs hn hR (B + 1) (by omega) _ HS2.out) rfl rfl ?_
      rintro _ w97 ⟨dt39, rfl, ht39, hs1⟩
      refine ⟨_, rfl, ?_⟩; replace HS2 := Bx.mk hs1;clear hs1 HF a;intro a HF
      replace HS2 : Bx (St w0 (rdA rb ab n cb (B + 1 + 2) :: rowA encI 1 3 (.slice (some ⟨b37, 0, none⟩) 12 12) (lit5) :: boxA b36 5 53 (.agg #[.int .i64 0, .string ByteArray.empty, .string ByteArray.empty, .int .i64 0, .string ByteArray.empty]) :: boxA b1 5 53 (.agg #[.int .i64 0, .string ByteArray.empty, .string ByteArray.empty, .int .i64 0, .string ByteArray.empty]) :: F) _) := ⟨HS2.out⟩
      clear HS; have HS : Bx (St w0 (boxA b1 5 53 (.agg #[.int .i64 0, .string ByteArray.empty, .string ByteArray.empty, .int .i64 0, .string ByteArray.empty]) :: F) _) := ⟨(((HS2.out.erase 2).erase 1).erase 0)⟩; refine ⟨HS.out, ?_⟩
      refine wh_one 4 (by kernel_rfl) ?_
      refine wo_y rfl rfl HF rfl rfl (ylo (v := .int .i64 ((lit5).getD dn18 0)) rfl (HF.ev rfl) (HS2.out.elem1 encI_len 1 rfl (get_getD (xs := lit5) (j := dn18) (d := 0) (by (try simp only [List.length_cons, List.length_nil]); omega)) rfl)) ?_;clear HF a;intro a HF; refine ⟨HS.out, ?_⟩
      refine zh 7 rfl HF (fun _ HS => (yl_build HF rfl (ps := [(0, .int .i64 ((lit5).getD dn18 0)), (1, .string dt39)]) rfl (cs := #[.int .i64 ((lit5).getD dn18 0), .string dt39, .string ByteArray.empty, .int .i64 0, .string ByteArray.empty]) (by kernel_rfl))) HS.out ?_;clear HF a;intro a HF
      refine wh_one 9 (by kernel_rfl) ?_
      refine wo_storeBox rfl rfl rfl rfl (HF.ev rfl) (HF.ev rfl) HS2.out 2 rfl (cells_lit [.int .i64 ((lit5).getD dn18 0), .string dt39, .string ByteArray.empty, .int .i64 0, .string ByteArray.empty] rfl rfl) (by kernel_rfl) ?_
      clear HS HS2; intro w99 HS2; replace HS2 : Bx (St w0 (rdA rb ab n cb (B + 1 + 2) :: rowA encI 1 3 (.slice (some ⟨b37, 0, none⟩) 12 12) (lit5) :: boxA b36 5 53 (.agg #[.int .i64 ((lit5).getD dn18 0), .string dt39, .string ByteArray.empty, .int .i64 0, .string ByteArray.empty]) :: boxA b1 5 53 (.agg #[.int .i64 0, .string ByteArray.empty, .string ByteArray.empty, .int .i64 0, .string ByteArray.empty]) :: F) _) := ⟨HS2⟩
      have HS : Bx (St w0 (boxA b1 5 53 (.agg #[.int .i64 0, .string ByteArray.empty, .string ByteArray.empty, .int .i64 0, .string ByteArray.empty]) :: F) _) := ⟨(((HS2.out.erase 2).erase 1).erase 0)⟩; refine ⟨HS.out, ?_⟩
      refine wh_done (by kernel_rfl) ?_
      replace HS := HS2; clear HS2
      replace HS:=Bx.mk (HS.out.pick 0 rfl)
      replace HS : Bx (St w0 (rdA rb ab n cb (B + 4) :: rowA encI 1 3 (.slice (some ⟨b37, 0, none⟩) 12 12) (lit5) :: boxA b36 5 53 (.agg #[.int .i64 ((lit5).getD dn18 0), .string dt39, .string ByteArray.empty, .int .i64 0, .string ByteArray.empty]) :: boxA b1 5 53 (.agg #[.int .i64 0, .string ByteArray.empty, .string ByteArray.empty, .int .i64 0, .string ByteArray.empty]) :: F) _) := ⟨HS.out.rdLe (by omega)⟩
      replace HS:=Bx.mk (((HS.out.pick 3 rfl).pick 3 rfl).pick 2 rfl)
      replace HS := Bx.mk ((HS.out.erase 3))
      exact on_mk ⟨_, ((lit5).getD dn18 0), dt39, ByteArray.empty, 0, ByteArray.empty, ⟨(by first | exact Nat.zero_le _ | (show ByteArray.size _ ≤ 100; first | omega | (rw [manyB_size]; show _ * 1 ≤ _; omega))), (by first | exact Nat.zero_le _ | (show ByteArray.size _ ≤ 100; first | omega | (rw [manyB_size]; show _ * 1 ≤ _; omega))), (by first | exact Nat.zero_le _ | (show ByteArray.size _ ≤ 100; first | omega | (rw [manyB_size]; show _ * 1 ≤ _; omega)))⟩, HF.less _ ⟨rfl, rfl, rfl, trivial⟩, HS.out⟩
    ·skip
     replace HS2:=Bx.mk (HS2.out.pick 1 rfl)
     refine wo_call rfl rfl HF rfl (enter_of Tryz.func147 (by kernel_rfl) rfl) (args := #[.pointer (some ⟨rb, 0, none⟩)]) rfl (l92Path_any w0 _ rb ab n cb bs hn hR (B + 1) (by omega) _ HS2.out) rfl rfl ?_
     rintro _ w101 ⟨dt40, rfl, ht40, hs1⟩
     refine ⟨_, rfl, ?_⟩; replace HS2 := Bx.mk hs1;clear hs1 HF a;intro a HF
     replace HS2 : Bx (St w0 (rdA rb ab n cb (B + 1 + 2) :: boxA b36 5 53 (.agg #[.int .i64 0, .string ByteArray.empty, .string ByteArray.empty, .int .i64 0, .string ByteArray.empty]) :: boxA b1 5 53 (.agg #[.int .i64 0, .string ByteArray.empty, .string ByteArray.empty, .int .i64 0, .string ByteArray.empty]) :: F) _) := ⟨HS2.out⟩
     clear HS; have HS : Bx (St w0 (boxA b1 5 53 (.agg #[.int .i64 0, .string ByteArray.empty, .string ByteArray.empty, .int .i64 0, .string ByteArray.empty]) :: F) _) := ⟨((HS2.out.erase 1).erase 0)⟩; refine ⟨HS.out, ?_⟩
     refine wh_one 0 (by kernel_rfl) ?_
     refine wo_buildS (enc := encI) (e := 3) (size := 1) rfl rfl HF rfl rfl rfl (ps := [(0, .int .i64 1), (1, .int .i64 1), (2, .int .i64 2), (3, .int .i64 2), (4, .int .i64 3), (5, .int .i64 3), (6, .int .i64 3), (7, .int .i64 4), (8, .int .i64 5), (9, .int .i64 6), (10, .int .i64 7), (11, .int .i64 7)]) rfl (cells := [.int .i64 1, .int .i64 1, .int .i64 2, .int .i64 2, .int .i64 3, .int .i64 3, .int .i64 3, .int .i64 4, .int .i64 5, .int .i64 6, .int .i64 7, .int .i64 7]) (by kernel_rfl) lit5 rfl rfl (by unfold maxLen; omega) rfl HS2.out HS.out ?_; clear HF HS HS2 a; intro b41 a w103 HF HS2 HS; replace HS := Bx.mk HS; replace HS2 := Bx.mk HS2; refine ⟨HS.out, ?_⟩
     refine zh 3 rfl HF (fun _ HS => (yl_indexAddr (e := 3) (i := dn18) (size := 1) rfl (HF.ev rfl) (HF.ev rfl) (by kernel_rfl) rfl (by omega))) HS.out ?_;clear HF a;intro a HF
     refine wh_one 4 (by kernel_rfl) ?_
     refine wo_y rfl rfl HF rfl rfl (ylo (v := .int .i64 ((lit5).getD dn18 0)) rfl (HF.ev rfl) (HS2.out.elem1 encI_len 0 rfl (get_getD (xs := lit5) (j := dn18) (d := 0) (by (try simp only [List.length_cons, List.length_nil]); omega)) rfl)) ?_;clear HF a;intro a HF; refine ⟨HS.out, ?_⟩
     refine zh 7 rfl HF (fun _ HS => (yl_build HF rfl (ps := [(0, .int .i64 ((lit5).getD dn18 0)), (1, .string dt40)]) rfl (cs := #[.int .i64 ((lit5).getD dn18 0), .string dt40, .string ByteArray.empty, .int .i64 0, .string ByteArray.empty]) (by kernel_rfl))) HS.out ?_;clear HF a;intro a HF
     refine wh_one 9 (by kernel_rfl) ?_
     refine wo_storeBox rfl rfl rfl rfl (HF.ev rfl) (HF.ev rfl) HS2.out 2 rfl (cells_lit [.int .i64 ((lit5).getD dn18 0), .string dt40, .string ByteArray.empty, .int .i64 0, .string ByteArray.empty] rfl rfl) (by kernel_rfl) ?_
     clear HS HS2; intro w105 HS2; replace HS2 : Bx (St w0 (rowA encI 1 3 (.slice (some ⟨b41, 0, none⟩) 12 12) (lit5) :: rdA rb ab n cb (B + 1 + 2) :: boxA b36 5 53 (.agg #[.int .i64 ((lit5).getD dn18 0), .string dt40, .string ByteArray.empty, .int .i64 0, .string ByteArray.empty]) :: boxA b1 5 53 (.agg #[.int .i64 0, .string ByteArray.empty, .string ByteArray.empty, .int .i64 0, .string ByteArray.empty]) :: F) _) := ⟨HS2⟩
     have HS : Bx (St w0 (boxA b1 5 53 (.agg #[.int .i64 0, .string ByteArray.empty, .string ByteArray.empty, .int .i64 0, .string ByteArray.empty]) :: F) _) := ⟨(((HS2.out.erase 2).erase 1).erase 0)⟩; refine ⟨HS.out, ?_⟩
     refine wh_done (by kernel_rfl) ?_
     replace HS := HS2; clear HS2
     replace HS:=Bx.mk (HS.out.pick 1 rfl)
     replace HS : Bx (St w0 (rdA rb ab n cb (B + 4) :: rowA encI 1 3 (.slice (some ⟨b41, 0, none⟩) 12 12) (lit5) :: boxA b36 5 53 (.agg #[.int .i64 ((lit5).getD dn18 0), .string dt40, .string ByteArray.empty, .int .i64 0, .string ByteArray.empty]) :: boxA b1 5 53 (.agg #[.int .i64 0, .string ByteArray.empty, .string ByteArray.empty, .int .i64 0, .string ByteArray.empty]) :: F) _) := ⟨HS.out.rdLe (by omega)⟩
     replace HS:=Bx.mk (((HS.out.pick 3 rfl).pick 3 rfl).pick 2 rfl)
     replace HS := Bx.mk ((HS.out.erase 3))
     exact on_mk ⟨_, ((lit5).getD dn18 0), dt40, ByteArray.empty, 0, ByteArray.empty, ⟨(by first | exact Nat.zero_le _ | (show ByteArray.size _ ≤ 100; first | omega | (rw [manyB_size]; show _ * 1 ≤ _; omega))), (by first | exact Nat.zero_le _ | (show ByteArray.size _ ≤ 100; first | omega | (rw [manyB_size]; show _ * 1 ≤ _; omega))), (by first | exact Nat.zero_le _ | (show ByteArray.size _ ≤ 100; first | omega | (rw [manyB_size]; show _ * 1 ≤ _; omega)))⟩, HF.less _ ⟨rfl, rfl, rfl, trivial⟩, HS.out⟩
  ·skip
   refine wo_alloc rfl rfl HF rfl rfl rfl (Z := [.int .i64 0, .string ByteArray.empty, .string ByteArray.empty, .int .i64 0, .string ByteArray.empty]) (by kernel_rfl) rfl HS2.out HS.out ?_; clear HF HS HS2 a; intro a w106 b42 HF HS2 HS; replace HS := Bx.mk HS; replace HS2 := Bx.mk HS2; refine ⟨HS.out, ?_⟩
   refine wh_two 0 2 (by kernel_rfl) ?_ ?_
   ·skip
    refine wo_buildS (enc := encI) (e := 3) (size := 1) rfl rfl HF rfl rfl rfl (ps := [(0, .int .i64 1), (1, .int .i64 1), (2, .int .i64 2), (3, .int .i64 2), (4, .int .i64 3), (5, .int .i64 3), (6, .int .i64 3), (7, .int .i64 4), (8, .int .i64 5), (9, .int .i64 6), (10, .int .i64 7), (11, .int .i64 7)]) rfl (cells := [.int .i64 1, .int .i64 1, .int .i64 2, .int .i64 2, .int .i64 3, .int .i64 3, .int .i64 3, .int .i64 4, .int .i64 5, .int .i64 6, .int .i64 7, .int .i64 7]) (by kernel_rfl) lit5 rfl rfl (by unfold maxLen; omega) rfl HS2.out HS.out ?_; clear HF HS HS2 a; intro b43 a w108 HF HS2 HS; replace HS := Bx.mk HS; replace HS2 := Bx.mk HS2; refine ⟨HS.out, ?_⟩
    refine wh_one 2 (by kernel_rfl) ?_
    replace HS2:=Bx.mk (HS2.out.pick 3 rfl)
    refine wo_call rfl rfl HF rfl (enter_of Tryz.func94 (by kernel_rfl) rfl) (args := #[.pointer (some ⟨rb, 0, none⟩), .int .i64 12]) rfl (pickN w0 _ rb ab n cb bs hn hR B (by omega) 12 (by omega) _ HS2.out) rfl rfl ?_
    rintro _ w110 ⟨dn44, rfl, hu44, hs1⟩
    refine ⟨_, rfl, ?_⟩; replace HS2 := Bx.mk hs1;clear hs1 HF a;intro a HF
    replace HS2 : Bx (St w0 (rdA rb ab n cb (B + 1) :: rowA encI 1 3 (.slice (some ⟨b43, 0, none⟩) 12 12) (lit5) :: boxA b42 5 53 (.agg #[.int .i64 0, .string ByteArray.empty, .string ByteArray.empty, .int .i64 0, .string ByteArray.empty]) :: boxA b1 5 53 (.agg #[.int .i64 0, .string ByteArray.empty, .string ByteArray.empty, .int .i64 0, .string ByteArray.empty]) :: F) _) := ⟨HS2.out⟩
    clear HS; have HS : Bx (St w0 (boxA b1 5 53 (.agg #[.int .i64 0, .string ByteArray.empty, .string ByteArray.empty, .int .i64 0, .string ByteArray.empty]) :: F) _) := ⟨(((HS2.out.erase 2).erase 1).erase 0)⟩; refine ⟨HS.out, ?_⟩
    refine zh 3 rfl HF (fun _ HS => (yl_indexAddr (e := 3) (i := dn44) (size := 1) rfl (HF.ev rfl) (HF.ev rfl) (by kernel_rfl) rfl (by omega))) HS.out ?_;clear HF a;intro a HF
    refine wh_two 4 6 (by kernel_rfl) ?_ ?_
    ·skip
     refine wo_y rfl rfl HF rfl rfl (ylo (v := .int .i64 ((lit5).getD dn44 0)) rfl (HF.ev rfl) (HS2.out.elem1 encI_len 1 rfl (get_getD (xs := lit5) (j := dn44) (d := 0) (by (try simp only [List.length_cons, List.length_nil]); omega)) rfl)) ?_;clear HF a;intro a HF; refine ⟨HS.out, ?_⟩
     refine wh_one 6 (by kernel_rfl) ?_
     replace HS2:=Bx.mk (HS2.out.pick 0 rfl)
     refine wo_call rfl rfl HF rfl (enter_of Tryz.func147 (by kernel_rfl) rfl) (args := #[.pointer (some ⟨rb, 0, none⟩)]) rfl (l92Path_any w0 _ rb ab n cb bs hn hR (B + 1) (by omega) _ HS2.out) rfl rfl ?_
     rintro _ w113 ⟨dt45, rfl, ht45, hs1⟩
     refine ⟨_, rfl, ?_⟩; replace HS2 := Bx.mk hs1;clear hs1 HF a;intro a HF
     replace HS2 : Bx (St w0 (rdA rb ab n cb (B + 1 + 2) :: rowA encI 1 3 (.slice (some ⟨b43, 0, none⟩) 12 12) (lit5) :: boxA b42 5 53 (.agg #[.int .i64 0, .string ByteArray.empty, .string ByteArray.empty, .int .i64 0, .string ByteArray.empty]) :: boxA b1 5 53 (.agg #[.int .i64 0, .string ByteArray.empty, .string ByteArray.empty, .int .i64 0, .string ByteArray.empty]) :: F) _) := ⟨HS2.out⟩
     clear HS; have HS : Bx (St w0 (boxA b1 5 53 (.agg #[.int .i64 0, .string ByteArray.empty, .string ByteArray.empty, .int .i64 0, .string ByteArray.empty]) :: F) _) := ⟨(((HS2.out.erase 2).erase 1).erase 0)⟩; refine ⟨HS.out, ?_⟩
     refine zh 7 rfl HF (fun _ HS => (yl_build HF rfl (ps := [(0, .int .i64 ((lit5).getD dn44 0)), (1, .string dt45)]) rfl (cs := #[.int .i64 ((lit5).getD dn44 0), .string dt45, .string ByteArray.empty, .int .i64 0, .string ByteArray.empty]) (by kernel_rfl))) HS.out ?_;clear HF a;intro a HF
     refine wh_one 9 (by kernel_rfl) ?_
     refine wo_storeBox rfl rfl rfl rfl (HF.ev rfl) (HF.ev rfl) HS2.out 2 rfl (cells_lit [.int .i64 ((lit5).getD dn44 0), .string dt45, .string ByteArray.empty, .int .i64 0, .string ByteArray.empty] rfl rfl) (by kernel_rfl) ?_
     clear HS HS2; intro w114 HS2; replace HS2 : Bx (St w0 (rdA rb ab n cb (B + 1 + 2) :: rowA encI 1 3 (.slice (some ⟨b43, 0, none⟩) 12 12) (lit5) :: boxA b42 5 53 (.agg #[.int .i64 ((lit5).getD dn44 0), .string dt45, .string ByteArray.empty, .int .i64 0, .string ByteArray.empty]) :: boxA b1 5 53 (.agg #[.int .i64 0, .string ByteArray.empty, .string ByteArray.empty, .int .i64 0, .string ByteArray.empty]) :: F) _) := ⟨HS2⟩
     have HS : Bx (St w0 (boxA b1 5 53 (.agg #[.int .i64 0, .string ByteArray.empty, .string ByteArray.empty, .int .i64 0, .string ByteArray.empty]) :: F) _) := ⟨(((HS2.out.erase 2).erase 1).erase 0)⟩; refine ⟨HS.out, ?_⟩
     refine wh_done (by kernel_rfl) ?_
     replace HS := HS2; clear HS2
     replace HS:=Bx.mk (HS.out.pick 0 rfl)
     replace HS : Bx (St w0 (rdA rb ab n cb (B + 4) :: rowA encI 1 3 (.slice (some ⟨b43, 0, none⟩) 12 12) (lit5) :: boxA b42 5 53 (.agg #[.int .i64 ((lit5).getD dn44 0), .string dt45, .string ByteArray.empty, .int .i64 0, .string ByteArray.empty]) :: boxA b1 5 53 (.agg #[.int .i64 0, .string ByteArray.empty, .string ByteArray.empty, .int .i64 0, .string ByteArray.empty]) :: F) _) := ⟨HS.out.rdLe (by omega)⟩
     replace HS:=Bx.mk (((HS.out.pick 3 rfl).pick 3 rfl).pick 2 rfl)
     replace HS := Bx.mk ((HS.out.erase 3))
     exact on_mk ⟨_, ((lit5).getD dn44 0), dt45, ByteArray.empty, 0, ByteArray.empty, ⟨(by first | exact Nat.zero_le _ | (show ByteArray.size _ ≤ 100; first | omega | (rw [manyB_size]; show _ * 1 ≤ _; omega))), (by first | exact Nat.zero_le _ | (show ByteArray.size _ ≤ 100; first | omega | (rw [manyB_size]; show _ * 1 ≤ _; omega))), (by first | exact Nat.zero_le _ | (show ByteArray.size _ ≤ 100; first | omega | (rw [manyB_size]; show _ * 1 ≤ _; omega)))⟩, HF.less _ ⟨rfl, rfl, rfl, trivial⟩, HS.out⟩
    ·skip
     replace HS2:=Bx.mk (HS2.out.pick 0 rfl)
     refine wo_call rfl rfl HF rfl (enter_of Tryz.func147 (by kernel_rfl) rfl) (args := #[.pointer (some ⟨rb, 0, none⟩)]) rfl (l92Path_any w0 _ rb ab n cb bs hn hR (B + 1) (by omega) _ HS2.out) rfl rfl ?_
     rintro _ w116 ⟨dt46, rfl, ht46, hs1⟩
     refine ⟨_, rfl, ?_⟩; replace HS2 := Bx.mk hs1;clear hs1 HF a;intro a HF
     replace HS2 : Bx (St w0 (rdA rb ab n cb (B + 1 + 2) :: rowA encI 1 3 (.slice (some ⟨b43, 0, none⟩) 12 12) (lit5) :: boxA b42 5 53 (.agg #[.int .i64 0, .string ByteArray.empty, .string ByteArray.empty, .int .i64 0, .string ByteArray.empty]) :: boxA b1 5 53 (.agg #[.int .i64 0, .string ByteArray.empty, .string ByteArray.empty, .int .i64 0, .string ByteArray.empty]) :: F) _) := ⟨HS2.out⟩
     clear HS; have HS : Bx (St w0 (boxA b1 5 53 (.agg #[.int .i64 0, .string ByteArray.empty, .string ByteArray.empty, .int .i64 0, .string ByteArray.empty]) :: F) _) := ⟨(((HS2.out.erase 2).erase 1).erase 0)⟩; refine ⟨HS.out, ?_⟩
     refine wh_one 4 (by kernel_rfl) ?_
     refine wo_y rfl rfl HF rfl rfl (ylo (v := .int .i64 ((lit5).getD dn44 0)) rfl (HF.ev rfl) (HS2.out.elem1 encI_len 1 rfl (get_getD (xs := lit5) (j := dn44) (d := 0) (by (try simp only [List.length_cons, List.length_nil]); omega)) rfl)) ?_;clear HF a;intro a HF; refine ⟨HS.out, ?_⟩
     refine zh 7 rfl HF (fun _ HS => (yl_build HF rfl (ps := [(0, .int .i64 ((lit5).getD dn44 0)), (1, .string dt46)]) rfl (cs := #[.int .i64 ((lit5).getD dn44 0), .string dt46, .string ByteArray.empty, .int .i64 0, .string ByteArray.empty]) (by kernel_rfl))) HS.out ?_;clear HF a;intro a HF
     refine wh_one 9 (by kernel_rfl) ?_
     refine wo_storeBox rfl rfl rfl rfl (HF.ev rfl) (HF.ev rfl) HS2.out 2 rfl (cells_lit [.int .i64 ((lit5).getD dn44 0), .string dt46, .string ByteArray.empty, .int .i64 0, .string ByteArray.empty] rfl rfl) (by kernel_rfl) ?_
     clear HS HS2; intro w118 HS2; replace HS2 : Bx (St w0 (rdA rb ab n cb (B + 1 + 2) :: rowA encI 1 3 (.slice (some ⟨b43, 0, none⟩) 12 12) (lit5) :: boxA b42 5 53 (.agg #[.int .i64 ((lit5).getD dn44 0), .string dt46, .string ByteArray.empty, .int .i64 0, .string ByteArray.empty]) :: boxA b1 5 53 (.agg #[.int .i64 0, .string ByteArray.empty, .string ByteArray.empty, .int .i64 0, .string ByteArray.empty]) :: F) _) := ⟨HS2⟩
     have HS : Bx (St w0 (boxA b1 5 53 (.agg #[.int .i64 0, .string ByteArray.empty, .string ByteArray.empty, .int .i64 0, .string ByteArray.empty]) :: F) _) := ⟨(((HS2.out.erase 2).erase 1).erase 0)⟩; refine ⟨HS.out, ?_⟩
     refine wh_done (by kernel_rfl) ?_
     replace HS := HS2; clear HS2
     replace HS:=Bx.mk (HS.out.pick 0 rfl)
     replace HS : Bx (St w0 (rdA rb ab n cb (B + 4) :: rowA encI 1 3 (.slice (some ⟨b43, 0, none⟩) 12 12) (lit5) :: boxA b42 5 53 (.agg #[.int .i64 ((lit5).getD dn44 0), .string dt46, .string ByteArray.empty, .int .i64 0, .string ByteArray.empty]) :: boxA b1 5 53 (.agg #[.int .i64 0, .string ByteArray.empty, .string ByteArray.empty, .int .i64 0, .string ByteArray.empty]) :: F) _) := ⟨HS.out.rdLe (by omega)⟩
     replace HS:=Bx.mk (((HS.out.pick 3 rfl).pick 3 rfl).pick 2 rfl)
     replace HS := Bx.mk ((HS.out.erase 3))
     exact on_mk ⟨_, ((lit5).getD dn44 0), dt46, ByteArray.empty, 0, ByteArray.empty, ⟨(by first | exact Nat.zero_le _ | (show ByteArray.size _ ≤ 100; first | omega | (rw [manyB_size]; show _ * 1 ≤ _; omega))), (by first | exact Nat.zero_le _ | (show ByteArray.size _ ≤ 100; first | omega | (rw [manyB_size]; show _ * 1 ≤ _; omega))), (by first | exact Nat.zero_le _ | (show ByteArray.size _ ≤ 100; first | omega | (rw [manyB_size]; show _ * 1 ≤ _; omega)))⟩, HF.less _ ⟨rfl, rfl, rfl, trivial⟩, HS.out⟩
   ·skip
    replace HS2:=Bx.mk (HS2.out.pick 2 rfl)
    refine wo_call rfl rfl HF rfl (enter_of Tryz.func94 (by kernel_rfl) rfl) (args := #[.pointer (some ⟨rb, 0, none⟩), .int .i64 12]) rfl (pickN w0 _ rb ab n cb bs hn hR B (by omega) 12 (by omega) _ HS2.out) rfl rfl ?_
    rintro _ w120 ⟨dn47, rfl, hu47, hs1⟩
    refine ⟨_, rfl, ?_⟩; replace HS2 := Bx.mk hs1;clear hs1 HF a;intro a HF
    replace HS2 : Bx (St w0 (rdA rb ab n cb (B + 1) :: boxA b42 5 53 (.agg #[.int .i64 0, .string ByteArray.empty, .string ByteArray.empty, .int .i64 0, .string ByteArray.empty]) :: boxA b1 5 53 (.agg #[.int .i64 0, .string ByteArray.empty, .string ByteArray.empty, .int .i64 0, .string ByteArray.empty]) :: F) _) := ⟨HS2.out⟩
    clear HS; have HS : Bx (St w0 (boxA b1 5 53 (.agg #[.int .i64 0, .string ByteArray.empty, .string ByteArray.empty, .int .i64 0, .string ByteArray.empty]) :: F) _) := ⟨((HS2.out.erase 1).erase 0)⟩; refine ⟨HS.out, ?_⟩
    refine wh_two 0 6 (by kernel_rfl) ?_ ?_
    ·skip
     refine wo_buildS (enc := encI) (e := 3) (size := 1) rfl rfl HF rfl rfl rfl (ps := [(0, .int .i64 1), (1, .int .i64 1), (2, .int .i64 2), (3, .int .i64 2), (4, .int .i64 3), (5, .int .i64 3), (6, .int .i64 3), (7, .int .i64 4), (8, .int .i64 5), (9, .int .i64 6), (10, .int .i64 7), (11, .int .i64 7)]) rfl (cells := [.int .i64 1, .int .i64 1, .int .i64 2, .int .i64 2, .int .i64 3, .int .i64 3, .int .i64 3, .int .i64 4, .int .i64 5, .int .i64 6, .int .i64 7, .int .i64 7]) (by kernel_rfl) lit5 rfl rfl (by unfold maxLen; omega) rfl HS2.out HS.out ?_; clear HF HS HS2 a; intro b48 a w122 HF HS2 HS; replace HS := Bx.mk HS; replace HS2 := Bx.mk HS2; refine ⟨HS.out, ?_⟩
     refine zh 3 rfl HF (fun _ HS => (yl_indexAddr (e := 3) (i := dn47) (size := 1) rfl (HF.ev rfl) (HF.ev rfl) (by kernel_rfl) rfl (by omega))) HS.out ?_;clear HF a;intro a HF
     refine wh_two 4 6 (by kernel_rfl) ?_ ?_
     ·skip
      refine wo_y rfl rfl HF rfl rfl (ylo (v := .int .i64 ((lit5).getD dn47 0)) rfl (HF.ev rfl) (HS2.out.elem1 encI_len 0 rfl (get_getD (xs := lit5) (j := dn47) (d := 0) (by (try simp only [List.length_cons, List.length_nil]); omega)) rfl)) ?_;clear HF a;intro a HF; refine ⟨HS.out, ?_⟩
      refine wh_one 6 (by kernel_rfl) ?_
      replace HS2:=Bx.mk (HS2.out.pick 1 rfl)
      refine wo_call rfl rfl HF rfl (enter_of Tryz.func147 (by kernel_rfl) rfl) (args := #[.pointer (some ⟨rb, 0, none⟩)]) rfl (l92Path_any w0 _ rb ab n cb bs hn hR (B + 1) (by omega) _ HS2.out) rfl rfl ?_
      rintro _ w125 ⟨dt49, rfl, ht49, hs1⟩
      refine ⟨_, rfl, ?_⟩; replace HS2 := Bx.mk hs1;clear hs1 HF a;intro a HF
      replace HS2 : Bx (St w0 (rdA rb ab n cb (B + 1 + 2) :: rowA encI 1 3 (.slice (some ⟨b48, 0, none⟩) 12 12) (lit5) :: boxA b42 5 53 (.agg #[.int .i64 0, .string ByteArray.empty, .string ByteArray.empty, .int .i64 0, .string ByteArray.empty]) :: boxA b1 5 53 (.agg #[.int .i64 0, .string ByteArray.empty, .string ByteArray.empty, .int .i64 0, .string ByteArray.empty]) :: F) _) := ⟨HS2.out⟩
      clear HS; have HS : Bx (St w0 (boxA b1 5 53 (.agg #[.int .i64 0, .string ByteArray.empty, .string ByteArray.empty, .int .i64 0, .string ByteArray.empty]) :: F) _) := ⟨(((HS2.out.erase 2).erase 1).erase 0)⟩; refine ⟨HS.out, ?_⟩
      refine zh 7 rfl HF (fun _ HS => (yl_build HF rfl (ps := [(0, .int .i64 ((lit5).getD dn47 0)), (1, .string dt49)]) rfl (cs := #[.int .i64 ((lit5).getD dn47 0), .string dt49, .string ByteArray.empty, .int .i64 0, .string ByteArray.empty]) (by kernel_rfl))) HS.out ?_;clear HF a;intro a HF
      refine wh_one 9 (by kernel_rfl) ?_
      refine wo_storeBox rfl rfl rfl rfl (HF.ev rfl) (HF.ev rfl) HS2.out 2 rfl (cells_lit [.int .i64 ((lit5).getD dn47 0), .string dt49, .string ByteArray.empty, .int .i64 0, .string ByteArray.empty] rfl rfl) (by kernel_rfl) ?_
      clear HS HS2; intro w126 HS2; replace HS2 : Bx (St w0 (rdA rb ab n cb (B + 1 + 2) :: rowA encI 1 3 (.slice (some ⟨b48, 0, none⟩) 12 12) (lit5) :: boxA b42 5 53 (.agg #[.int .i64 ((lit5).getD dn47 0), .string dt49, .string ByteArray.empty, .int .i64 0, .string ByteArray.empty]) :: boxA b1 5 53 (.agg #[.int .i64 0, .string ByteArray.empty, .string ByteArray.empty, .int .i64 0, .string ByteArray.empty]) :: F) _) := ⟨HS2⟩
      have HS : Bx (St w0 (boxA b1 5 53 (.agg #[.int .i64 0, .string ByteArray.empty, .string ByteArray.empty, .int .i64 0, .string ByteArray.empty]) :: F) _) := ⟨(((HS2.out.erase 2).erase 1).erase 0)⟩; refine ⟨HS.out, ?_⟩
      refine wh_done (by kernel_rfl) ?_
      replace HS := HS2; clear HS2
      replace HS:=Bx.mk (HS.out.pick 0 rfl)
      replace HS : Bx (St w0 (rdA rb ab n cb (B + 4) :: rowA encI 1 3 (.slice (some ⟨b48, 0, none⟩) 12 12) (lit5) :: boxA b42 5 53 (.agg #[.int .i64 ((lit5).getD dn47 0), .string dt49, .string ByteArray.empty, .int .i64 0, .string ByteArray.empty]) :: boxA b1 5 53 (.agg #[.int .i64 0, .string ByteArray.empty, .string ByteArray.empty, .int .i64 0, .string ByteArray.empty]) :: F) _) := ⟨HS.out.rdLe (by omega)⟩
      replace HS:=Bx.mk (((HS.out.pick 3 rfl).pick 3 rfl).pick 2 rfl)
      replace HS := Bx.mk ((HS.out.erase 3))
      exact on_mk ⟨_, ((lit5).getD dn47 0), dt49, ByteArray.empty, 0, ByteArray.empty, ⟨(by first | exact Nat.zero_le _ | (show ByteArray.size _ ≤ 100; first | omega | (rw [manyB_size]; show _ * 1 ≤ _; omega))), (by first | exact Nat.zero_le _ | (show ByteArray.size _ ≤ 100; first | omega | (rw [manyB_size]; show _ * 1 ≤ _; omega))), (by first | exact Nat.zero_le _ | (show ByteArray.size _ ≤ 100; first | omega | (rw [manyB_size]; show _ * 1 ≤ _; omega)))⟩, HF.less _ ⟨rfl, rfl, rfl, trivial⟩, HS.out⟩
     ·skip
      replace HS2:=Bx.mk (HS2.out.pick 1 rfl)
      refine wo_call rfl rfl HF rfl (enter_of Tryz.func147 (by kernel_rfl) rfl) (args := #[.pointer (some ⟨rb, 0, none⟩)]) rfl (l92Path_any w0 _ rb ab n cb bs hn hR (B + 1) (by omega) _ HS2.out) rfl rfl ?_
      rintro _ w128 ⟨dt50, rfl, ht50, hs1⟩
      refine ⟨_, rfl, ?_⟩; replace HS2 := Bx.mk hs1;clear hs1 HF a;intro a HF
      replace HS2 : Bx (St w0 (rdA rb ab n cb (B + 1 + 2) :: rowA encI 1 3 (.slice (some ⟨b48, 0, none⟩) 12 12) (lit5) :: boxA b42 5 53 (.agg #[.int .i64 0, .string ByteArray.empty, .string ByteArray.empty, .int .i64 0, .string ByteArray.empty]) :: boxA b1 5 53 (.agg #[.int .i64 0, .string ByteArray.empty, .string ByteArray.empty, .int .i64 0, .string ByteArray.empty]) :: F) _) := ⟨HS2.out⟩
      clear HS; have HS : Bx (St w0 (boxA b1 5 53 (.agg #[.int .i64 0, .string ByteArray.empty, .string ByteArray.empty, .int .i64 0, .string ByteArray.empty]) :: F) _) := ⟨(((HS2.out.erase 2).erase 1).erase 0)⟩; refine ⟨HS.out, ?_⟩
      refine wh_one 4 (by kernel_rfl) ?_
      refine wo_y rfl rfl HF rfl rfl (ylo (v := .int .i64 ((lit5).getD dn47 0)) rfl (HF.ev rfl) (HS2.out.elem1 encI_len 1 rfl (get_getD (xs := lit5) (j := dn47) (d := 0) (by (try simp only [List.length_cons, List.length_nil]); omega)) rfl)) ?_;clear HF a;intro a HF; refine ⟨HS.out, ?_⟩
      refine zh 7 rfl HF (fun _ HS => (yl_build HF rfl (ps := [(0, .int .i64 ((lit5).getD dn47 0)), (1, .string dt50)]) rfl (cs := #[.int .i64 ((lit5).getD dn47 0), .string dt50, .string ByteArray.empty, .int .i64 0, .string ByteArray.empty]) (by kernel_rfl))) HS.out ?_;clear HF a;intro a HF
      refine wh_one 9 (by kernel_rfl) ?_
      refine wo_storeBox rfl rfl rfl rfl (HF.ev rfl) (HF.ev rfl) HS2.out 2 rfl (cells_lit [.int .i64 ((lit5).getD dn47 0), .string dt50, .string ByteArray.empty, .int .i64 0, .string ByteArray.empty] rfl rfl) (by kernel_rfl) ?_
      clear HS HS2; intro w130 HS2; replace HS2 : Bx (St w0 (rdA rb ab n cb (B + 1 + 2) :: rowA encI 1 3 (.slice (some ⟨b48, 0, none⟩) 12 12) (lit5) :: boxA b42 5 53 (.agg #[.int .i64 ((lit5).getD dn47 0), .string dt50, .string ByteArray.empty, .int .i64 0, .string ByteArray.empty]) :: boxA b1 5 53 (.agg #[.int .i64 0, .string ByteArray.empty, .string ByteArray.empty, .int .i64 0, .string ByteArray.empty]) :: F) _) := ⟨HS2⟩
      have HS : Bx (St w0 (boxA b1 5 53 (.agg #[.int .i64 0, .string ByteArray.empty, .string ByteArray.empty, .int .i64 0, .string ByteArray.empty]) :: F) _) := ⟨(((HS2.out.erase 2).erase 1).erase 0)⟩; refine ⟨HS.out, ?_⟩
      refine wh_done (by kernel_rfl) ?_
      replace HS := HS2; clear HS2
      replace HS:=Bx.mk (HS.out.pick 0 rfl)
      replace HS : Bx (St w0 (rdA rb ab n cb (B + 4) :: rowA encI 1 3 (.slice (some ⟨b48, 0, none⟩) 12 12) (lit5) :: boxA b42 5 53 (.agg #[.int .i64 ((lit5).getD dn47 0), .string dt50, .string ByteArray.empty, .int .i64 0, .string ByteArray.empty]) :: boxA b1 5 53 (.agg #[.int .i64 0, .string ByteArray.empty, .string ByteArray.empty, .int .i64 0, .string ByteArray.empty]) :: F) _) := ⟨HS.out.rdLe (by omega)⟩
      replace HS:=Bx.mk (((HS.out.pick 3 rfl).pick 3 rfl).pick 2 rfl)
      replace HS := Bx.mk ((HS.out.erase 3))
      exact on_mk ⟨_, ((lit5).getD dn47 0), dt50, ByteArray.empty, 0, ByteArray.empty, ⟨(by first | exact Nat.zero_le _ | (show ByteArray.size _ ≤ 100; first | omega | (rw [manyB_size]; show _ * 1 ≤ _; omega))), (by first | exact Nat.zero_le _ | (show ByteArray.size _ ≤ 100; first | omega | (rw [manyB_size]; show _ * 1 ≤ _; omega))), (by first | exact Nat.zero_le _ | (show ByteArray.size _ ≤ 100; first | omega | (rw [manyB_size]; show _ * 1 ≤ _; omega)))⟩, HF.less _ ⟨rfl, rfl, rfl, trivial⟩, HS.out⟩
    ·skip
     replace HS2:=Bx.mk (HS2.out.pick 0 rfl)
     refine wo_call rfl rfl HF rfl (enter_of Tryz.func147 (by kernel_rfl) rfl) (args := #[.pointer (some ⟨rb, 0, none⟩)]) rfl (l92Path_any w0 _ rb ab n cb bs hn hR (B + 1) (by omega) _ HS2.out) rfl rfl ?_
     rintro _ w132 ⟨dt51, rfl, ht51, hs1⟩
     refine ⟨_, rfl, ?_⟩; replace HS2 := Bx.mk hs1;clear hs1 HF a;intro a HF
     replace HS2 : Bx (St w0 (rdA rb ab n cb (B + 1 + 2) :: boxA b42 5 53 (.agg #[.int .i64 0, .string ByteArray.empty, .string ByteArray.empty, .int .i64 0, .string ByteArray.empty]) :: boxA b1 5 53 (.agg #[.int .i64 0, .string ByteArray.empty, .string ByteArray.empty, .int .i64 0, .string ByteArray.empty]) :: F) _) := ⟨HS2.out⟩
     clear HS; have HS : Bx (St w0 (boxA b1 5 53 (.agg #[.int .i64 0, .string ByteArray.empty, .string ByteArray.empty, .int .i64 0, .string ByteArray.empty]) :: F) _) := ⟨((HS2.out.erase 1).erase 0)⟩; refine ⟨HS.out, ?_⟩
     refine wh_one 0 (by kernel_rfl) ?_
     refine wo_buildS (enc := encI) (e := 3) (size := 1) rfl rfl HF rfl rfl rfl (ps := [(0, .int .i64 1), (1, .int .i64 1), (2, .int .i64 2), (3, .int .i64 2), (4, .int .i64 3), (5, .int .i64 3), (6, .int .i64 3), (7, .int .i64 4), (8, .int .i64 5), (9, .int .i64 6), (10, .int .i64 7), (11, .int .i64 7)]) rfl (cells := [.int .i64 1, .int .i64 1, .int .i64 2, .int .i64 2, .int .i64 3, .int .i64 3, .int .i64 3, .int .i64 4, .int .i64 5, .int .i64 6, .int .i64 7, .int .i64 7]) (by kernel_rfl) lit5 rfl rfl (by unfold maxLen; omega) rfl HS2.out HS.out ?_; clear HF HS HS2 a; intro b52 a w134 HF HS2 HS; replace HS := Bx.mk HS; replace HS2 := Bx.mk HS2; refine ⟨HS.out, ?_⟩
     refine zh 3 rfl HF (fun _ HS => (yl_indexAddr (e := 3) (i := dn47) (size := 1) rfl (HF.ev rfl) (HF.ev rfl) (by kernel_rfl) rfl (by omega))) HS.out ?_;clear HF a;intro a HF
     refine wh_one 4 (by kernel_rfl) ?_
     refine wo_y rfl rfl HF rfl rfl (ylo (v := .int .i64 ((lit5).getD dn47 0)) rfl (HF.ev rfl) (HS2.out.elem1 encI_len 0 rfl (get_getD (xs := lit5) (j := dn47) (d := 0) (by (try simp only [List.length_cons, List.length_nil]); omega)) rfl)) ?_;clear HF a;intro a HF; refine ⟨HS.out, ?_⟩
     refine zh 7 rfl HF (fun _ HS => (yl_build HF rfl (ps := [(0, .int .i64 ((lit5).getD dn47 0)), (1, .string dt51)]) rfl (cs := #[.int .i64 ((lit5).getD dn47 0), .string dt51, .string ByteArray.empty, .int .i64 0, .string ByteArray.empty]) (by kernel_rfl))) HS.out ?_;clear HF a;intro a HF
     refine wh_one 9 (by kernel_rfl) ?_
     refine wo_storeBox rfl rfl rfl rfl (HF.ev rfl) (HF.ev rfl) HS2.out 2 rfl (cells_lit [.int .i64 ((lit5).getD dn47 0), .string dt51, .string ByteArray.empty, .int .i64 0, .string ByteArray.empty] rfl rfl) (by kernel_rfl) ?_
     clear HS HS2; intro w136 HS2; replace HS2 : Bx (St w0 (rowA encI 1 3 (.slice (some ⟨b52, 0, none⟩) 12 12) (lit5) :: rdA rb ab n cb (B + 1 + 2) :: boxA b42 5 53 (.agg #[.int .i64 ((lit5).getD dn47 0), .string dt51, .string ByteArray.empty, .int .i64 0, .string ByteArray.empty]) :: boxA b1 5 53 (.agg #[.int .i64 0, .string ByteArray.empty, .string ByteArray.empty, .int .i64 0, .string ByteArray.empty]) :: F) _) := ⟨HS2⟩
     have HS : Bx (St w0 (boxA b1 5 53 (.agg #[.int .i64 0, .string ByteArray.empty, .string ByteArray.empty, .int .i64 0, .string ByteArray.empty]) :: F) _) := ⟨(((HS2.out.erase 2).erase 1).erase 0)⟩; refine ⟨HS.out, ?_⟩
     refine wh_done (by kernel_rfl) ?_
     replace HS := HS2; clear HS2
     replace HS:=Bx.mk (HS.out.pick 1 rfl)
     replace HS : Bx (St w0 (rdA rb ab n cb (B + 4) :: rowA encI 1 3 (.slice (some ⟨b52, 0, none⟩) 12 12) (lit5) :: boxA b42 5 53 (.agg #[.int .i64 ((lit5).getD dn47 0), .string dt51, .string ByteArray.empty, .int .i64 0, .string ByteArray.empty]) :: boxA b1 5 53 (.agg #[.int .i64 0, .string ByteArray.empty, .string ByteArray.empty, .int .i64 0, .string ByteArray.empty]) :: F) _) := ⟨HS.out.rdLe (by omega)⟩
     replace HS:=Bx.mk (((HS.out.pick 3 rfl).pick 3 rfl).pick 2 rfl)
     replace HS := Bx.mk ((HS.out.erase 3))
     exact on_mk ⟨_, ((lit5).getD dn47 0), dt51, ByteArray.empty, 0, ByteArray.empty, ⟨(by first | exact Nat.zero_le _ | (show ByteArray.size _ ≤ 100; first | omega | (rw [manyB_size]; show _ * 1 ≤ _; omega))), (by first | exact Nat.zero_le _ | (show ByteArray.size _ ≤ 100; first | omega | (rw [manyB_size]; show _ * 1 ≤ _; omega))), (by first | exact Nat.zero_le _ | (show ByteArray.size _ ≤ 100; first | omega | (rw [manyB_size]; show _ * 1 ≤ _; omega)))⟩, HF.less _ ⟨rfl, rfl, rfl, trivial⟩, HS.out⟩
 clear HF HS a; rintro a w137 ⟨bo, k1, p1, t1, a1, x1, ⟨hp1, ht1, hx1⟩, HF, HS⟩; replace HS := Bx.mk HS
 refine ex_then ?_
 refine wp_seq ?_
 refine wp_sr ?_
 refine zy HF (yfa 0 rfl (HF.ev rfl)) ?_;clear HF a;intro a HF
 refine zy HF (ylo (v := .int .i64 k1) rfl (HF.ev rfl) (((HS.out.box 1 rfl).cell 0).trans rfl)) ?_;clear HF a;intro a HF
 refine wl_ne ?_
 refine wp_join (R := fun a w => ∃ (k2 : Int) (p2 t2 : ByteArray) (a2 : Int) (x2 : ByteArray), (p2.size ≤ 100 ∧ t2.size ≤ 100 ∧ x2.size ≤ 100) ∧ Fr 70 a [(0, .pointer (some ⟨rb, 0, none⟩)), (2, .pointer (some ⟨b1, 0, none⟩)), (3, .pointer (some ⟨bo, 0, none⟩))] ∧ St w0 (rdA rb ab n cb (B + 70) :: boxA bo 5 53 (.agg #[.int .i64 k2, .string p2, .string t2, .int .i64 a2, .string x2]) :: boxA b1 5 53 (.agg #[.int .i64 0, .string ByteArray.empty, .string ByteArray.empty, .int .i64 0, .string ByteArray.empty]) :: F) w) ?_ ?_
 ·skip
  refine wp_block ?_
  refine wp_sr ?_
  refine zy HF (yl_eqlI rfl (HF.ev rfl) (HF.ev rfl)) ?_;clear HF a;intro a HF
  refine za HF ?_;clear HF a;intro a HF
  refine wl_ne ?_
  refine HF.cases 14 rfl (fun cc1 _ => ?_) fun cc1 _ => ?_
  ·clear HF;rename_i HF
   have dcc1 := eq_of_beq cc1
   refine wc_true HF rfl ?_
   refine wp_sr ?_
   refine wl_buildS (enc := encI) (e := 3) (size := 1) rfl HF rfl rfl rfl (ps := [(0, .int .i64 0), (1, .int .i64 1), (2, .int .i64 5), (3, .int .i64 12), (4, .int .i64 13), (5, .int .i64 24), (6, .int .i64 40), (7, .int .i64 100), (8, .int .i64 180)]) rfl (cells := [.int .i64 0, .int .i64 1, .int .i64 5, .int .i64 12, .int .i64 13, .int .i64 24, .int .i64 40, .int .i64 100, .int .i64 180]) (by kernel_rfl) lit6 rfl rfl (by unfold maxLen; omega) rfl HS.out ?_; clear HF HS a; intro b53 a w138 HF HS; replace HS := Bx.mk HS
   refine zm HF ?_;clear HF a;intro a HF
   replace HS:=Bx.mk (HS.out.pick 1 rfl)
   refine wl_call rfl HF rfl (enter_of Tryz.func94 (by kernel_rfl) rfl) (args := #[.pointer (some ⟨rb, 0, none⟩), .int .i64 9]) rfl (pickN w0 _ rb ab n cb bs hn hR (B + 4) (by omega) 9 (by omega) _ HS.out) rfl rfl ?_
   rintro _ w139 ⟨dn54, rfl, hu54, hs1⟩
   refine ⟨_, rfl, ?_⟩; replace HS := Bx.mk hs1;clear hs1 HF a;intro a HF
   try dsimp only [List.eraseIdx] at HS
   refine zy HF (yl_indexAddr (e := 3) (i := dn54) (size := 1) rfl (HF.ev rfl) (HF.ev rfl) (by kernel_rfl) rfl (by omega)) ?_;clear HF a;intro a HF
   refine zy HF (ylo (v := .int .i64 ((lit6).getD dn54 0)) rfl (HF.ev rfl) (HS.out.elem1 encI_len 1 rfl (get_getD (xs := lit6) (j := dn54) (d := 0) (by (try simp only [List.length_cons, List.length_nil]); omega)) rfl)) ?_;clear HF a;intro a HF
   refine zy HF (yfa 3 rfl (HF.ev rfl)) ?_;clear HF a;intro a HF
   refine wl_storeF rfl rfl rfl (HF.ev rfl) (HF.ev rfl) (by kernel_rfl) HS.out 2 rfl rfl rfl ?_; clear HS; intro w140 HS; replace HS := Bx.mk HS
   have HS : Bx (St w0 (rdA rb ab n cb (B + 4 + 1) :: rowA encI 1 3 (.slice (some ⟨b53, 0, none⟩) 9 9) (lit6) :: boxA bo 5 53 (.agg #[.int .i64 k1, .string p1, .string t1, .int .i64 ((lit6).getD dn54 0), .string x1]) :: boxA b1 5 53 (.agg #[.int .i64 0, .string ByteArray.empty, .string ByteArray.empty, .int .i64 0, .string ByteArray.empty]) :: F) _) := HS
   refine wl_ne ?_
   refine wp_region_lit ?_
   refine zm HF ?_;clear HF a;intro a HF
   replace HS:=Bx.mk (HS.out.pick 0 rfl)
   refine wl_call rfl HF rfl (enter_of Tryz.func138 (by kernel_rfl) rfl) (args := #[.pointer (some ⟨rb, 0, none⟩), .int .i64 24]) rfl (l91Text_any w0 _ rb ab n cb bs hn hR (B + 4 + 1) (by omega) 24 (by omega) _ HS.out) rfl rfl ?_
   rintro _ w141 ⟨dt55, rfl, ht55, hs1⟩
   refine ⟨_, rfl, ?_⟩; replace HS := Bx.mk hs1;clear hs1 HF a;intro a HF
   try dsimp only [List.eraseIdx] at HS
   refine zy HF (yfa 4 rfl (HF.ev rfl)) ?_;clear HF a;intro a HF
   refine wl_storeF rfl rfl rfl (HF.ev rfl) (HF.ev rfl) (by kernel_rfl) HS.out 2 rfl rfl rfl ?_; clear HS; intro w142 HS; replace HS := Bx.mk HS
   have HS : Bx (St w0 (rdA rb ab n cb (B + 4 + 1 + (2 + 2 * 24)) :: rowA encI 1 3 (.slice (some ⟨b53, 0, none⟩) 9 9) (lit6) :: boxA bo 5 53 (.agg #[.int .i64 k1, .string p1, .string t1, .int .i64 ((lit6).getD dn54 0), .string dt55]) :: boxA b1 5 53 (.agg #[.int .i64 0, .string ByteArray.empty, .string ByteArray.empty, .int .i64 0, .string ByteArray.empty]) :: F) _) := HS
   refine wpList_nil ?_
   refine ex_block ?_
   replace HS:=Bx.mk (HS.out.pick 0 rfl)
   replace HS : Bx (St w0 (rdA rb ab n cb (B + 70) :: rowA encI 1 3 (.slice (some ⟨b53, 0, none⟩) 9 9) (lit6) :: boxA bo 5 53 (.agg #[.int .i64 k1, .string p1, .string t1, .int .i64 ((lit6).getD dn54 0), .string dt55]) :: boxA b1 5 53 (.agg #[.int .i64 0, .string ByteArray.empty, .string ByteArray.empty, .int .i64 0, .string ByteArray.empty]) :: F) _) := ⟨HS.out.rdLe (by omega)⟩
   replace HS:=Bx.mk (((HS.out.pick 3 rfl).pick 3 rfl).pick 2 rfl)
   replace HS := Bx.mk ((HS.out.erase 3))
   exact on_mk ⟨k1, p1, t1, ((lit6).getD dn54 0), dt55, ⟨(by first | exact Nat.zero_le _ | (show ByteArray.size _ ≤ 100; first | omega | (rw [manyB_size]; show _ * 1 ≤ _; omega))), (by first | exact Nat.zero_le _ | (show ByteArray.size _ ≤ 100; first | omega | (rw [manyB_size]; show _ * 1 ≤ _; omega))), (by first | exact Nat.zero_le _ | (show ByteArray.size _ ≤ 100; first | omega | (rw [manyB_size]; show _ * 1 ≤ _; omega)))⟩, HF.less _ ⟨rfl, rfl, rfl, trivial⟩, HS.out⟩
  ·clear HF;rename_i HF
   have dcc1 := ne_of_beq_false cc1
   refine wc_false HF rfl ?_
   refine wp_sr ?_
   refine zy HF (yl_eqlI rfl (HF.ev rfl) (HF.ev rfl)) ?_;clear HF a;intro a HF
   refine za HF ?_;clear HF a;intro a HF
   refine wl_ne ?_
   refine HF.cases 25 rfl (fun cc2 _ => ?_) fun cc2 _ => ?_
   ·clear HF;rename_i HF
    have dcc2 := eq_of_beq cc2
    refine wc_true HF rfl ?_
    refine wp_region_lit ?_
    refine wl_buildS (enc := encI) (e := 3) (size := 1) rfl HF rfl rfl rfl (ps := [(0, .int .i64 0), (1, .int .i64 1), (2, .int .i64 5), (3, .int .i64 12), (4, .int .i64 13), (5, .int .i64 25), (6, .int .i64 60), (7, .int .i64 192)]) rfl (cells := [.int .i64 0, .int .i64 1, .int .i64 5, .int .i64 12, .int .i64 13, .int .i64 25, .int .i64 60, .int .i64 192]) (by kernel_rfl) lit7 rfl rfl (by unfold maxLen; omega) rfl HS.out ?_; clear HF HS a; intro b56 a w143 HF HS; replace HS := Bx.mk HS
    refine zm HF ?_;clear HF a;intro a HF
    replace HS:=Bx.mk (HS.out.pick 1 rfl)
    refine wl_call rfl HF rfl (enter_of Tryz.func94 (by kernel_rfl) rfl) (args := #[.pointer (some ⟨rb, 0, none⟩), .int .i64 8]) rfl (pickN w0 _ rb ab n cb bs hn hR (B + 4) (by omega) 8 (by omega) _ HS.out) rfl rfl ?_
    rintro _ w144 ⟨dn57, rfl, hu57, hs1⟩
    refine ⟨_, rfl, ?_⟩; replace HS := Bx.mk hs1;clear hs1 HF a;intro a HF
    try dsimp only [List.eraseIdx] at HS
    refine zy HF (yl_indexAddr (e := 3) (i := dn57) (size := 1) rfl (HF.ev rfl) (HF.ev rfl) (by kernel_rfl) rfl (by omega)) ?_;clear HF a;intro a HF
    refine zy HF (ylo (v := .int .i64 ((lit7).getD dn57 0)) rfl (HF.ev rfl) (HS.out.elem1 encI_len 1 rfl (get_getD (xs := lit7) (j := dn57) (d := 0) (by (try simp only [List.length_cons, List.length_nil]); omega)) rfl)) ?_;clear HF a;intro a HF
    refine zy HF (yfa 3 rfl (HF.ev rfl)) ?_;clear HF a;intro a HF
    refine wl_storeF rfl rfl rfl (HF.ev rfl) (HF.ev rfl) (by kernel_rfl) HS.out 2 rfl rfl rfl ?_; clear HS; intro w145 HS; replace HS := Bx.mk HS
    have HS : Bx (St w0 (rdA rb ab n cb (B + 4 + 1) :: rowA encI 1 3 (.slice (some ⟨b56, 0, none⟩) 8 8) (lit7) :: boxA bo 5 53 (.agg #[.int .i64 k1, .string p1, .string t1, .int .i64 ((lit7).getD dn57 0), .string x1]) :: boxA b1 5 53 (.agg #[.int .i64 0, .string ByteArray.empty, .string ByteArray.empty, .int .i64 0, .string ByteArray.empty]) :: F) _) := HS
    refine wpList_nil ?_
    refine ex_block ?_
    replace HS:=Bx.mk (HS.out.pick 0 rfl)
    replace HS : Bx (St w0 (rdA rb ab n cb (B + 70) :: rowA encI 1 3 (.slice (some ⟨b56, 0, none⟩) 8 8) (lit7) :: boxA bo 5 53 (.agg #[.int .i64 k1, .string p1, .string t1, .int .i64 ((lit7).getD dn57 0), .string x1]) :: boxA b1 5 53 (.agg #[.int .i64 0, .string ByteArray.empty, .string ByteArray.empty, .int .i64 0, .string ByteArray.empty]) :: F) _) := ⟨HS.out.rdLe (by omega)⟩
    replace HS:=Bx.mk (((HS.out.pick 3 rfl).pick 3 rfl).pick 2 rfl)
    replace HS := Bx.mk ((HS.out.erase 3))
    exact on_mk ⟨k1, p1, t1, ((lit7).getD dn57 0), x1, ⟨(by first | exact Nat.zero_le _ | (show ByteArray.size _ ≤ 100; first | omega | (rw [manyB_size]; show _ * 1 ≤ _; omega))), (by first | exact Nat.zero_le _ | (show ByteArray.size _ ≤ 100; first | omega | (rw [manyB_size]; show _ * 1 ≤ _; omega))), (by first | exact Nat.zero_le _ | (show ByteArray.size _ ≤ 100; first | omega | (rw [manyB_size]; show _ * 1 ≤ _; omega)))⟩, HF.less _ ⟨rfl, rfl, rfl, trivial⟩, HS.out⟩
   ·clear HF;rename_i HF
    have dcc2 := ne_of_beq_false cc2
    refine wc_false HF rfl ?_
    refine wp_seq ?_
    refine wp_sr ?_
    refine zy HF (yl_eqlI rfl (HF.ev rfl) (HF.ev rfl)) ?_;clear HF a;intro a HF
    refine za HF ?_;clear HF a;intro a HF
    refine wl_ne ?_
    refine HF.cases 33 rfl (fun cc3 _ => ?_) fun cc3 _ => ?_
    ·clear HF;rename_i HF
     have dcc3 := eq_of_beq cc3
     refine wc_true HF rfl ?_
     refine wp_skip ?_
     refine ex_then ?_
     refine wc_true HF rfl ?_
     refine wp_region_lit ?_
     refine zm HF ?_;clear HF a;intro a HF
     replace HS:=Bx.mk (HS.out.pick 0 rfl)
     refine wl_call rfl HF rfl (enter_of Tryz.func147 (by kernel_rfl) rfl) (args := #[.pointer (some ⟨rb, 0, none⟩)]) rfl (l92Path_any w0 _ rb ab n cb bs hn hR (B + 4) (by omega) _ HS.out) rfl rfl ?_
     rintro _ w146 ⟨dt58, rfl, ht58, hs1⟩
     refine ⟨_, rfl, ?_⟩; replace HS := Bx.mk hs1;clear hs1 HF a;intro a HF
     try dsimp only [List.eraseIdx] at HS
     refine zy HF (yfa 2 rfl (HF.ev rfl)) ?_;clear HF a;intro a HF
     refine wl_storeF rfl rfl rfl (HF.ev rfl) (HF.ev rfl) (by kernel_rfl) HS.out 1 rfl rfl rfl ?_; clear HS; intro w147 HS; replace HS := Bx.mk HS
     have HS : Bx (St w0 (rdA rb ab n cb (B + 4 + 2) :: boxA bo 5 53 (.agg #[.int .i64 k1, .string p1, .string dt58, .int .i64 a1, .string x1]) :: boxA b1 5 53 (.agg #[.int .i64 0, .string ByteArray.empty, .string ByteArray.empty, .int .i64 0, .string ByteArray.empty]) :: F) _) := HS
     refine wpList_nil ?_
     refine ex_block ?_
     replace HS:=Bx.mk (HS.out.pick 0 rfl)
     replace HS : Bx (St w0 (rdA rb ab n cb (B + 70) :: boxA bo 5 53 (.agg #[.int .i64 k1, .string p1, .string dt58, .int .i64 a1, .string x1]) :: boxA b1 5 53 (.agg #[.int .i64 0, .string ByteArray.empty, .string ByteArray.empty, .int .i64 0, .string ByteArray.empty]) :: F) _) := ⟨HS.out.rdLe (by omega)⟩
     replace HS:=Bx.mk (((HS.out.pick 2 rfl).pick 2 rfl).pick 2 rfl)
     exact on_mk ⟨k1, p1, dt58, a1, x1, ⟨(by first | exact Nat.zero_le _ | (show ByteArray.size _ ≤ 100; first | omega | (rw [manyB_size]; show _ * 1 ≤ _; omega))), (by first | exact Nat.zero_le _ | (show ByteArray.size _ ≤ 100; first | omega | (rw [manyB_size]; show _ * 1 ≤ _; omega))), (by first | exact Nat.zero_le _ | (show ByteArray.size _ ≤ 100; first | omega | (rw [manyB_size]; show _ * 1 ≤ _; omega)))⟩, HF.less _ ⟨rfl, rfl, rfl, trivial⟩, HS.out⟩
    ·clear HF;rename_i HF
     have dcc3 := ne_of_beq_false cc3
     refine wc_false HF rfl ?_
     refine wp_region_lit ?_
     refine zy HF (yl_eqlI rfl (HF.ev rfl) (HF.ev rfl)) ?_;clear HF a;intro a HF
     refine za HF ?_;clear HF a;intro a HF
     refine wl_ne ?_
     refine HF.cases 33 rfl (fun cc4 _ => ?_) fun cc4 _ => ?_
     ·clear HF;rename_i HF
      have dcc4 := eq_of_beq cc4
      refine wc_true HF rfl ?_
      refine wp_region_lit ?_
      refine zm HF ?_;clear HF a;intro a HF
      replace HS:=Bx.mk (HS.out.pick 0 rfl)
      refine wl_call rfl HF rfl (enter_of Tryz.func147 (by kernel_rfl) rfl) (args := #[.pointer (some ⟨rb, 0, none⟩)]) rfl (l92Path_any w0 _ rb ab n cb bs hn hR (B + 4) (by omega) _ HS.out) rfl rfl ?_
      rintro _ w148 ⟨dt59, rfl, ht59, hs1⟩
      refine ⟨_, rfl, ?_⟩; replace HS := Bx.mk hs1;clear hs1 HF a;intro a HF
      try dsimp only [List.eraseIdx] at HS
      refine zy HF (yfa 2 rfl (HF.ev rfl)) ?_;clear HF a;intro a HF
      refine wl_storeF rfl rfl rfl (HF.ev rfl) (HF.ev rfl) (by kernel_rfl) HS.out 1 rfl rfl rfl ?_; clear HS; intro w149 HS; replace HS := Bx.mk HS
      have HS : Bx (St w0 (rdA rb ab n cb (B + 4 + 2) :: boxA bo 5 53 (.agg #[.int .i64 k1, .string p1, .string dt59, .int .i64 a1, .string x1]) :: boxA b1 5 53 (.agg #[.int .i64 0, .string ByteArray.empty, .string ByteArray.empty, .int .i64 0, .string ByteArray.empty]) :: F) _) := HS
      refine wpList_nil ?_
      refine ex_block ?_
      replace HS:=Bx.mk (HS.out.pick 0 rfl)
      replace HS : Bx (St w0 (rdA rb ab n cb (B + 70) :: boxA bo 5 53 (.agg #[.int .i64 k1, .string p1, .string dt59, .int .i64 a1, .string x1]) :: boxA b1 5 53 (.agg #[.int .i64 0, .string ByteArray.empty, .string ByteArray.empty, .int .i64 0, .string ByteArray.empty]) :: F) _) := ⟨HS.out.rdLe (by omega)⟩
      replace HS:=Bx.mk (((HS.out.pick 2 rfl).pick 2 rfl).pick 2 rfl)
      exact on_mk ⟨k1, p1, dt59, a1, x1, ⟨(by first | exact Nat.zero_le _ | (show ByteArray.size _ ≤ 100; first | omega | (rw [manyB_size]; show _ * 1 ≤ _; omega))), (by first | exact Nat.zero_le _ | (show ByteArray.size _ ≤ 100; first | omega | (rw [manyB_size]; show _ * 1 ≤ _; omega))), (by first | exact Nat.zero_le _ | (show ByteArray.size _ ≤ 100; first | omega | (rw [manyB_size]; show _ * 1 ≤ _; omega)))⟩, HF.less _ ⟨rfl, rfl, rfl, trivial⟩, HS.out⟩
     ·clear HF;rename_i HF
      have dcc4 := ne_of_beq_false cc4
      refine wc_false HF rfl ?_
      refine wp_skip ?_
      refine ex_block ?_
      replace HS:=Bx.mk (HS.out.pick 0 rfl)
      replace HS : Bx (St w0 (rdA rb ab n cb (B + 70) :: boxA bo 5 53 (.agg #[.int .i64 k1, .string p1, .string t1, .int .i64 a1, .string x1]) :: boxA b1 5 53 (.agg #[.int .i64 0, .string ByteArray.empty, .string ByteArray.empty, .int .i64 0, .string ByteArray.empty]) :: F) _) := ⟨HS.out.rdLe (by omega)⟩
      replace HS:=Bx.mk (((HS.out.pick 2 rfl).pick 2 rfl).pick 2 rfl)
      exact on_mk ⟨k1, p1, t1, a1, x1, ⟨(by first | exact Nat.zero_le _ | (show ByteArray.size _ ≤ 100; first | omega | (rw [manyB_size]; show _ * 1 ≤ _; omega))), (by first | exact Nat.zero_le _ | (show ByteArray.size _ ≤ 100; first | omega | (rw [manyB_size]; show _ * 1 ≤ _; omega))), (by first | exact Nat.zero_le _ | (show ByteArray.size _ ≤ 100; first | omega | (rw [manyB_size]; show _ * 1 ≤ _; omega)))⟩, HF.less _ ⟨rfl, rfl, rfl, trivial⟩, HS.out⟩
 clear HF HS a; rintro a w150 ⟨k2, p2, t2, a2, x2, ⟨hp2, ht2, hx2⟩, HF, HS⟩; replace HS := Bx.mk HS
 refine ex_then ?_
 refine wp_seq ?_
 refine wp_sr ?_
 refine zm HF ?_;clear HF a;intro a HF
 replace HS:=Bx.mk (HS.out.pick 0 rfl)
 refine wl_call rfl HF rfl (enter_of Tryz.func94 (by kernel_rfl) rfl) (args := #[.pointer (some ⟨rb, 0, none⟩), .int .i64 60]) rfl (pickN w0 _ rb ab n cb bs hn hR (B + 70) (by omega) 60 (by omega) _ HS.out) rfl rfl ?_
 rintro _ w151 ⟨dn60, rfl, hu60, hs1⟩
 refine ⟨_, rfl, ?_⟩; replace HS := Bx.mk hs1;clear hs1 HF a;intro a HF
 try dsimp only [List.eraseIdx] at HS
 refine wl_ne ?_
 refine wp_join (R := fun a w => ∃ (k3 : Int) (p3 t3 : ByteArray) (a3 : Int) (x3 : ByteArray), (p3.size ≤ 100 ∧ t3.size ≤ 100 ∧ x3.size ≤ 100) ∧ Fr 70 a [(0, .pointer (some ⟨rb, 0, none⟩)), (2, .pointer (some ⟨b1, 0, none⟩)), (3, .pointer (some ⟨bo, 0, none⟩))] ∧ St w0 (rdA rb ab n cb (B + 80) :: boxA bo 5 53 (.agg #[.int .i64 k3, .string p3, .string t3, .int .i64 a3, .string x3]) :: boxA b1 5 53 (.agg #[.int .i64 0, .string ByteArray.empty, .string ByteArray.empty, .int .i64 0, .string ByteArray.empty]) :: F) w) ?_ ?_
 ·skip
  refine wp_block ?_
  refine wp_sr ?_
  refine zy HF (yl_eqlI rfl (HF.ev rfl) (HF.ev rfl)) ?_;clear HF a;intro a HF
  refine za HF ?_;clear HF a;intro a HF
  refine wl_ne ?_
  refine HF.cases 41 rfl (fun cc5 _ => ?_) fun cc5 _ => ?_
  ·clear HF;rename_i HF
   have dcc5 := eq_of_beq cc5
   refine wc_true HF rfl ?_
   refine wp_region_lit ?_
   refine wl_buildS (enc := encI) (e := 3) (size := 1) rfl HF rfl rfl rfl (ps := [(0, .int .i64 0), (1, .int .i64 8), (2, .int .i64 (-1)), (3, .int .i64 3)]) rfl (cells := [.int .i64 0, .int .i64 8, .int .i64 (-1), .int .i64 3]) (by kernel_rfl) lit8 rfl rfl (by unfold maxLen; omega) rfl HS.out ?_; clear HF HS a; intro b61 a w152 HF HS; replace HS := Bx.mk HS
   refine zm HF ?_;clear HF a;intro a HF
   replace HS:=Bx.mk (HS.out.pick 1 rfl)
   refine wl_call rfl HF rfl (enter_of Tryz.func94 (by kernel_rfl) rfl) (args := #[.pointer (some ⟨rb, 0, none⟩), .int .i64 4]) rfl (pickN w0 _ rb ab n cb bs hn hR (B + 70 + 1) (by omega) 4 (by omega) _ HS.out) rfl rfl ?_
   rintro _ w153 ⟨dn62, rfl, hu62, hs1⟩
   refine ⟨_, rfl, ?_⟩; replace HS := Bx.mk hs1;clear hs1 HF a;intro a HF
   try dsimp only [List.eraseIdx] at HS
   refine zy HF (yl_indexAddr (e := 3) (i := dn62) (size := 1) rfl (HF.ev rfl) (HF.ev rfl) (by kernel_rfl) rfl (by omega)) ?_;clear HF a;intro a HF
   refine zy HF (ylo (v := .int .i64 ((lit8).getD dn62 0)) rfl (HF.ev rfl) (HS.out.elem1 encI_len 1 rfl (get_getD (xs := lit8) (j := dn62) (d := 0) (by (try simp only [List.length_cons, List.length_nil]); omega)) rfl)) ?_;clear HF a;intro a HF
   refine zy HF (yfa 0 rfl (HF.ev rfl)) ?_;clear HF a;intro a HF
   refine wl_storeF rfl rfl rfl (HF.ev rfl) (HF.ev rfl) (by kernel_rfl) HS.out 2 rfl rfl rfl ?_; clear HS; intro w154 HS; replace HS := Bx.mk HS
   have HS : Bx (St w0 (rdA rb ab n cb (B + 70 + 1 + 1) :: rowA encI 1 3 (.slice (some ⟨b61, 0, none⟩) 4 4) (lit8) :: boxA bo 5 53 (.agg #[.int .i64 ((lit8).getD dn62 0), .string p2, .string t2, .int .i64 a2, .string x2]) :: boxA b1 5 53 (.agg #[.int .i64 0, .string ByteArray.empty, .string ByteArray.empty, .int .i64 0, .string ByteArray.empty]) :: F) _) := HS
   refine wpList_nil ?_
   refine ex_block ?_
   replace HS:=Bx.mk (HS.out.pick 0 rfl)
   replace HS : Bx (St w0 (rdA rb ab n cb (B + 80) :: rowA encI 1 3 (.slice (some ⟨b61, 0, none⟩) 4 4) (lit8) :: boxA bo 5 53 (.agg #[.int .i64 ((lit8).getD dn62 0), .string p2, .string t2, .int .i64 a2, .string x2]) :: boxA b1 5 53 (.agg #[.int .i64 0, .string ByteArray.empty, .string ByteArray.empty, .int .i64 0, .string ByteArray.empty]) :: F) _) := ⟨HS.out.rdLe (by omega)⟩
   replace HS:=Bx.mk (((HS.out.pick 3 rfl).pick 3 rfl).pick 2 rfl)
   replace HS := Bx.mk ((HS.out.erase 3))
   exact on_mk ⟨((lit8).getD dn62 0), p2, t2, a2, x2, ⟨(by first | exact Nat.zero_le _ | (show ByteArray.size _ ≤ 100; first | omega | (rw [manyB_size]; show _ * 1 ≤ _; omega))), (by first | exact Nat.zero_le _ | (show ByteArray.size _ ≤ 100; first | omega | (rw [manyB_size]; show _ * 1 ≤ _; omega))), (by first | exact Nat.zero_le _ | (show ByteArray.size _ ≤ 100; first | omega | (rw [manyB_size]; show _ * 1 ≤ _; omega)))⟩, HF.less _ ⟨rfl, rfl, rfl, trivial⟩, HS.out⟩
  ·clear HF;rename_i HF
   have dcc5 := ne_of_beq_false cc5
   refine wc_false HF rfl ?_
   refine wp_sr ?_
   refine zy HF (yl_eqlI rfl (HF.ev rfl) (HF.ev rfl)) ?_;clear HF a;intro a HF
   refine za HF ?_;clear HF a;intro a HF
   refine wl_ne ?_
   refine HF.cases 49 rfl (fun cc6 _ => ?_) fun cc6 _ => ?_
   ·clear HF;rename_i HF
    have dcc6 := eq_of_beq cc6
    refine wc_true HF rfl ?_
    refine wp_region_lit ?_
    refine wl_buildS (enc := encI) (e := 3) (size := 1) rfl HF rfl rfl rfl (ps := [(0, .int .i64 (-1)), (1, .int .i64 193), (2, .int .i64 192)]) rfl (cells := [.int .i64 (-1), .int .i64 193, .int .i64 192]) (by kernel_rfl) [(-1 : Int), (193 : Int), (192 : Int)] rfl rfl (by unfold maxLen; omega) rfl HS.out ?_; clear HF HS a; intro b63 a w155 HF HS; replace HS := Bx.mk HS
    refine zm HF ?_;clear HF a;intro a HF
    replace HS:=Bx.mk (HS.out.pick 1 rfl)
    refine wl_call rfl HF rfl (enter_of Tryz.func94 (by kernel_rfl) rfl) (args := #[.pointer (some ⟨rb, 0, none⟩), .int .i64 3]) rfl (pickN w0 _ rb ab n cb bs hn hR (B + 70 + 1) (by omega) 3 (by omega) _ HS.out) rfl rfl ?_
    rintro _ w156 ⟨dn64, rfl, hu64, hs1⟩
    refine ⟨_, rfl, ?_⟩; replace HS := Bx.mk hs1;clear hs1 HF a;intro a HF
    try dsimp only [List.eraseIdx] at HS
    refine zy HF (yl_indexAddr (e := 3) (i := dn64) (size := 1) rfl (HF.ev rfl) (HF.ev rfl) (by kernel_rfl) rfl (by omega)) ?_;clear HF a;intro a HF
    refine zy HF (ylo (v := .int .i64 (([(-1 : Int), (193 : Int), (192 : Int)]).getD dn64 0)) rfl (HF.ev rfl) (HS.out.elem1 encI_len 1 rfl (get_getD (xs := [(-1 : Int), (193 : Int), (192 : Int)]) (j := dn64) (d := 0) (by (try simp only [List.length_cons, List.length_nil]); omega)) rfl)) ?_;clear HF a;intro a HF
    refine zy HF (yfa 3 rfl (HF.ev rfl)) ?_;clear HF a;intro a HF
    refine wl_storeF rfl rfl rfl (HF.ev rfl) (HF.ev rfl) (by kernel_rfl) HS.out 2 rfl rfl rfl ?_; clear HS; intro w157 HS; replace HS := Bx.mk HS
    have HS : Bx (St w0 (rdA rb ab n cb (B + 70 + 1 + 1) :: rowA encI 1 3 (.slice (some ⟨b63, 0, none⟩) 3 3) ([(-1 : Int), (193 : Int), (192 : Int)]) :: boxA bo 5 53 (.agg #[.int .i64 k2, .string p2, .string t2, .int .i64 (([(-1 : Int), (193 : Int), (192 : Int)]).getD dn64 0), .string x2]) :: boxA b1 5 53 (.agg #[.int .i64 0, .string ByteArray.empty, .string ByteArray.empty, .int .i64 0, .string ByteArray.empty]) :: F) _) := HS
    refine wpList_nil ?_
    refine ex_block ?_
    replace HS:=Bx.mk (HS.out.pick 0 rfl)
    replace HS : Bx (St w0 (rdA rb ab n cb (B + 80) :: rowA encI 1 3 (.slice (some ⟨b63, 0, none⟩) 3 3) ([(-1 : Int), (193 : Int), (192 : Int)]) :: boxA bo 5 53 (.agg #[.int .i64 k2, .string p2, .string t2, .int .i64 (([(-1 : Int), (193 : Int), (192 : Int)]).getD dn64 0), .string x2]) :: boxA b1 5 53 (.agg #[.int .i64 0, .string ByteArray.empty, .string ByteArray.empty, .int .i64 0, .string ByteArray.empty]) :: F) _) := ⟨HS.out.rdLe (by omega)⟩
    replace HS:=Bx.mk (((HS.out.pick 3 rfl).pick 3 rfl).pick 2 rfl)
    replace HS := Bx.mk ((HS.out.erase 3))
    exact on_mk ⟨k2, p2, t2, (([(-1 : Int), (193 : Int), (192 : Int)]).getD dn64 0), x2, ⟨(by first | exact Nat.zero_le _ | (show ByteArray.size _ ≤ 100; first | omega | (rw [manyB_size]; show _ * 1 ≤ _; omega))), (by first | exact Nat.zero_le _ | (show ByteArray.size _ ≤ 100; first | omega | (rw [manyB_size]; show _ * 1 ≤ _; omega))), (by first | exact Nat.zero_le _ | (show ByteArray.size _ ≤ 100; first | omega | (rw [manyB_size]; show _ * 1 ≤ _; omega)))⟩, HF.less _ ⟨rfl, rfl, rfl, trivial⟩, HS.out⟩
   ·clear HF;rename_i HF
    have dcc6 := ne_of_beq_false cc6
    refine wc_false HF rfl ?_
    refine wp_sr ?_
    refine zy HF (yl_eqlI rfl (HF.ev rfl) (HF.ev rfl)) ?_;clear HF a;intro a HF
    refine za HF ?_;clear HF a;intro a HF
    refine wl_ne ?_
    refine HF.cases 57 rfl (fun cc7 _ => ?_) fun cc7 _ => ?_
    ·clear HF;rename_i HF
     have dcc7 := eq_of_beq cc7
     refine wc_true HF rfl ?_
     refine wp_region_lit ?_
     refine zm HF ?_;clear HF a;intro a HF
     replace HS:=Bx.mk (HS.out.pick 0 rfl)
     refine wl_call rfl HF rfl (enter_of Tryz.func94 (by kernel_rfl) rfl) (args := #[.pointer (some ⟨rb, 0, none⟩), .int .i64 2]) rfl (pickN w0 _ rb ab n cb bs hn hR (B + 70 + 1) (by omega) 2 (by omega) _ HS.out) rfl rfl ?_
     rintro _ w158 ⟨dn65, rfl, hu65, hs1⟩
     refine ⟨_, rfl, ?_⟩; replace HS := Bx.mk hs1;clear hs1 HF a;intro a HF
     try dsimp only [List.eraseIdx] at HS
     refine zy HF (yl_addI rfl (HF.ev rfl) (HF.ev rfl) (i64w (by omega))) ?_;clear HF a;intro a HF
     refine wl_callB rfl HF rfl (enter_of Tryz.func139 (by kernel_rfl) rfl) (args := #[.string (⟨#[117]⟩ : ByteArray), .int .i64 ((24 : Int) + (dn65 : Int))]) rfl (v := .string (manyB (⟨#[117]⟩ : ByteArray) (24 + dn65))) ((l6Many_any (⟨#[117]⟩ : ByteArray) (24 + dn65) _ (by omega) (by show _ * 1 ≤ _; omega) (by decide))) rfl rfl HS.out ?_; clear HF HS a; intro w159 a HS HF; replace HS := Bx.mk HS
     refine zy HF (yfa 4 rfl (HF.ev rfl)) ?_;clear HF a;intro a HF
     refine wl_storeF rfl rfl rfl (HF.ev rfl) (HF.ev rfl) (by kernel_rfl) HS.out 1 rfl rfl rfl ?_; clear HS; intro w160 HS; replace HS := Bx.mk HS
     have HS : Bx (St w0 (rdA rb ab n cb (B + 70 + 1 + 1) :: boxA bo 5 53 (.agg #[.int .i64 k2, .string p2, .string t2, .int .i64 a2, .string (manyB (⟨#[117]⟩ : ByteArray) (24 + dn65))]) :: boxA b1 5 53 (.agg #[.int .i64 0, .string ByteArray.empty, .string ByteArray.empty, .int .i64 0, .string ByteArray.empty]) :: F) _) := HS
     refine wpList_nil ?_
     refine ex_block ?_
     replace HS:=Bx.mk (HS.out.pick 0 rfl)
     replace HS : Bx (St w0 (rdA rb ab n cb (B + 80) :: boxA bo 5 53 (.agg #[.int .i64 k2, .string p2, .string t2, .int .i64 a2, .string (manyB (⟨#[117]⟩ : ByteArray) (24 + dn65))]) :: boxA b1 5 53 (.agg #[.int .i64 0, .string ByteArray.empty, .string ByteArray.empty, .int .i64 0, .string ByteArray.empty]) :: F) _) := ⟨HS.out.rdLe (by omega)⟩
     replace HS:=Bx.mk (((HS.out.pick 2 rfl).pick 2 rfl).pick 2 rfl)
     exact on_mk ⟨k2, p2, t2, a2, (manyB (⟨#[117]⟩ : ByteArray) (24 + dn65)), ⟨(by first | exact Nat.zero_le _ | (show ByteArray.size _ ≤ 100; first | omega | (rw [manyB_size]; show _ * 1 ≤ _; omega))), (by first | exact Nat.zero_le _ | (show ByteArray.size _ ≤ 100; first | omega | (rw [manyB_size]; show _ * 1 ≤ _; omega))), (by first | exact Nat.zero_le _ | (show ByteArray.size _ ≤ 100; first | omega | (rw [manyB_size]; show _ * 1 ≤ _; omega)))⟩, HF.less _ ⟨rfl, rfl, rfl, trivial⟩, HS.out⟩
    ·clear HF;rename_i HF
     have dcc7 := ne_of_beq_false cc7
     refine wc_false HF rfl ?_
     refine wp_sr ?_
     refine zy HF (yl_eqlI rfl (HF.ev rfl) (HF.ev rfl)) ?_;clear HF a;intro a HF
     refine za HF ?_;clear HF a;intro a HF
     refine wl_ne ?_
     refine HF.cases 64 rfl (fun cc8 _ => ?_) fun cc8 _ => ?_
     ·clear HF;rename_i HF
      have dcc8 := eq_of_beq cc8
      refine wc_true HF rfl ?_
      refine wp_region_lit ?_
      refine zm HF ?_;clear HF a;intro a HF
      replace HS:=Bx.mk (HS.out.pick 0 rfl)
      refine wl_call rfl HF rfl (enter_of Tryz.func147 (by kernel_rfl) rfl) (args := #[.pointer (some ⟨rb, 0, none⟩)]) rfl (l92Path_any w0 _ rb ab n cb bs hn hR (B + 70 + 1) (by omega) _ HS.out) rfl rfl ?_
      rintro _ w161 ⟨dt66, rfl, ht66, hs1⟩
      refine ⟨_, rfl, ?_⟩; replace HS := Bx.mk hs1;clear hs1 HF a;intro a HF
      try dsimp only [List.eraseIdx] at HS
      refine zy HF (yfa 2 rfl (HF.ev rfl)) ?_;clear HF a;intro a HF
      refine wl_storeF rfl rfl rfl (HF.ev rfl) (HF.ev rfl) (by kernel_rfl) HS.out 1 rfl rfl rfl ?_; clear HS; intro w162 HS; replace HS := Bx.mk HS
      have HS : Bx (St w0 (rdA rb ab n cb (B + 70 + 1 + 2) :: boxA bo 5 53 (.agg #[.int .i64 k2, .string p2, .string dt66, .int .i64 a2, .string x2]) :: boxA b1 5 53 (.agg #[.int .i64 0, .string ByteArray.empty, .string ByteArray.empty, .int .i64 0, .string ByteArray.empty]) :: F) _) := HS
      refine wpList_nil ?_
      refine ex_block ?_
      replace HS:=Bx.mk (HS.out.pick 0 rfl)
      replace HS : Bx (St w0 (rdA rb ab n cb (B + 80) :: boxA bo 5 53 (.agg #[.int .i64 k2, .string p2, .string dt66, .int .i64 a2, .string x2]) :: boxA b1 5 53 (.agg #[.int .i64 0, .string ByteArray.empty, .string ByteArray.empty, .int .i64 0, .string ByteArray.empty]) :: F) _) := ⟨HS.out.rdLe (by omega)⟩
      replace HS:=Bx.mk (((HS.out.pick 2 rfl).pick 2 rfl).pick 2 rfl)
      exact on_mk ⟨k2, p2, dt66, a2, x2, ⟨(by first | exact Nat.zero_le _ | (show ByteArray.size _ ≤ 100; first | omega | (rw [manyB_size]; show _ * 1 ≤ _; omega))), (by first | exact Nat.zero_le _ | (show ByteArray.size _ ≤ 100; first | omega | (rw [manyB_size]; show _ * 1 ≤ _; omega))), (by first | exact Nat.zero_le _ | (show ByteArray.size _ ≤ 100; first | omega | (rw [manyB_size]; show _ * 1 ≤ _; omega)))⟩, HF.less _ ⟨rfl, rfl, rfl, trivial⟩, HS.out⟩
     ·clear HF;rename_i HF
      have dcc8 := ne_of_beq_false cc8
      refine wc_false HF rfl ?_
      refine wp_skip ?_
      refine ex_block ?_
      replace HS:=Bx.mk (HS.out.pick 0 rfl)
      replace HS : Bx (St w0 (rdA rb ab n cb (B + 80) :: boxA bo 5 53 (.agg #[.int .i64 k2, .string p2, .string t2, .int .i64 a2, .string x2]) :: boxA b1 5 53 (.agg #[.int .i64 0, .string ByteArray.empty, .string ByteArray.empty, .int .i64 0, .string ByteArray.empty]) :: F) _) := ⟨HS.out.rdLe (by omega)⟩
      replace HS:=Bx.mk (((HS.out.pick 2 rfl).pick 2 rfl).pick 2 rfl)
      exact on_mk ⟨k2, p2, t2, a2, x2, ⟨(by first | exact Nat.zero_le _ | (show ByteArray.size _ ≤ 100; first | omega | (rw [manyB_size]; show _ * 1 ≤ _; omega))), (by first | exact Nat.zero_le _ | (show ByteArray.size _ ≤ 100; first | omega | (rw [manyB_size]; show _ * 1 ≤ _; omega))), (by first | exact Nat.zero_le _ | (show ByteArray.size _ ≤ 100; first | omega | (rw [manyB_size]; show _ * 1 ≤ _; omega)))⟩, HF.less _ ⟨rfl, rfl, rfl, trivial⟩, HS.out⟩
 clear HF HS a; rintro a w163 ⟨k3, p3, t3, a3, x3, ⟨hp3, ht3, hx3⟩, HF, HS⟩; replace HS := Bx.mk HS
 refine ex_then ?_
 refine wp_sr ?_
 refine zy HF (ylr (cs := [.int .i64 k3, .string p3, .string t3, .int .i64 a3, .string x3]) rfl (HF.ev rfl) ((HS.out.box 1 rfl).sub 0 5)) ?_;clear HF a;intro a HF
 refine wl_storeBox rfl HF rfl rfl (HF.ev rfl) (HF.ev rfl) HS.out 2 rfl (cells_lit [.int .i64 k3, .string p3, .string t3, .int .i64 a3, .string x3] rfl rfl) (by kernel_rfl) ?_; clear HS; intro w164 HS; replace HS := Bx.mk HS
 have HS : Bx (St w0 (rdA rb ab n cb (B + 80) :: boxA bo 5 53 (.agg #[.int .i64 k3, .string p3, .string t3, .int .i64 a3, .string x3]) :: boxA b1 5 53 (.agg #[.int .i64 k3, .string p3, .string t3, .int .i64 a3, .string x3]) :: F) _) := HS
 refine wl_ne ?_
 refine wp_ret ?_
 refine bp_ret1 HF Tryz.results104 (HF.resBox rfl (HS.out.box 2 rfl) (by kernel_rfl)) ?_
 replace HS:=Bx.mk (HS.out.pick 0 rfl)
 replace HS : Bx (St w0 (rdA rb ab n cb (B + 120) :: boxA bo 5 53 (.agg #[.int .i64 k3, .string p3, .string t3, .int .i64 a3, .string x3]) :: boxA b1 5 53 (.agg #[.int .i64 k3, .string p3, .string t3, .int .i64 a3, .string x3]) :: F) _) := ⟨HS.out.rdLe (by omega)⟩
 exact ⟨⟨k3, p3, t3, a3, x3⟩, rfl, (by first | exact Nat.zero_le _ | (show ByteArray.size _ ≤ 100; first | omega | (rw [manyB_size]; show _ * 1 ≤ _; omega))), (by first | exact Nat.zero_le _ | (show ByteArray.size _ ≤ 100; first | omega | (rw [manyB_size]; show _ * 1 ≤ _; omega))), (by first | exact Nat.zero_le _ | (show ByteArray.size _ ≤ 100; first | omega | (rw [manyB_size]; show _ * 1 ≤ _; omega))), ((HS.out.erase 2).erase 1)⟩

end Go.Proofs.YtoaopmkbfifhaaaGreatDoor
