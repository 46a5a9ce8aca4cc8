/- A part of the proof in YtoaopmkbfifhaaaGreatDoorRwLZ29. -/
import Derived.Test.YtoaopmkbfifhaaaGreatDoorRwLZ20
/- Trees and roots as texts: walked. -/
namespace Go.Proofs.YtoaopmkbfifhaaaGreatDoor
set_option linter.unusedVariables false
set_option linter.unusedSimpArgs false
set_option maxHeartbeats 1000000
set_option maxRecDepth 100000
open Go.RowKit

theorem mapTake_succ {α β : Type} (f : α → β) (ys : List α) (d : α) {k : Nat} (h : k < ys.length) : (ys.take k).map f ++ [f (ys.getD k d)] = (ys.take (k + 1)).map f := by
  rw [List.take_add_one, List.getElem?_eq_getElem h, List.map_append]; simp [List.getD, h]
structure TreeD where
  fRoot : PtrD
  fDepth : Int
  fMany : Int
def TreeD.cells (t : TreeD) : List Value := t.fRoot.cells ++ [.int .i64 t.fDepth, .int .i64 t.fMany]
structure RootD where
  fTxg : Int
  fMeta : TreeD
abbrev rV (x : RootD) : Value := .agg #[.int .i64 x.fTxg, .int .i64 x.fMeta.fRoot.fAt, .int .i64 x.fMeta.fRoot.fBirth, .int .i64 x.fMeta.fRoot.fSize, .int .i64 x.fMeta.fRoot.fSum, .int .i64 x.fMeta.fRoot.fLevel, .int .i64 x.fMeta.fDepth, .int .i64 x.fMeta.fMany]
abbrev rZ : Value := .agg #[.int .i64 0, .int .i64 0, .int .i64 0, .int .i64 0, .int .i64 0, .int .i64 0, .int .i64 0, .int .i64 0]
def RootD.cells (x : RootD) : List Value := .int .i64 x.fTxg :: x.fMeta.cells
/-- The three fields of a tree. -/
def treeB (t : TreeD) : List ByteArray := [ptrB t.fRoot, numB t.fDepth, numB t.fMany]

theorem numbers_any (a0 : Option Addr) (n c0 : Nat) (ys : List Int) (w0 : World) (hT : TabP w0) (hl : ys.length ≤ 1000) (hR : Rd encI 1 w0 a0 n ys) : Calls Tryz.prog 128 #[.slice a0 n c0] w0 fun e w' => ∃ ao cp, e = .returned (.slice ao ys.length cp) ∧ St w0 [rowA encS 1 9 (.slice ao ys.length cp) (ys.map numB)] w' := by
 obtain rfl := hR.len
 obtain ⟨g0, o0, r0⟩ := hR.opn; have R0 := Bx.mk r0; clear r0 hR
 have HT := Bx.mk hT; clear hT
 have HS := Bx.mk (St.start w0)
 refine wc_enter Tryz.func128 rfl Tryz.ntmps128 [(0, .slice a0 ys.length c0)] ⟨rfl, trivial⟩ rfl ?_; intro a HF
 refine wp_sr ?_
 refine wl_as HF rfl rfl rfl rfl rfl ?_;clear HF a;intro a HF
 refine wl_ne ?_
 refine wp_sr ?_
 refine wl_as HF rfl rfl rfl rfl rfl ?_;clear HF a;intro a HF
 refine wl_ne ?_
 refine wp_seq ?_
 refine wp_sr ?_
 refine wl_mv HF rfl rfl rfl rfl rfl ?_;clear HF a;intro a HF
 refine wl_y rfl HF rfl rfl (yl_lenL (e := 3) (size := 1) rfl (HF.ev rfl) (by kernel_rfl)) ?_;clear HF a;intro a HF
 refine wl_mv HF rfl rfl rfl rfl rfl ?_;clear HF a;intro a HF
 refine wl_ne ?_
 refine wp_block ?_
 replace HS := Bx.mk (HS.out.nilRow encS 1 9 none)
 refine wc_loop (ι := Nat) (fun k a w => ∃ (ao : Option Addr) (cp : Nat) (xs : List ByteArray), (k ≤ ys.length ∧ xs = (ys.take k).map numB) ∧ Fr 19 a [(6, .slice a0 ys.length c0), (7, .int .i64 (ys.length : Int)), (3, .slice ao xs.length cp), (8, .int .i64 (k : Int))] ∧ St w0 ([rowA encS 1 9 (.slice ao xs.length cp) xs]) w) (fun k => ys.length - k) 0 ⟨_, _, [], ⟨Nat.zero_le _, rfl⟩, HF.less _ ⟨rfl, rfl, rfl, rfl, trivial⟩, HS.out⟩ ?_
 clear HF HS; clear a
 rintro k a w1 ⟨ao, cp, xs, ⟨hk, hq⟩, HF, HS⟩
 replace HS := Bx.mk HS
 have hxl : xs.length = k := by rw [hq]; simp; omega
 refine wp_sr ?_
 refine wl_y rfl HF rfl rfl (yl_lssI rfl (HF.ev rfl) (HF.ev rfl)) ?_;clear HF a;intro a HF
 refine wl_ne ?_
 refine wp_seq ?_
 refine HF.cases 9 rfl (fun cc1 HF1 => ?_) (fun cc1 HF1 => ?_)
 ·clear HF; have HF := HF1; clear HF1
  have dcc1 := of_decide_eq_true cc1
  refine wc_true HF rfl ?_
  refine wp_skip ?_
  refine ex_then ?_
  refine wp_seq ?_
  refine wp_block ?_
  refine wp_sr ?_
  refine wl_y rfl HF rfl rfl (yl_indexAddrR (e := 3) (i := k) (size := 1) rfl (HF.ev rfl) (HF.ev rfl) (by kernel_rfl) rfl (by omega) (R0.out.ao k (by omega))) ?_;clear HF a;intro a HF
  refine wl_y rfl HF rfl rfl (yl_load (v := .int .i64 (ys.getD k 0)) rfl (HF.ev rfl) (R0.out.elem1 HS.out (get_getD (xs := ys) (j := k) (d := 0) (by omega)) rfl) (by kernel_rfl)) ?_;clear HF a;intro a HF
  refine wl_as HF rfl rfl rfl rfl rfl ?_;clear HF a;intro a HF
  refine wl_ne ?_
  refine wp_region_lit ?_
  refine wl_mv HF rfl rfl rfl rfl rfl ?_;clear HF a;intro a HF
  refine wl_mv HF rfl rfl rfl rfl rfl ?_;clear HF a;intro a HF
  refine wl_callB rfl HF rfl (enter_of Tryz.func80 (by kernel_rfl) rfl) (args := #[.int .i64 (ys.getD k 0)]) rfl (v := .string (numB (ys.getD k 0))) (numPutI_any (ys.getD k 0) _ (HT.out.below HS.out.bel)) rfl rfl HS.out ?_; clear HF HS a; intro w2 a HS HF; replace HS := Bx.mk HS
  refine wl_buildS (enc := encS) (e := 9) (size := 1) rfl HF rfl rfl rfl (ps := [(0, .string (numB (ys.getD k 0)))]) rfl (cells := [.string (numB (ys.getD k 0))]) (by kernel_rfl) [numB (ys.getD k 0)] rfl rfl (by unfold maxLen; omega) rfl HS.out ?_; clear HF HS a; intro b1 a w3 HF HS; replace HS := Bx.mk HS
  refine wl_appL rfl HF rfl rfl rfl (HF.ev rfl) (HF.ev rfl) elemS encS_len HS.out 1 (xs := xs) rfl (ys := [numB (ys.getD k 0)]) (St.rdN HS.out encS_len 0 rfl) (cells_one_S _) (by unfold maxLen; (try simp only [List.length_append, List.length_cons, List.length_nil, List.nil_append, List.length_map]); omega) (by (try simp only [List.length_append, List.length_cons, List.length_nil, List.nil_append, List.length_map]); omega) ?_; clear HF HS a; intro ao2 cp3 w4 a HF HS; replace HS := Bx.mk HS
  replace HS : Bx (St w0 ([rowA encS 1 9 (.slice (some ⟨b1, 0, none⟩) 1 1) ([numB (ys.getD k 0)]), rowA encS 1 9 (.slice ao2 (xs.length + ([numB (ys.getD k 0)]).length) cp3) (xs ++ ([numB (ys.getD k 0)]))]) _) := ⟨HS.out⟩
  refine wl_as HF rfl rfl rfl rfl rfl ?_;clear HF a;intro a HF
  refine wpList_nil ?_
  refine ex_block ?_
  refine ex_then ?_
  refine wp_region_lit ?_
  refine wl_y rfl HF rfl rfl (yl_addI rfl (HF.ev rfl) (HF.ev rfl) (i64w (by omega))) ?_;clear HF a;intro a HF
  refine wl_mv HF rfl rfl rfl rfl rfl ?_;clear HF a;intro a HF
  refine wl_ne ?_
  have hz : xs.length + ([numB (ys.getD k 0)]).length = (xs ++ ([numB (ys.getD k 0)])).length := (List.length_append ..).symm
  rw [hz] at HS HF
  have hnext : xs ++ ([numB (ys.getD k 0)]) = (ys.take (k + 1)).map numB := by rw [hq]; exact mapTake_succ numB ys 0 (by omega)
  replace HS:=Bx.mk (HS.out.pick 1 rfl)
  exact ⟨k + 1, ⟨_, _, xs ++ ([numB (ys.getD k 0)]), ⟨by omega, hnext⟩, HF.less _ ⟨rfl, rfl, rfl, rfl, trivial⟩, (HS.out.erase 1)⟩, (by omega)⟩
 ·clear HF; have HF := HF1; clear HF1
  have dcc1 := of_decide_eq_false cc1
  refine wc_false HF rfl ?_
  refine wp_exit ?_
  refine ex_then_exit ?_
  refine ex_then_exit ?_
  refine ex_block_hit ?_
  refine ex_then ?_
  refine wp_sr ?_
  refine wl_mv HF rfl rfl rfl rfl rfl ?_;clear HF a;intro a HF
  refine wl_as HF rfl rfl rfl rfl rfl ?_;clear HF a;intro a HF
  refine wl_ne ?_
  refine wp_ret ?_
  refine bp_ret1 HF Tryz.results128 (HF.res rfl) ?_
  replace HS:=Bx.mk (HS.out.pick 0 rfl)
  obtain rfl : k = ys.length := by omega
  rw [List.take_length] at hq; subst hq
  exact ⟨_, _, by rw [List.length_map], by rw [← List.length_map (f := numB)]; exact HS.out⟩

theorem treeFields_any (t : TreeD) (w0 : World) (hT : TabP w0) : Calls Tryz.prog 81 #[.agg #[.int .i64 t.fRoot.fAt, .int .i64 t.fRoot.fBirth, .int .i64 t.fRoot.fSize, .int .i64 t.fRoot.fSum, .int .i64 t.fRoot.fLevel, .int .i64 t.fDepth, .int .i64 t.fMany]] w0 fun e w' => ∃ ao cp, e = .returned (.slice ao 3 cp) ∧ St w0 [rowA encS 1 9 (.slice ao 3 cp) (treeB t)] w' := by
 have HT := Bx.mk hT; clear hT
 have HS := Bx.mk (St.start w0)
 refine wc_enter Tryz.func81 rfl Tryz.ntmps81 [(0, .agg #[.int .i64 t.fRoot.fAt, .int .i64 t.fRoot.fBirth, .int .i64 t.fRoot.fSize, .int .i64 t.fRoot.fSum, .int .i64 t.fRoot.fLevel, .int .i64 t.fDepth, .int .i64 t.fMany])] ⟨rfl, trivial⟩ rfl ?_; intro a HF
 refine wp_sr ?_
 refine wl_box rfl HF rfl (HF.ev rfl) (Z := [.int .i64 t.fRoot.fAt, .int .i64 t.fRoot.fBirth, .int .i64 t.fRoot.fSize, .int .i64 t.fRoot.fSum, .int .i64 t.fRoot.fLevel, .int .i64 t.fDepth, .int .i64 t.fMany]) rfl rfl rfl rfl HS.out ?_; clear HF HS a; intro a w1 b1 HF HS; replace HS := Bx.mk HS
 refine wl_as HF rfl rfl rfl rfl rfl ?_;clear HF a;intro a HF
 refine wl_ne ?_
 refine wp_seq ?_
 refine wr_heldS (s := [boxA b1 7 40 (.agg #[.int .i64 t.fRoot.fAt, .int .i64 t.fRoot.fBirth, .int .i64 t.fRoot.fSize, .int .i64 t.fRoot.fSum, .int .i64 t.fRoot.fLevel, .int .i64 t.fDepth, .int .i64 t.fMany])]) (by kernel_rfl) (St.drew (HS.out)) ?_
 have HS2 := Bx.mk HS.out.drew; replace HS := Bx.mk (show St w0 ([boxA b1 7 40 (.agg #[.int .i64 t.fRoot.fAt, .int .i64 t.fRoot.fBirth, .int .i64 t.fRoot.fSize, .int .i64 t.fRoot.fSum, .int .i64 t.fRoot.fLevel, .int .i64 t.fDepth, .int .i64 t.fMany])]) _ from HS.out.drew)
 generalize World.drew _ = w2 at HS HS2 ⊢
 refine wh_y 0 rfl (by kernel_rfl) (by kernel_rfl) (by kernel_rfl) (fun _ _ _ h => h) rfl HF rfl rfl (fun _ HS => (yl_fieldAddr (j := 0) rfl (HF.ev rfl) (by kernel_rfl))) HS.out ?_;clear HF a;intro a HF
 refine wh_y 1 rfl (by kernel_rfl) (by kernel_rfl) (by kernel_rfl) (fun _ _ _ h => h) rfl HF rfl rfl (fun _ HS => (yl_loadR (cs := [.int .i64 t.fRoot.fAt, .int .i64 t.fRoot.fBirth, .int .i64 t.fRoot.fSize, .int .i64 t.fRoot.fSum, .int .i64 t.fRoot.fLevel]) rfl (HF.ev rfl) ((HS.box 0 rfl).sub 0 5) (by kernel_rfl))) HS.out ?_;clear HF a;intro a HF
 refine wh_y 4 rfl (by kernel_rfl) (by kernel_rfl) (by kernel_rfl) (fun _ _ _ h => h) rfl HF rfl rfl (fun _ HS => (yl_fieldAddr (j := 5) rfl (HF.ev rfl) (by kernel_rfl))) HS.out ?_;clear HF a;intro a HF
 refine wh_y 5 rfl (by kernel_rfl) (by kernel_rfl) (by kernel_rfl) (fun _ _ _ h => h) rfl HF rfl rfl (fun _ HS => (yl_load (v := .int .i64 t.fDepth) rfl (HF.ev rfl) (((HS.box 0 rfl).cell 5).trans rfl) (by kernel_rfl))) HS.out ?_;clear HF a;intro a HF
 refine wh_y 6 rfl (by kernel_rfl) (by kernel_rfl) (by kernel_rfl) (fun _ _ _ h => h) rfl HF rfl rfl (fun _ HS => (yl_fieldAddr (j := 6) rfl (HF.ev rfl) (by kernel_rfl))) HS.out ?_;clear HF a;intro a HF
 refine wh_y 7 rfl (by kernel_rfl) (by kernel_rfl) (by kernel_rfl) (fun _ _ _ h => h) rfl HF rfl rfl (fun _ HS => (yl_load (v := .int .i64 t.fMany) rfl (HF.ev rfl) (((HS.box 0 rfl).cell 6).trans rfl) (by kernel_rfl))) HS.out ?_;clear HF a;intro a HF
 refine wh_two 2 8 (by kernel_rfl) ?_ ?_
 ·skip
  refine wo_callB rfl rfl HF rfl (enter_of Tryz.func127 (by kernel_rfl) rfl) (args := #[.agg #[.int .i64 t.fRoot.fAt, .int .i64 t.fRoot.fBirth, .int .i64 t.fRoot.fSize, .int .i64 t.fRoot.fSum, .int .i64 t.fRoot.fLevel]]) rfl (v := .string (ptrB t.fRoot)) (ptrPutI_any t.fRoot _ (HT.out.below HS2.out.bel)) rfl rfl ?_
  intro w3 hb; replace HS := Bx.mk (HS.out.later hb); replace HS2 := Bx.mk (HS2.out.later hb); clear hb HF; clear a; intro a HF; refine ⟨HS.out, ?_⟩
  refine wh_two 3 8 (by kernel_rfl) ?_ ?_
  ·skip
   refine wo_buildS (enc := encS) (e := 9) (size := 1) rfl rfl HF rfl rfl rfl (ps := [(0, .string (ptrB t.fRoot))]) rfl (cells := [.string (ptrB t.fRoot)]) (by kernel_rfl) [ptrB t.fRoot] rfl rfl (by unfold maxLen; omega) rfl HS2.out HS.out ?_; clear HF HS HS2 a; intro b2 a w5 HF HS2 HS; replace HS := Bx.mk HS; replace HS2 := Bx.mk HS2; refine ⟨HS.out, ?_⟩
   refine wh_one 8 (by kernel_rfl) ?_
   refine wo_buildS (enc := encI) (e := 3) (size := 1) rfl rfl HF rfl rfl rfl (ps := [(0, .int .i64 t.fDepth), (1, .int .i64 t.fMany)]) rfl (cells := [.int .i64 t.fDepth, .int .i64 t.fMany]) (by kernel_rfl) [t.fDepth, t.fMany] rfl rfl (by unfold maxLen; omega) rfl HS2.out HS.out ?_; clear HF HS HS2 a; intro b3 a w7 HF HS2 HS; replace HS := Bx.mk HS; replace HS2 := Bx.mk HS2; refine ⟨HS.out, ?_⟩
   refine wh_one 9 (by kernel_rfl) ?_
   refine wo_call rfl rfl HF rfl (enter_of Tryz.func128 (by kernel_rfl) rfl) (args := #[.slice (some ⟨b3, 0, none⟩) 2 2]) rfl (numbers_any _ _ _ ([t.fDepth, t.fMany]) _ (HT.out.below HS2.out.bel) (by simp) (St.rdN HS2.out encI_len 0 rfl)) rfl rfl ?_
   rintro _ w9 ⟨ao4, cp4, rfl, hs⟩
   refine ⟨_, rfl, ?_⟩
   replace HS := Bx.mk (HS.out.later hs.bel); replace HS2 := Bx.mk (HS2.out.add hs); clear hs HF; clear a; intro a HF
   replace HS2 : Bx (St w0 ([rowA encS 1 9 (.slice ao4 (([t.fDepth, t.fMany]).length) cp4) (([t.fDepth, t.fMany]).map numB), rowA encI 1 3 (.slice (some ⟨b3, 0, none⟩) 2 2) ([t.fDepth, t.fMany]), rowA encS 1 9 (.slice (some ⟨b2, 0, none⟩) 1 1) ([ptrB t.fRoot]), boxA b1 7 40 (.agg #[.int .i64 t.fRoot.fAt, .int .i64 t.fRoot.fBirth, .int .i64 t.fRoot.fSize, .int .i64 t.fRoot.fSum, .int .i64 t.fRoot.fLevel, .int .i64 t.fDepth, .int .i64 t.fMany])]) _) := ⟨HS2.out⟩
   refine ⟨HS.out, ?_⟩
   refine wh_one 10 (by kernel_rfl) ?_
   refine wo_appL rfl rfl HF rfl rfl rfl (HF.ev rfl) (HF.ev rfl) elemS encS_len HS2.out 2 (xs := [ptrB t.fRoot]) rfl (ys := ([t.fDepth, t.fMany]).map numB) (St.rdN HS2.out encS_len 0 rfl) (cells_one_S _) (by unfold maxLen; (try simp only [List.length_append, List.length_cons, List.length_nil, List.nil_append, List.length_map]); omega) (by (try simp only [List.length_append, List.length_cons, List.length_nil, List.nil_append, List.length_map]); omega) ?_; clear HF HS HS2 a; intro ao5 cp6 w11 a HF HS2; replace HS2 := Bx.mk HS2
   replace HS2 : Bx (St w0 ([rowA encS 1 9 (.slice ao4 (([t.fDepth, t.fMany]).length) cp4) (([t.fDepth, t.fMany]).map numB), rowA encI 1 3 (.slice (some ⟨b3, 0, none⟩) 2 2) ([t.fDepth, t.fMany]), rowA encS 1 9 (.slice ao5 (([ptrB t.fRoot]).length + (([t.fDepth, t.fMany]).map numB).length) cp6) (([ptrB t.fRoot]) ++ (([t.fDepth, t.fMany]).map numB)), boxA b1 7 40 (.agg #[.int .i64 t.fRoot.fAt, .int .i64 t.fRoot.fBirth, .int .i64 t.fRoot.fSize, .int .i64 t.fRoot.fSum, .int .i64 t.fRoot.fLevel, .int .i64 t.fDepth, .int .i64 t.fMany])]) _) := ⟨HS2.out⟩
   have HS : Bx (St w0 ([boxA b1 7 40 (.agg #[.int .i64 t.fRoot.fAt, .int .i64 t.fRoot.fBirth, .int .i64 t.fRoot.fSize, .int .i64 t.fRoot.fSum, .int .i64 t.fRoot.fLevel, .int .i64 t.fDepth, .int .i64 t.fMany])]) _) := ⟨(((HS2.out.erase 2).erase 1).erase 0)⟩; refine ⟨HS.out, ?_⟩
   refine wh_y 11 rfl (by kernel_rfl) (by kernel_rfl) (by kernel_rfl) (fun _ _ _ h => h) rfl HF rfl rfl (fun _ HS => (yl_assign rfl (HF.ev rfl))) HS.out ?_;clear HF a;intro a HF
   refine wh_done (by kernel_rfl) ?_
   replace HS := HS2; clear HS2
   refine ex_then ?_
   refine wp_ret ?_
   refine bp_ret1 HF Tryz.results81 (HF.res rfl) ?_
   replace HS:=Bx.mk (HS.out.pick 2 rfl)
   exact ⟨_, _, rfl, (((HS.out.erase 3).erase 2).erase 1)⟩
  ·skip
   refine wo_buildS (enc := encI) (e := 3) (size := 1) rfl rfl HF rfl rfl rfl (ps := [(0, .int .i64 t.fDepth), (1, .int .i64 t.fMany)]) rfl (cells := [.int .i64 t.fDepth, .int .i64 t.fMany]) (by kernel_rfl) [t.fDepth, t.fMany] rfl rfl (by unfold maxLen; omega) rfl HS2.out HS.out ?_; clear HF HS HS2 a; intro b7 a w13 HF HS2 HS; replace HS := Bx.mk HS; replace HS2 := Bx.mk HS2; refine ⟨HS.out, ?_⟩
   refine wh_two 3 9 (by kernel_rfl) ?_ ?_
   ·skip
    refine wo_buildS (enc := encS) (e := 9) (size := 1) rfl rfl HF rfl rfl rfl (ps := [(0, .string (ptrB t.fRoot))]) rfl (cells := [.string (ptrB t.fRoot)]) (by kernel_rfl) [ptrB t.fRoot] rfl rfl (by unfold maxLen; omega) rfl HS2.out HS.out ?_; clear HF HS HS2 a; intro b8 a w15 HF HS2 HS; replace HS := Bx.mk HS; replace HS2 := Bx.mk HS2; refine ⟨HS.out, ?_⟩
    refine wh_one 9 (by kernel_rfl) ?_
    refine wo_call rfl rfl HF rfl (enter_of Tryz.func128 (by kernel_rfl) rfl) (args := #[.slice (some ⟨b7, 0, none⟩) 2 2]) rfl (numbers_any _ _ _ ([t.fDepth, t.fMany]) _ (HT.out.below HS2.out.bel) (by simp) (St.rdN HS2.out encI_len 1 rfl)) rfl rfl ?_
    rintro _ w17 ⟨ao9, cp9, rfl, hs⟩
    refine ⟨_, rfl, ?_⟩
    replace HS := Bx.mk (HS.out.later hs.bel); replace HS2 := Bx.mk (HS2.out.add hs); clear hs HF; clear a; intro a HF
    replace HS2 : Bx (St w0 ([rowA encS 1 9 (.slice ao9 (([t.fDepth, t.fMany]).length) cp9) (([t.fDepth, t.fMany]).map numB), rowA encS 1 9 (.slice (some ⟨b8, 0, none⟩) 1 1) ([ptrB t.fRoot]), rowA encI 1 3 (.slice (some ⟨b7, 0, none⟩) 2 2) ([t.fDepth, t.fMany]), boxA b1 7 40 (.agg #[.int .i64 t.fRoot.fAt, .int .i64 t.fRoot.fBirth, .int .i64 t.fRoot.fSize, .int .i64 t.fRoot.fSum, .int .i64 t.fRoot.fLevel, .int .i64 t.fDepth, .int .i64 t.fMany])]) _) := ⟨HS2.out⟩
    refine ⟨HS.out, ?_⟩
    refine wh_one 10 (by kernel_rfl) ?_
    refine wo_appL rfl rfl HF rfl rfl rfl (HF.ev rfl) (HF.ev rfl) elemS encS_len HS2.out 1 (xs := [ptrB t.fRoot]) rfl (ys := ([t.fDepth, t.fMany]).map numB) (St.rdN HS2.out encS_len 0 rfl) (cells_one_S _) (by unfold maxLen; (try simp only [List.length_append, List.length_cons, List.length_nil, List.nil_append, List.length_map]); omega) (by (try simp only [List.length_append, List.length_cons, List.length_nil, List.nil_append, List.length_map]); omega) ?_; clear HF HS HS2 a; intro ao10 cp11 w19 a HF HS2; replace HS2 := Bx.mk HS2
    replace HS2 : Bx (St w0 ([rowA encS 1 9 (.slice ao9 (([t.fDepth, t.fMany]).length) cp9) (([t.fDepth, t.fMany]).map numB), rowA encS 1 9 (.slice ao10 (([ptrB t.fRoot]).length + (([t.fDepth, t.fMany]).map numB).length) cp11) (([ptrB t.fRoot]) ++ (([t.fDepth, t.fMany]).map numB)), rowA encI 1 3 (.slice (some ⟨b7, 0, none⟩) 2 2) ([t.fDepth, t.fMany]), boxA b1 7 40 (.agg #[.int .i64 t.fRoot.fAt, .int .i64 t.fRoot.fBirth, .int .i64 t.fRoot.fSize, .int .i64 t.fRoot.fSum, .int .i64 t.fRoot.fLevel, .int .i64 t.fDepth, .int .i64 t.fMany])]) _) := ⟨HS2.out⟩
    have HS : Bx (St w0 ([boxA b1 7 40 (.agg #[.int .i64 t.fRoot.fAt, .int .i64 t.fRoot.fBirth, .int .i64 t.fRoot.fSize, .int .i64 t.fRoot.fSum, .int .i64 t.fRoot.fLevel, .int .i64 t.fDepth, .int .i64 t.fMany])]) _) := ⟨(((HS2.out.erase 2).erase 1).erase 0)⟩; refine ⟨HS.out, ?_⟩
    refine wh_y 11 rfl (by kernel_rfl) (by kernel_rfl) (by kernel_rfl) (fun _ _ _ h => h) rfl HF rfl rfl (fun _ HS => (yl_assign rfl (HF.ev rfl))) HS.out ?_;clear HF a;intro a HF
    refine wh_done (by kernel_rfl) ?_
    replace HS := HS2; clear HS2
    refine ex_then ?_
    refine wp_ret ?_
    refine bp_ret1 HF Tryz.results81 (HF.res rfl) ?_
    replace HS:=Bx.mk (HS.out.pick 1 rfl)
    exact ⟨_, _, rfl, (((HS.out.erase 3).erase 2).erase 1)⟩
   ·skip
    refine wo_call rfl rfl HF rfl (enter_of Tryz.func128 (by kernel_rfl) rfl) (args := #[.slice (some ⟨b7, 0, none⟩) 2 2]) rfl (numbers_any _ _ _ ([t.fDepth, t.fMany]) _ (HT.out.below HS2.out.bel) (by simp) (St.rdN HS2.out encI_len 0 rfl)) rfl rfl ?_
    rintro _ w21 ⟨ao12, cp12, rfl, hs⟩
    refine ⟨_, rfl, ?_⟩
    replace HS := Bx.mk (HS.out.later hs.bel); replace HS2 := Bx.mk (HS2.out.add hs); clear hs HF; clear a; intro a HF
    replace HS2 : Bx (St w0 ([rowA encS 1 9 (.slice ao12 (([t.fDepth, t.fMany]).length) cp12) (([t.fDepth, t.fMany]).map numB), rowA encI 1 3 (.slice (some ⟨b7, 0, none⟩) 2 2) ([t.fDepth, t.fMany]), boxA b1 7 40 (.agg #[.int .i64 t.fRoot.fAt, .int .i64 t.fRoot.fBirth, .int .i64 t.fRoot.fSize, .int .i64 t.fRoot.fSum, .int .i64 t.fRoot.fLevel, .int .i64 t.fDepth, .int .i64 t.fMany])]) _) := ⟨HS2.out⟩
    refine ⟨HS.out, ?_⟩
    refine wh_one 3 (by kernel_rfl) ?_
    refine wo_buildS (enc := encS) (e := 9) (size := 1) rfl rfl HF rfl rfl rfl (ps := [(0, .string (ptrB t.fRoot))]) rfl (cells := [.string (ptrB t.fRoot)]) (by kernel_rfl) [ptrB t.fRoot] rfl rfl (by unfold maxLen; omega) rfl HS2.out HS.out ?_; clear HF HS HS2 a; intro b13 a w23 HF HS2 HS; replace HS := Bx.mk HS; replace HS2 := Bx.mk HS2; refine ⟨HS.out, ?_⟩
    refine wh_one 10 (by kernel_rfl) ?_
    refine wo_appL rfl rfl HF rfl rfl rfl (HF.ev rfl) (HF.ev rfl) elemS encS_len HS2.out 0 (xs := [ptrB t.fRoot]) rfl (ys := ([t.fDepth, t.fMany]).map numB) (St.rdN HS2.out encS_len 1 rfl) (cells_one_S _) (by unfold maxLen; (try simp only [List.length_append, List.length_cons, List.length_nil, List.nil_append, List.length_map]); omega) (by (try simp only [List.length_append, List.length_cons, List.length_nil, List.nil_append, List.length_map]); omega) ?_; clear HF HS HS2 a; intro ao14 cp15 w25 a HF HS2; replace HS2 := Bx.mk HS2
    replace HS2 : Bx (St w0 ([rowA encS 1 9 (.slice ao14 (([ptrB t.fRoot]).length + (([t.fDepth, t.fMany]).map numB).length) cp15) (([ptrB t.fRoot]) ++ (([t.fDepth, t.fMany]).map numB)), rowA encS 1 9 (.slice ao12 (([t.fDepth, t.fMany]).length) cp12) (([t.fDepth, t.fMany]).map numB), rowA encI 1 3 (.slice (some ⟨b7, 0, none⟩) 2 2) ([t.fDepth, t.fMany]), boxA b1 7 40 (.agg #[.int .i64 t.fRoot.fAt, .int .i64 t.fRoot.fBirth, .int .i64 t.fRoot.fSize, .int .i64 t.fRoot.fSum, .int .i64 t.fRoot.fLevel, .int .i64 t.fDepth, .int .i64 t.fMany])]) _) := ⟨HS2.out⟩
    have HS : Bx (St w0 ([boxA b1 7 40 (.agg #[.int .i64 t.fRoot.fAt, .int .i64 t.fRoot.fBirth, .int .i64 t.fRoot.fSize, .int .i64 t.fRoot.fSum, .int .i64 t.fRoot.fLevel, .int .i64 t.fDepth, .int .i64 t.fMany])]) _) := ⟨(((HS2.out.erase 2).erase 1).erase 0)⟩; refine ⟨HS.out, ?_⟩
    refine wh_y 11 rfl (by kernel_rfl) (by kernel_rfl) (by kernel_rfl) (fun _ _ _ h => h) rfl HF rfl rfl (fun _ HS => (yl_assign rfl (HF.ev rfl))) HS.out ?_;clear HF a;intro a HF
    refine wh_done (by kernel_rfl) ?_
    replace HS := HS2; clear HS2
    refine ex_then ?_
    refine wp_ret ?_
    refine bp_ret1 HF Tryz.results81 (HF.res rfl) ?_
    replace HS:=Bx.mk (HS.out.pick 0 rfl)
    exact ⟨_, _, rfl, (((HS.out.erase 3).erase 2).erase 1)⟩
 ·skip
  refine wo_buildS (enc := encI) (e := 3) (size := 1) rfl rfl HF rfl rfl rfl (ps := [(0, .int .i64 t.fDepth), (1, .int .i64 t.fMany)]) rfl (cells := [.int .i64 t.fDepth, .int .i64 t.fMany]) (by kernel_rfl) [t.fDepth, t.fMany] rfl rfl (by unfold maxLen; omega) rfl HS2.out HS.out ?_; clear HF HS HS2 a; intro b16 a w27 HF HS2 HS; replace HS := Bx.mk HS; replace HS2 := Bx.mk HS2; refine ⟨HS.out, ?_⟩
  refine wh_one 2 (by kernel_rfl) ?_
  refine wo_callB rfl rfl HF rfl (enter_of Tryz.func127 (by kernel_rfl) rfl) (args := #[.agg #[.int .i64 t.fRoot.fAt, .int .i64 t.fRoot.fBirth, .int .i64 t.fRoot.fSize, .int .i64 t.fRoot.fSum, .int .i64 t.fRoot.fLevel]]) rfl (v := .string (ptrB t.fRoot)) (ptrPutI_any t.fRoot _ (HT.out.below HS2.out.bel)) rfl rfl ?_
  intro w28 hb; replace HS := Bx.mk (HS.out.later hb); replace HS2 := Bx.mk (HS2.out.later hb); clear hb HF; clear a; intro a HF; refine ⟨HS.out, ?_⟩
  refine wh_two 3 9 (by kernel_rfl) ?_ ?_
  ·skip
   refine wo_buildS (enc := encS) (e := 9) (size := 1) rfl rfl HF rfl rfl rfl (ps := [(0, .string (ptrB t.fRoot))]) rfl (cells := [.string (ptrB t.fRoot)]) (by kernel_rfl) [ptrB t.fRoot] rfl rfl (by unfold maxLen; omega) rfl HS2.out HS.out ?_; clear HF HS HS2 a; intro b17 a w30 HF HS2 HS; replace HS := Bx.mk HS; replace HS2 := Bx.mk HS2; refine ⟨HS.out, ?_⟩
   refine wh_one 9 (by kernel_rfl) ?_
   refine wo_call rfl rfl HF rfl (enter_of Tryz.func128 (by kernel_rfl) rfl) (args := #[.slice (some ⟨b16, 0, none⟩) 2 2]) rfl (numbers_any _ _ _ ([t.fDepth, t.fMany]) _ (HT.out.below HS2.out.bel) (by simp) (St.rdN HS2.out encI_len 1 rfl)) rfl rfl ?_
   rintro _ w32 ⟨ao18, cp18, rfl, hs⟩
   refine ⟨_, rfl, ?_⟩
   replace HS := Bx.mk (HS.out.later hs.bel); replace HS2 := Bx.mk (HS2.out.add hs); clear hs HF; clear a; intro a HF
   replace HS2 : Bx (St w0 ([rowA encS 1 9 (.slice ao18 (([t.fDepth, t.fMany]).length) cp18) (([t.fDepth, t.fMany]).map numB), rowA encS 1 9 (.slice (some ⟨b17, 0, none⟩) 1 1) ([ptrB t.fRoot]), rowA encI 1 3 (.slice (some ⟨b16, 0, none⟩) 2 2) ([t.fDepth, t.fMany]), boxA b1 7 40 (.agg #[.int .i64 t.fRoot.fAt, .int .i64 t.fRoot.fBirth, .int .i64 t.fRoot.fSize, .int .i64 t.fRoot.fSum, .int .i64 t.fRoot.fLevel, .int .i64 t.fDepth, .int .i64 t.fMany])]) _) := ⟨HS2.out⟩
   refine ⟨HS.out, ?_⟩
   refine wh_one 10 (by kernel_rfl) ?_
   refine wo_appL rfl rfl HF rfl rfl rfl (HF.ev rfl) (HF.ev rfl) elemS encS_len HS2.out 1 (xs := [ptrB t.fRoot]) rfl (ys := ([t.fDepth, t.fMany]).map numB) (St.rdN HS2.out encS_len 0 rfl) (cells_one_S _) (by unfold maxLen; (try simp only [List.length_append, List.length_cons, List.length_nil, List.nil_append, List.length_map]); omega) (by (try simp only [List.length_append, List.length_cons, List.length_nil, List.nil_append, List.length_map]); omega) ?_; clear HF HS HS2 a; intro ao19 cp20 w34 a HF HS2; replace HS2 := Bx.mk HS2
   replace HS2 : Bx (St w0 ([rowA encS 1 9 (.slice ao18 (([t.fDepth, t.fMany]).length) cp18) (([t.fDepth, t.fMany]).map numB), rowA encS 1 9 (.slice ao19 (([ptrB t.fRoot]).length + (([t.fDepth, t.fMany]).map numB).length) cp20) (([ptrB t.fRoot]) ++ (([t.fDepth, t.fMany]).map numB)), rowA encI 1 3 (.slice (some ⟨b16, 0, none⟩) 2 2) ([t.fDepth, t.fMany]), boxA b1 7 40 (.agg #[.int .i64 t.fRoot.fAt, .int .i64 t.fRoot.fBirth, .int .i64 t.fRoot.fSize, .int .i64 t.fRoot.fSum, .int .i64 t.fRoot.fLevel, .int .i64 t.fDepth, .int .i64 t.fMany])]) _) := ⟨HS2.out⟩
   have HS : Bx (St w0 ([boxA b1 7 40 (.agg #[.int .i64 t.fRoot.fAt, .int .i64 t.fRoot.fBirth, .int .i64 t.fRoot.fSize, .int .i64 t.fRoot.fSum, .int .i64 t.fRoot.fLevel, .int .i64 t.fDepth, .int .i64 t.fMany])]) _) := ⟨(((HS2.out.erase 2).erase 1).erase 0)⟩; refine ⟨HS.out, ?_⟩
   refine wh_y 11 rfl (by kernel_rfl) (by kernel_rfl) (by kernel_rfl) (fun _ _ _ h => h) rfl HF rfl rfl (fun _ HS => (yl_assign rfl (HF.ev rfl))) HS.out ?_;clear HF a;intro a HF
   refine wh_done (by kernel_rfl) ?_
   replace HS := HS2; clear HS2
   refine ex_then ?_
   refine wp_ret ?_
   refine bp_ret1 HF Tryz.results81 (HF.res rfl) ?_
   replace HS:=Bx.mk (HS.out.pick 1 rfl)
   exact ⟨_, _, rfl, (((HS.out.erase 3).erase 2).erase 1)⟩
  ·skip
   refine wo_call rfl rfl HF rfl (enter_of Tryz.func128 (by kernel_rfl) rfl) (args := #[.slice (some ⟨b16, 0, none⟩) 2 2]) rfl (numbers_any _ _ _ ([t.fDepth, t.fMany]) _ (HT.out.below HS2.out.bel) (by simp) (St.rdN HS2.out encI_len 0 rfl)) rfl rfl ?_
   rintro _ w36 ⟨ao21, cp21, rfl, hs⟩
   refine ⟨_, rfl, ?_⟩
   replace HS := Bx.mk (HS.out.later hs.bel); replace HS2 := Bx.mk (HS2.out.add hs); clear hs HF; clear a; intro a HF
   replace HS2 : Bx (St w0 ([rowA encS 1 9 (.slice ao21 (([t.fDepth, t.fMany]).length) cp21) (([t.fDepth, t.fMany]).map numB), rowA encI 1 3 (.slice (some ⟨b16, 0, none⟩) 2 2) ([t.fDepth, t.fMany]), boxA b1 7 40 (.agg #[.int .i64 t.fRoot.fAt, .int .i64 t.fRoot.fBirth, .int .i64 t.fRoot.fSize, .int .i64 t.fRoot.fSum, .int .i64 t.fRoot.fLevel, .int .i64 t.fDepth, .int .i64 t.fMany])]) _) := ⟨HS2.out⟩
   refine ⟨HS.out, ?_⟩
   refine wh_one 3 (by kernel_rfl) ?_
   refine wo_buildS (enc := encS) (e := 9) (size := 1) rfl rfl HF rfl rfl rfl (ps := [(0, .string (ptrB t.fRoot))]) rfl (cells := [.string (ptrB t.fRoot)]) (by kernel_rfl) [ptrB t.fRoot] rfl rfl (by unfold maxLen; omega) rfl HS2.out HS.out ?_; clear HF HS HS2 a; intro b22 a w38 HF HS2 HS; replace HS := Bx.mk HS; replace HS2 := Bx.mk HS2; refine ⟨HS.out, ?_⟩
   refine wh_one 10 (by kernel_rfl) ?_
   refine wo_appL rfl rfl HF rfl rfl rfl (HF.ev rfl) (HF.ev rfl) elemS encS_len HS2.out 0 (xs := [ptrB t.fRoot]) rfl (ys := ([t.fDepth, t.fMany]).map numB) (St.rdN HS2.out encS_len 1 rfl) (cells_one_S _) (by unfold maxLen; (try simp only [List.length_append, List.length_cons, List.length_nil, List.nil_append, List.length_map]); omega) (by (try simp only [List.length_append, List.length_cons, List.length_nil, List.nil_append, List.length_map]); omega) ?_; clear HF HS HS2 a; intro ao23 cp24 w40 a HF HS2; replace HS2 := Bx.mk HS2
   replace HS2 : Bx (St w0 ([rowA encS 1 9 (.slice ao23 (([ptrB t.fRoot]).length + (([t.fDepth, t.fMany]).map numB).length) cp24) (([ptrB t.fRoot]) ++ (([t.fDepth, t.fMany]).map numB)), rowA encS 1 9 (.slice ao21 (([t.fDepth, t.fMany]).length) cp21) (([t.fDepth, t.fMany]).map numB), rowA encI 1 3 (.slice (some ⟨b16, 0, none⟩) 2 2) ([t.fDepth, t.fMany]), boxA b1 7 40 (.agg #[.int .i64 t.fRoot.fAt, .int .i64 t.fRoot.fBirth, .int .i64 t.fRoot.fSize, .int .i64 t.fRoot.fSum, .int .i64 t.fRoot.fLevel, .int .i64 t.fDepth, .int .i64 t.fMany])]) _) := ⟨HS2.out⟩
   have HS : Bx (St w0 ([boxA b1 7 40 (.agg #[.int .i64 t.fRoot.fAt, .int .i64 t.fRoot.fBirth, .int .i64 t.fRoot.fSize, .int .i64 t.fRoot.fSum, .int .i64 t.fRoot.fLevel, .int .i64 t.fDepth, .int .i64 t.fMany])]) _) := ⟨(((HS2.out.erase 2).erase 1).erase 0)⟩; refine ⟨HS.out, ?_⟩
   refine wh_y 11 rfl (by kernel_rfl) (by kernel_rfl) (by kernel_rfl) (fun _ _ _ h => h) rfl HF rfl rfl (fun _ HS => (yl_assign rfl (HF.ev rfl))) HS.out ?_;clear HF a;intro a HF
   refine wh_done (by kernel_rfl) ?_
   replace HS := HS2; clear HS2
   refine ex_then ?_
   refine wp_ret ?_
   refine bp_ret1 HF Tryz.results81 (HF.res rfl) ?_
   replace HS:=Bx.mk (HS.out.pick 0 rfl)
   exact ⟨_, _, rfl, (((HS.out.erase 3).erase 2).erase 1)⟩

theorem l21Tree_any (t : TreeD) (w0 : World) : Calls Tryz.prog 66 #[.agg #[.int .i64 t.fRoot.fAt, .int .i64 t.fRoot.fBirth, .int .i64 t.fRoot.fSize, .int .i64 t.fRoot.fSum, .int .i64 t.fRoot.fLevel, .int .i64 t.fDepth, .int .i64 t.fMany]] w0 fun e w' => ∃ ao cp, e = .returned (.slice ao 3 cp) ∧ St w0 [rowA encS 1 9 (.slice ao 3 cp) (treeB t)] w' := by
 have HS := Bx.mk (St.start w0)
 refine wc_enter Tryz.func66 rfl Tryz.ntmps66 [(0, .agg #[.int .i64 t.fRoot.fAt, .int .i64 t.fRoot.fBirth, .int .i64 t.fRoot.fSize, .int .i64 t.fRoot.fSum, .int .i64 t.fRoot.fLevel, .int .i64 t.fDepth, .int .i64 t.fMany])] ⟨rfl, trivial⟩ rfl ?_; intro a HF
 refine wp_sr ?_
 refine wl_box rfl HF rfl (HF.ev rfl) (Z := [.int .i64 t.fRoot.fAt, .int .i64 t.fRoot.fBirth, .int .i64 t.fRoot.fSize, .int .i64 t.fRoot.fSum, .int .i64 t.fRoot.fLevel, .int .i64 t.fDepth, .int .i64 t.fMany]) rfl rfl rfl rfl HS.out ?_; clear HF HS a; intro a w1 b1 HF HS; replace HS := Bx.mk HS
 refine wl_as HF rfl rfl rfl rfl rfl ?_;clear HF a;intro a HF
 refine wl_ne ?_
 refine wp_seq ?_
 refine wr_heldS (s := [boxA b1 7 40 (.agg #[.int .i64 t.fRoot.fAt, .int .i64 t.fRoot.fBirth, .int .i64 t.fRoot.fSize, .int .i64 t.fRoot.fSum, .int .i64 t.fRoot.fLevel, .int .i64 t.fDepth, .int .i64 t.fMany])]) (by kernel_rfl) (St.drew (HS.out)) ?_
 have HS2 := Bx.mk HS.out.drew; replace HS := Bx.mk (show St w0 ([boxA b1 7 40 (.agg #[.int .i64 t.fRoot.fAt, .int .i64 t.fRoot.fBirth, .int .i64 t.fRoot.fSize, .int .i64 t.fRoot.fSum, .int .i64 t.fRoot.fLevel, .int .i64 t.fDepth, .int .i64 t.fMany])]) _ from HS.out.drew)
 generalize World.drew _ = w2 at HS HS2 ⊢
 refine wh_y 0 rfl (by kernel_rfl) (by kernel_rfl) (by kernel_rfl) (fun _ _ _ h => h) rfl HF rfl rfl (fun _ HS => (yl_fieldAddr (j := 0) rfl (HF.ev rfl) (by kernel_rfl))) HS.out ?_;clear HF a;intro a HF
 refine wh_y 1 rfl (by kernel_rfl) (by kernel_rfl) (by kernel_rfl) (fun _ _ _ h => h) rfl HF rfl rfl (fun _ HS => (yl_loadR (cs := [.int .i64 t.fRoot.fAt, .int .i64 t.fRoot.fBirth, .int .i64 t.fRoot.fSize, .int .i64 t.fRoot.fSum, .int .i64 t.fRoot.fLevel]) rfl (HF.ev rfl) ((HS.box 0 rfl).sub 0 5) (by kernel_rfl))) HS.out ?_;clear HF a;intro a HF
 refine wh_y 3 rfl (by kernel_rfl) (by kernel_rfl) (by kernel_rfl) (fun _ _ _ h => h) rfl HF rfl rfl (fun _ HS => (yl_fieldAddr (j := 5) rfl (HF.ev rfl) (by kernel_rfl))) HS.out ?_;clear HF a;intro a HF
 refine wh_y 4 rfl (by kernel_rfl) (by kernel_rfl) (by kernel_rfl) (fun _ _ _ h => h) rfl HF rfl rfl (fun _ HS => (yl_load (v := .int .i64 t.fDepth) rfl (HF.ev rfl) (((HS.box 0 rfl).cell 5).trans rfl) (by kernel_rfl))) HS.out ?_;clear HF a;intro a HF
 refine wh_y 6 rfl (by kernel_rfl) (by kernel_rfl) (by kernel_rfl) (fun _ _ _ h => h) rfl HF rfl rfl (fun _ HS => (yl_fieldAddr (j := 6) rfl (HF.ev rfl) (by kernel_rfl))) HS.out ?_;clear HF a;intro a HF
 refine wh_y 7 rfl (by kernel_rfl) (by kernel_rfl) (by kernel_rfl) (fun _ _ _ h => h) rfl HF rfl rfl (fun _ HS => (yl_load (v := .int .i64 t.fMany) rfl (HF.ev rfl) (((HS.box 0 rfl).cell 6).trans rfl) (by kernel_rfl))) HS.out ?_;clear HF a;intro a HF
 refine wh_one 2 (by kernel_rfl) ?_
 refine wo_callB rfl rfl HF rfl (enter_of Tryz.func112 (by kernel_rfl) rfl) (args := #[.agg #[.int .i64 t.fRoot.fAt, .int .i64 t.fRoot.fBirth, .int .i64 t.fRoot.fSize, .int .i64 t.fRoot.fSum, .int .i64 t.fRoot.fLevel]]) rfl (v := .string (ptrB t.fRoot)) (ptrPutS_any t.fRoot _) rfl rfl ?_
 intro w3 hb; replace HS := Bx.mk (HS.out.later hb); replace HS2 := Bx.mk (HS2.out.later hb); clear hb HF; clear a; intro a HF; refine ⟨HS.out, ?_⟩
 refine wh_one 5 (by kernel_rfl) ?_
 refine wo_callB rfl rfl HF rfl (enter_of Tryz.func113 (by kernel_rfl) rfl) (args := #[.int .i64 t.fDepth]) rfl (v := .string (numB t.fDepth)) (numPutS_any t.fDepth _) rfl rfl ?_
 intro w4 hb; replace HS := Bx.mk (HS.out.later hb); replace HS2 := Bx.mk (HS2.out.later hb); clear hb HF; clear a; intro a HF; refine ⟨HS.out, ?_⟩
 refine wh_one 8 (by kernel_rfl) ?_
 refine wo_callB rfl rfl HF rfl (enter_of Tryz.func113 (by kernel_rfl) rfl) (args := #[.int .i64 t.fMany]) rfl (v := .string (numB t.fMany)) (numPutS_any t.fMany _) rfl rfl ?_
 intro w5 hb; replace HS := Bx.mk (HS.out.later hb); replace HS2 := Bx.mk (HS2.out.later hb); clear hb HF; clear a; intro a HF; refine ⟨HS.out, ?_⟩
 refine wh_one 9 (by kernel_rfl) ?_
 refine wo_buildS (enc := encS) (e := 9) (size := 1) rfl rfl HF rfl rfl rfl (ps := [(0, .string (ptrB t.fRoot)), (1, .string (numB t.fDepth)), (2, .string (numB t.fMany))]) rfl (cells := [.string (ptrB t.fRoot), .string (numB t.fDepth), .string (numB t.fMany)]) (by kernel_rfl) [ptrB t.fRoot, numB t.fDepth, numB t.fMany] rfl rfl (by unfold maxLen; omega) rfl HS2.out HS.out ?_; clear HF HS HS2 a; intro b2 a w7 HF HS2 HS; replace HS := Bx.mk HS; replace HS2 := Bx.mk HS2; refine ⟨HS.out, ?_⟩
 refine wh_y 10 rfl (by kernel_rfl) (by kernel_rfl) (by kernel_rfl) (fun _ _ _ h => h) rfl HF rfl rfl (fun _ HS => (yl_assign rfl (HF.ev rfl))) HS.out ?_;clear HF a;intro a HF
 refine wh_done (by kernel_rfl) ?_
 replace HS := HS2; clear HS2
 refine ex_then ?_
 refine wp_ret ?_
 refine bp_ret1 HF Tryz.results66 (HF.res rfl) ?_
 replace HS:=Bx.mk (HS.out.pick 0 rfl)
 exact ⟨_, _, rfl, (HS.out.erase 1)⟩

theorem treeB_len (t : TreeD) : (treeB t).length = 3 := rfl
theorem szs_tree (t : TreeD) : szs (treeB t) := szs_cons (Nat.le_trans (ptrB_le _) (by decide)) (szs_cons (Nat.le_trans (numB_le _) (by decide)) (szs_cons (Nat.le_trans (numB_le _) (by decide)) szs_nil))
theorem signed_any (w0 w : World) (ao : Option Addr) (n c : Nat) (xs : List ByteArray) (F : List Asr) (hT : TabP w0) (hl : xs.length ≤ 100) (hx : szs xs) (hS : St w0 (rowA encS 1 9 (.slice ao n c) xs :: F) w) : Calls Tryz.prog 79 #[.slice ao n c] w fun e w' => e = .returned (.string (signB xs)) ∧ St w0 F w' := by
 have hfz := fieldsPut_le xs
 have HT := Bx.mk hT; clear hT
 have HS := Bx.mk hS; clear hS
 refine wc_enter Tryz.func79 rfl Tryz.ntmps79 [(0, .slice ao n c)] ⟨rfl, trivial⟩ rfl ?_; intro a HF
 refine wp_sr ?_
 refine wl_as HF rfl rfl rfl rfl rfl ?_;clear HF a;intro a HF
 refine wl_ne ?_
 refine wp_sr ?_
 refine wl_mv HF rfl rfl rfl rfl rfl ?_;clear HF a;intro a HF
 refine wl_callB rfl HF rfl (enter_of Tryz.func124 (by kernel_rfl) rfl) (args := #[.slice ao n c]) rfl (v := .tuple #[.string ((fieldsPut xs).1), .bool ((fieldsPut xs).2)]) (fieldsPutI_any _ _ _ xs _ (HT.out.below HS.out.bel) (by (try simp only [List.length_append, List.length_cons, List.length_nil, List.nil_append, List.length_map]); omega) hx (St.rdN HS.out encS_len 0 rfl)) rfl rfl HS.out ?_; clear HF HS a; intro w1 a HS HF; replace HS := Bx.mk HS
 refine wl_mv HF rfl rfl rfl rfl rfl ?_;clear HF a;intro a HF
 refine wl_y rfl HF rfl rfl (yl_extract rfl (HF.ev rfl) rfl) ?_;clear HF a;intro a HF
 refine wl_y rfl HF rfl rfl (yl_extract rfl (HF.ev rfl) rfl) ?_;clear HF a;intro a HF
 refine wl_as HF rfl rfl rfl rfl rfl ?_;clear HF a;intro a HF
 refine wl_as HF rfl rfl rfl rfl rfl ?_;clear HF a;intro a HF
 refine wl_ne ?_
 refine wp_sr ?_
 refine wl_mv HF rfl rfl rfl rfl rfl ?_;clear HF a;intro a HF
 refine wl_mv HF rfl rfl rfl rfl rfl ?_;clear HF a;intro a HF
 refine wl_callB rfl HF rfl (enter_of Tryz.func125 (by kernel_rfl) rfl) (args := #[.string ((fieldsPut xs).1)]) rfl (v := .int .i64 (sumOf ((fieldsPut xs).1))) (sumOfI_any ((fieldsPut xs).1) _ (by omega)) rfl rfl HS.out ?_; clear HF HS a; intro w2 a HS HF; replace HS := Bx.mk HS
 refine wl_callB rfl HF rfl (enter_of Tryz.func80 (by kernel_rfl) rfl) (args := #[.int .i64 (sumOf ((fieldsPut xs).1))]) rfl (v := .string (numB (sumOf ((fieldsPut xs).1)))) (numPutI_any (sumOf ((fieldsPut xs).1)) _ (HT.out.below HS.out.bel)) rfl rfl HS.out ?_; clear HF HS a; intro w3 a HS HF; replace HS := Bx.mk HS
 refine wl_buildS (enc := encS) (e := 9) (size := 1) rfl HF rfl rfl rfl (ps := [(0, .string (numB (sumOf ((fieldsPut xs).1))))]) rfl (cells := [.string (numB (sumOf ((fieldsPut xs).1)))]) (by kernel_rfl) [numB (sumOf ((fieldsPut xs).1))] rfl rfl (by unfold maxLen; omega) rfl HS.out ?_; clear HF HS a; intro b1 a w4 HF HS; replace HS := Bx.mk HS
 refine wl_appL rfl HF rfl rfl rfl (HF.ev rfl) (HF.ev rfl) elemS encS_len HS.out 1 (xs := xs) rfl (ys := [numB (sumOf ((fieldsPut xs).1))]) (St.rdN HS.out encS_len 0 rfl) (cells_one_S _) (by unfold maxLen; (try simp only [List.length_append, List.length_cons, List.length_nil, List.nil_append, List.length_map]); omega) (by (try simp only [List.length_append, List.length_cons, List.length_nil, List.nil_append, List.length_map]); omega) ?_; clear HF HS a; intro ao2 cp3 w5 a HF HS; replace HS := Bx.mk HS
 replace HS : Bx (St w0 (rowA encS 1 9 (.slice (some ⟨b1, 0, none⟩) 1 1) ([numB (sumOf ((fieldsPut xs).1))]) :: rowA encS 1 9 (.slice ao2 (xs.length + ([numB (sumOf ((fieldsPut xs).1))]).length) cp3) (xs ++ ([numB (sumOf ((fieldsPut xs).1))])) :: F) _) := ⟨HS.out⟩
 refine wl_callB rfl HF rfl (enter_of Tryz.func124 (by kernel_rfl) rfl) (args := #[.slice ao2 (xs.length + ([numB (sumOf ((fieldsPut xs).1))]).length) cp3]) rfl (v := .tuple #[.string ((fieldsPut (xs ++ ([numB (sumOf ((fieldsPut xs).1))]))).1), .bool ((fieldsPut (xs ++ ([numB (sumOf ((fieldsPut xs).1))]))).2)]) (fieldsPutI_any _ _ _ (xs ++ ([numB (sumOf ((fieldsPut xs).1))])) _ (HT.out.below HS.out.bel) (by (try simp only [List.length_append, List.length_cons, List.length_nil, List.nil_append, List.length_map]); omega) (szs_app hx (szs_cons (Nat.le_trans (numB_le _) (by decide)) szs_nil)) (St.rdN HS.out encS_len 1 rfl)) rfl rfl HS.out ?_; clear HF HS a; intro w6 a HS HF; replace HS := Bx.mk HS
 refine wl_mv HF rfl rfl rfl rfl rfl ?_;clear HF a;intro a HF
 refine wl_y rfl HF rfl rfl (yl_extract rfl (HF.ev rfl) rfl) ?_;clear HF a;intro a HF
 refine wl_y rfl HF rfl rfl (yl_extract rfl (HF.ev rfl) rfl) ?_;clear HF a;intro a HF
 refine wl_as HF rfl rfl rfl rfl rfl ?_;clear HF a;intro a HF
 refine wl_as HF rfl rfl rfl rfl rfl ?_;clear HF a;intro a HF
 refine wl_ne ?_
 refine wp_sr ?_
 refine wl_mv HF rfl rfl rfl rfl rfl ?_;clear HF a;intro a HF
 refine wl_as HF rfl rfl rfl rfl rfl ?_;clear HF a;intro a HF
 refine wl_ne ?_
 refine wp_ret ?_
 refine bp_ret1 HF Tryz.results79 (HF.res rfl) ?_
 exact ⟨by unfold signB; rw [← numB_sum]; rfl, ((HS.out.erase 1).erase 0)⟩

def RootD.ok (x : RootD) : Bool := (bif inB x.fTxg 1 900 then (bif x.fMeta.fRoot.ok then (bif inB x.fMeta.fDepth 0 2 then inB x.fMeta.fMany 1 16 else false) else false) else false)

theorem implRootOk_any (x : RootD) (w0 : World) : Calls Tryz.prog 36 #[(rV x)] w0 fun e w' => e = .returned (.bool x.ok) ∧ Below w0.heap.size w0 w' := by
 have HS := Bx.mk (St.start w0)
 refine wc_enter Tryz.func36 rfl Tryz.ntmps36 [(0, (rV x))] ⟨rfl, trivial⟩ rfl ?_; intro a HF
 refine wp_sr ?_
 refine wl_box rfl HF rfl (HF.ev rfl) (Z := [.int .i64 x.fTxg, .int .i64 x.fMeta.fRoot.fAt, .int .i64 x.fMeta.fRoot.fBirth, .int .i64 x.fMeta.fRoot.fSize, .int .i64 x.fMeta.fRoot.fSum, .int .i64 x.fMeta.fRoot.fLevel, .int .i64 x.fMeta.fDepth, .int .i64 x.fMeta.fMany]) rfl rfl rfl rfl HS.out ?_; clear HF HS a; intro a w1 b1 HF HS; replace HS := Bx.mk HS
 refine wl_as HF rfl rfl rfl rfl rfl ?_;clear HF a;intro a HF
 refine wl_ne ?_
 refine wp_sr ?_
 refine wl_y rfl HF rfl rfl (yl_fieldAddr (j := 0) rfl (HF.ev rfl) (by kernel_rfl)) ?_;clear HF a;intro a HF
 refine wl_y rfl HF rfl rfl (yl_load (v := .int .i64 x.fTxg) rfl (HF.ev rfl) (((HS.out.box 0 rfl).cell 0).trans rfl) (by kernel_rfl)) ?_;clear HF a;intro a HF
 refine wl_callB rfl HF rfl (enter_of Tryz.func52 (by kernel_rfl) rfl) (args := #[.int .i64 x.fTxg, .int .i64 1, .int .i64 900]) rfl (v := .bool (inB x.fTxg 1 900)) (((within_any x.fTxg 1 900 _).mono fun _ _ h => ⟨h.1, h.2 ▸ Below.refl _ _⟩)) rfl rfl HS.out ?_; clear HF HS a; intro w2 a HS HF; replace HS := Bx.mk HS
 refine wl_mv HF rfl rfl rfl rfl rfl ?_;clear HF a;intro a HF
 refine HF.cases 6 rfl (fun cc1 HF1 => ?_) (fun cc1 HF1 => ?_)
 ·clear HF; have HF := HF1; clear HF1
  refine wl_yg HF rfl rfl rfl rfl rfl (yl_fieldAddr (j := 1) rfl (HF.ev rfl) (by kernel_rfl)) ?_;clear HF a;intro a HF
  refine wl_yg HF rfl rfl rfl rfl rfl (yl_fieldAddr (j := 0) rfl (HF.ev rfl) (by kernel_rfl)) ?_;clear HF a;intro a HF
  refine wl_yg HF rfl rfl rfl rfl rfl (yl_loadR (cs := [.int .i64 x.fMeta.fRoot.fAt, .int .i64 x.fMeta.fRoot.fBirth, .int .i64 x.fMeta.fRoot.fSize, .int .i64 x.fMeta.fRoot.fSum, .int .i64 x.fMeta.fRoot.fLevel]) rfl (HF.ev rfl) ((HS.out.box 0 rfl).sub 1 5) (by kernel_rfl)) ?_;clear HF a;intro a HF
  refine wl_callBg HF rfl rfl rfl rfl (enter_of Tryz.func74 (by kernel_rfl) rfl) (args := #[.agg #[.int .i64 x.fMeta.fRoot.fAt, .int .i64 x.fMeta.fRoot.fBirth, .int .i64 x.fMeta.fRoot.fSize, .int .i64 x.fMeta.fRoot.fSum, .int .i64 x.fMeta.fRoot.fLevel]]) rfl (v := .bool x.fMeta.fRoot.ok) (implPtrOk_any x.fMeta.fRoot _) rfl rfl HS.out ?_; clear HF HS a; intro w3 a HS HF; replace HS := Bx.mk HS
  refine wl_y rfl HF rfl rfl (yl_pick_t rfl (HF.ev rfl) (HF.ev rfl)) ?_;clear HF a;intro a HF
  refine wl_mv HF rfl rfl rfl rfl rfl ?_;clear HF a;intro a HF
  refine HF.cases 12 rfl (fun cc2 HF1 => ?_) (fun cc2 HF1 => ?_)
  ·clear HF; have HF := HF1; clear HF1
   refine wl_yg HF rfl rfl rfl rfl rfl (yl_fieldAddr (j := 1) rfl (HF.ev rfl) (by kernel_rfl)) ?_;clear HF a;intro a HF
   refine wl_yg HF rfl rfl rfl rfl rfl (yl_fieldAddr (j := 5) rfl (HF.ev rfl) (by kernel_rfl)) ?_;clear HF a;intro a HF
   refine wl_yg HF rfl rfl rfl rfl rfl (yl_load (v := .int .i64 x.fMeta.fDepth) rfl (HF.ev rfl) (((HS.out.box 0 rfl).cell 6).trans rfl) (by kernel_rfl)) ?_;clear HF a;intro a HF
   refine wl_callBg HF rfl rfl rfl rfl (enter_of Tryz.func52 (by kernel_rfl) rfl) (args := #[.int .i64 x.fMeta.fDepth, .int .i64 0, .int .i64 2]) rfl (v := .bool (inB x.fMeta.fDepth 0 2)) (((within_any x.fMeta.fDepth 0 2 _).mono fun _ _ h => ⟨h.1, h.2 ▸ Below.refl _ _⟩)) rfl rfl HS.out ?_; clear HF HS a; intro w4 a HS HF; replace HS := Bx.mk HS
   refine wl_y rfl HF rfl rfl (yl_pick_t rfl (HF.ev rfl) (HF.ev rfl)) ?_;clear HF a;intro a HF
   refine wl_mv HF rfl rfl rfl rfl rfl ?_;clear HF a;intro a HF
   refine HF.cases 18 rfl (fun cc3 HF1 => ?_) (fun cc3 HF1 => ?_)
   ·clear HF; have HF := HF1; clear HF1
    refine wl_yg HF rfl rfl rfl rfl rfl (yl_fieldAddr (j := 1) rfl (HF.ev rfl) (by kernel_rfl)) ?_;clear HF a;intro a HF
    refine wl_yg HF rfl rfl rfl rfl rfl (yl_fieldAddr (j := 6) rfl (HF.ev rfl) (by kernel_rfl)) ?_;clear HF a;intro a HF
    refine wl_yg HF rfl rfl rfl rfl rfl (yl_load (v := .int .i64 x.fMeta.fMany) rfl (HF.ev rfl) (((HS.out.box 0 rfl).cell 7).trans rfl) (by kernel_rfl)) ?_;clear HF a;intro a HF
    refine wl_callBg HF rfl rfl rfl rfl (enter_of Tryz.func52 (by kernel_rfl) rfl) (args := #[.int .i64 x.fMeta.fMany, .int .i64 1, .int .i64 16]) rfl (v := .bool (inB x.fMeta.fMany 1 16)) (((within_any x.fMeta.fMany 1 16 _).mono fun _ _ h => ⟨h.1, h.2 ▸ Below.refl _ _⟩)) rfl rfl HS.out ?_; clear HF HS a; intro w5 a HS HF; replace HS := Bx.mk HS
    refine wl_y rfl HF rfl rfl (yl_pick_t rfl (HF.ev rfl) (HF.ev rfl)) ?_;clear HF a;intro a HF
    refine wl_as HF rfl rfl rfl rfl rfl ?_;clear HF a;intro a HF
    refine wl_ne ?_
    refine wp_ret ?_
    refine bp_ret1 HF Tryz.results36 (HF.res rfl) ?_
    have hfn : RootD.ok x = inB x.fMeta.fMany 1 16 := by simp only [RootD.ok, cc1, cc1, cc2, cc2, cc3, cc3, cond_true, cond_false]
    exact ⟨by rw [hfn] <;> rfl, HS.out.bel⟩
   ·clear HF; have HF := HF1; clear HF1
    refine wl_skip HF rfl rfl rfl rfl rfl rfl ?_;clear HF a;intro a HF
    refine wl_skip HF rfl rfl rfl rfl rfl rfl ?_;clear HF a;intro a HF
    refine wl_skip HF rfl rfl rfl rfl rfl rfl ?_;clear HF a;intro a HF
    refine wl_skip HF rfl rfl rfl rfl rfl rfl ?_;clear HF a;intro a HF
    refine wl_y rfl HF rfl rfl (yl_pick_f rfl (HF.ev rfl) (HF.ev rfl)) ?_;clear HF a;intro a HF
    refine wl_as HF rfl rfl rfl rfl rfl ?_;clear HF a;intro a HF
    refine wl_ne ?_
    refine wp_ret ?_
    refine bp_ret1 HF Tryz.results36 (HF.res rfl) ?_
    have hfn : RootD.ok x = false := by simp only [RootD.ok, cc1, cc1, cc2, cc2, cc3, cc3, cond_true, cond_false]
    exact ⟨by rw [hfn] <;> rfl, HS.out.bel⟩
  ·clear HF; have HF := HF1; clear HF1
   refine wl_skip HF rfl rfl rfl rfl rfl rfl ?_;clear HF a;intro a HF
   refine wl_skip HF rfl rfl rfl rfl rfl rfl ?_;clear HF a;intro a HF
   refine wl_skip HF rfl rfl rfl rfl rfl rfl ?_;clear HF a;intro a HF
   refine wl_skip HF rfl rfl rfl rfl rfl rfl ?_;clear HF a;intro a HF
   refine wl_y rfl HF rfl rfl (yl_pick_f rfl (HF.ev rfl) (HF.ev rfl)) ?_;clear HF a;intro a HF
   refine wl_mv HF rfl rfl rfl rfl rfl ?_;clear HF a;intro a HF
   refine wl_skip HF rfl rfl rfl rfl rfl rfl ?_;clear HF a;intro a HF
   refine wl_skip HF rfl rfl rfl rfl rfl rfl ?_;clear HF a;intro a HF
   refine wl_skip HF rfl rfl rfl rfl rfl rfl ?_;clear HF a;intro a HF
   refine wl_skip HF rfl rfl rfl rfl rfl rfl ?_;clear HF a;intro a HF
   refine wl_y rfl HF rfl rfl (yl_pick_f rfl (HF.ev rfl) (HF.ev rfl)) ?_;clear HF a;intro a HF
   refine wl_as HF rfl rfl rfl rfl rfl ?_;clear HF a;intro a HF
   refine wl_ne ?_
   refine wp_ret ?_
   refine bp_ret1 HF Tryz.results36 (HF.res rfl) ?_
   have hfn : RootD.ok x = false := by simp only [RootD.ok, cc1, cc1, cc2, cc2, cond_true, cond_false]
   exact ⟨by rw [hfn] <;> rfl, HS.out.bel⟩
 ·clear HF; have HF := HF1; clear HF1
  refine wl_skip HF rfl rfl rfl rfl rfl rfl ?_;clear HF a;intro a HF
  refine wl_skip HF rfl rfl rfl rfl rfl rfl ?_;clear HF a;intro a HF
  refine wl_skip HF rfl rfl rfl rfl rfl rfl ?_;clear HF a;intro a HF
  refine wl_skip HF rfl rfl rfl rfl rfl rfl ?_;clear HF a;intro a HF
  refine wl_y rfl HF rfl rfl (yl_pick_f rfl (HF.ev rfl) (HF.ev rfl)) ?_;clear HF a;intro a HF
  refine wl_mv HF rfl rfl rfl rfl rfl ?_;clear HF a;intro a HF
  refine wl_skip HF rfl rfl rfl rfl rfl rfl ?_;clear HF a;intro a HF
  refine wl_skip HF rfl rfl rfl rfl rfl rfl ?_;clear HF a;intro a HF
  refine wl_skip HF rfl rfl rfl rfl rfl rfl ?_;clear HF a;intro a HF
  refine wl_skip HF rfl rfl rfl rfl rfl rfl ?_;clear HF a;intro a HF
  refine wl_y rfl HF rfl rfl (yl_pick_f rfl (HF.ev rfl) (HF.ev rfl)) ?_;clear HF a;intro a HF
  refine wl_mv HF rfl rfl rfl rfl rfl ?_;clear HF a;intro a HF
  refine wl_skip HF rfl rfl rfl rfl rfl rfl ?_;clear HF a;intro a HF
  refine wl_skip HF rfl rfl rfl rfl rfl rfl ?_;clear HF a;intro a HF
  refine wl_skip HF rfl rfl rfl rfl rfl rfl ?_;clear HF a;intro a HF
  refine wl_skip HF rfl rfl rfl rfl rfl rfl ?_;clear HF a;intro a HF
  refine wl_y rfl HF rfl rfl (yl_pick_f rfl (HF.ev rfl) (HF.ev rfl)) ?_;clear HF a;intro a HF
  refine wl_as HF rfl rfl rfl rfl rfl ?_;clear HF a;intro a HF
  refine wl_ne ?_
  refine wp_ret ?_
  refine bp_ret1 HF Tryz.results36 (HF.res rfl) ?_
  have hfn : RootD.ok x = false := by simp only [RootD.ok, cc1, cc1, cond_true, cond_false]
  exact ⟨by rw [hfn] <;> rfl, HS.out.bel⟩

theorem specRootOk_any (x : RootD) (w0 : World) : Calls Tryz.prog 29 #[(rV x)] w0 fun e w' => e = .returned (.bool x.ok) ∧ Below w0.heap.size w0 w' := by
 have HS := Bx.mk (St.start w0)
 refine wc_enter Tryz.func29 rfl Tryz.ntmps29 [(0, (rV x))] ⟨rfl, trivial⟩ rfl ?_; intro a HF
 refine wp_sr ?_
 refine wl_box rfl HF rfl (HF.ev rfl) (Z := [.int .i64 x.fTxg, .int .i64 x.fMeta.fRoot.fAt, .int .i64 x.fMeta.fRoot.fBirth, .int .i64 x.fMeta.fRoot.fSize, .int .i64 x.fMeta.fRoot.fSum, .int .i64 x.fMeta.fRoot.fLevel, .int .i64 x.fMeta.fDepth, .int .i64 x.fMeta.fMany]) rfl rfl rfl rfl HS.out ?_; clear HF HS a; intro a w1 b1 HF HS; replace HS := Bx.mk HS
 refine wl_as HF rfl rfl rfl rfl rfl ?_;clear HF a;intro a HF
 refine wl_ne ?_
 refine wp_sr ?_
 refine wl_y rfl HF rfl rfl (yl_fieldAddr (j := 0) rfl (HF.ev rfl) (by kernel_rfl)) ?_;clear HF a;intro a HF
 refine wl_y rfl HF rfl rfl (yl_load (v := .int .i64 x.fTxg) rfl (HF.ev rfl) (((HS.out.box 0 rfl).cell 0).trans rfl) (by kernel_rfl)) ?_;clear HF a;intro a HF
 refine wl_callB rfl HF rfl (enter_of Tryz.func61 (by kernel_rfl) rfl) (args := #[.int .i64 x.fTxg, .int .i64 1, .int .i64 900]) rfl (v := .bool (inB x.fTxg 1 900)) (((l6In_any x.fTxg 1 900 _).mono fun _ _ h => ⟨h.1, h.2 ▸ Below.refl _ _⟩)) rfl rfl HS.out ?_; clear HF HS a; intro w2 a HS HF; replace HS := Bx.mk HS
 refine wl_mv HF rfl rfl rfl rfl rfl ?_;clear HF a;intro a HF
 refine HF.cases 6 rfl (fun cc1 HF1 => ?_) (fun cc1 HF1 => ?_)
 ·clear HF; have HF := HF1; clear HF1
  refine wl_yg HF rfl rfl rfl rfl rfl (yl_fieldAddr (j := 1) rfl (HF.ev rfl) (by kernel_rfl)) ?_;clear HF a;intro a HF
  refine wl_yg HF rfl rfl rfl rfl rfl (yl_fieldAddr (j := 0) rfl (HF.ev rfl) (by kernel_rfl)) ?_;clear HF a;intro a HF
  refine wl_yg HF rfl rfl rfl rfl rfl (yl_loadR (cs := [.int .i64 x.fMeta.fRoot.fAt, .int .i64 x.fMeta.fRoot.fBirth, .int .i64 x.fMeta.fRoot.fSize, .int .i64 x.fMeta.fRoot.fSum, .int .i64 x.fMeta.fRoot.fLevel]) rfl (HF.ev rfl) ((HS.out.box 0 rfl).sub 1 5) (by kernel_rfl)) ?_;clear HF a;intro a HF
  refine wl_callBg HF rfl rfl rfl rfl (enter_of Tryz.func62 (by kernel_rfl) rfl) (args := #[.agg #[.int .i64 x.fMeta.fRoot.fAt, .int .i64 x.fMeta.fRoot.fBirth, .int .i64 x.fMeta.fRoot.fSize, .int .i64 x.fMeta.fRoot.fSum, .int .i64 x.fMeta.fRoot.fLevel]]) rfl (v := .bool x.fMeta.fRoot.ok) (specPtrOk_any x.fMeta.fRoot _) rfl rfl HS.out ?_; clear HF HS a; intro w3 a HS HF; replace HS := Bx.mk HS
  refine wl_y rfl HF rfl rfl (yl_pick_t rfl (HF.ev rfl) (HF.ev rfl)) ?_;clear HF a;intro a HF
  refine wl_mv HF rfl rfl rfl rfl rfl ?_;clear HF a;intro a HF
  refine HF.cases 12 rfl (fun cc2 HF1 => ?_) (fun cc2 HF1 => ?_)
  ·clear HF; have HF := HF1; clear HF1
   refine wl_yg HF rfl rfl rfl rfl rfl (yl_fieldAddr (j := 1) rfl (HF.ev rfl) (by kernel_rfl)) ?_;clear HF a;intro a HF
   refine wl_yg HF rfl rfl rfl rfl rfl (yl_fieldAddr (j := 5) rfl (HF.ev rfl) (by kernel_rfl)) ?_;clear HF a;intro a HF
   refine wl_yg HF rfl rfl rfl rfl rfl (yl_load (v := .int .i64 x.fMeta.fDepth) rfl (HF.ev rfl) (((HS.out.box 0 rfl).cell 6).trans rfl) (by kernel_rfl)) ?_;clear HF a;intro a HF
   refine wl_callBg HF rfl rfl rfl rfl (enter_of Tryz.func61 (by kernel_rfl) rfl) (args := #[.int .i64 x.fMeta.fDepth, .int .i64 0, .int .i64 2]) rfl (v := .bool (inB x.fMeta.fDepth 0 2)) (((l6In_any x.fMeta.fDepth 0 2 _).mono fun _ _ h => ⟨h.1, h.2 ▸ Below.refl _ _⟩)) rfl rfl HS.out ?_; clear HF HS a; intro w4 a HS HF; replace HS := Bx.mk HS
   refine wl_y rfl HF rfl rfl (yl_pick_t rfl (HF.ev rfl) (HF.ev rfl)) ?_;clear HF a;intro a HF
   refine wl_mv HF rfl rfl rfl rfl rfl ?_;clear HF a;intro a HF
   refine HF.cases 18 rfl (fun cc3 HF1 => ?_) (fun cc3 HF1 => ?_)
   ·clear HF; have HF := HF1; clear HF1
    refine wl_yg HF rfl rfl rfl rfl rfl (yl_fieldAddr (j := 1) rfl (HF.ev rfl) (by kernel_rfl)) ?_;clear HF a;intro a HF
    refine wl_yg HF rfl rfl rfl rfl rfl (yl_fieldAddr (j := 6) rfl (HF.ev rfl) (by kernel_rfl)) ?_;clear HF a;intro a HF
    refine wl_yg HF rfl rfl rfl rfl rfl (yl_load (v := .int .i64 x.fMeta.fMany) rfl (HF.ev rfl) (((HS.out.box 0 rfl).cell 7).trans rfl) (by kernel_rfl)) ?_;clear HF a;intro a HF
    refine wl_callBg HF rfl rfl rfl rfl (enter_of Tryz.func61 (by kernel_rfl) rfl) (args := #[.int .i64 x.fMeta.fMany, .int .i64 1, .int .i64 16]) rfl (v := .bool (inB x.fMeta.fMany 1 16)) (((l6In_any x.fMeta.fMany 1 16 _).mono fun _ _ h => ⟨h.1, h.2 ▸ Below.refl _ _⟩)) rfl rfl HS.out ?_; clear HF HS a; intro w5 a HS HF; replace HS := Bx.mk HS
    refine wl_y rfl HF rfl rfl (yl_pick_t rfl (HF.ev rfl) (HF.ev rfl)) ?_;clear HF a;intro a HF
    refine wl_as HF rfl rfl rfl rfl rfl ?_;clear HF a;intro a HF
    refine wl_ne ?_
    refine wp_ret ?_
    refine bp_ret1 HF Tryz.results29 (HF.res rfl) ?_
    have hfn : RootD.ok x = inB x.fMeta.fMany 1 16 := by simp only [RootD.ok, cc1, cc1, cc2, cc2, cc3, cc3, cond_true, cond_false]
    exact ⟨by rw [hfn] <;> rfl, HS.out.bel⟩
   ·clear HF; have HF := HF1; clear HF1
    refine wl_skip HF rfl rfl rfl rfl rfl rfl ?_;clear HF a;intro a HF
    refine wl_skip HF rfl rfl rfl rfl rfl rfl ?_;clear HF a;intro a HF
    refine wl_skip HF rfl rfl rfl rfl rfl rfl ?_;clear HF a;intro a HF
    refine wl_skip HF rfl rfl rfl rfl rfl rfl ?_;clear HF a;intro a HF
    refine wl_y rfl HF rfl rfl (yl_pick_f rfl (HF.ev rfl) (HF.ev rfl)) ?_;clear HF a;intro a HF
    refine wl_as HF rfl rfl rfl rfl rfl ?_;clear HF a;intro a HF
    refine wl_ne ?_
    refine wp_ret ?_
    refine bp_ret1 HF Tryz.results29 (HF.res rfl) ?_
    have hfn : RootD.ok x = false := by simp only [RootD.ok, cc1, cc1, cc2, cc2, cc3, cc3, cond_true, cond_false]
    exact ⟨by rw [hfn] <;> rfl, HS.out.bel⟩
  ·clear HF; have HF := HF1; clear HF1
   refine wl_skip HF rfl rfl rfl rfl rfl rfl ?_;clear HF a;intro a HF
   refine wl_skip HF rfl rfl rfl rfl rfl rfl ?_;clear HF a;intro a HF
   refine wl_skip HF rfl rfl rfl rfl rfl rfl ?_;clear HF a;intro a HF
   refine wl_skip HF rfl rfl rfl rfl rfl rfl ?_;clear HF a;intro a HF
   refine wl_y rfl HF rfl rfl (yl_pick_f rfl (HF.ev rfl) (HF.ev rfl)) ?_;clear HF a;intro a HF
   refine wl_mv HF rfl rfl rfl rfl rfl ?_;clear HF a;intro a HF
   refine wl_skip HF rfl rfl rfl rfl rfl rfl ?_;clear HF a;intro a HF
   refine wl_skip HF rfl rfl rfl rfl rfl rfl ?_;clear HF a;intro a HF
   refine wl_skip HF rfl rfl rfl rfl rfl rfl ?_;clear HF a;intro a HF
   refine wl_skip HF rfl rfl rfl rfl rfl rfl ?_;clear HF a;intro a HF
   refine wl_y rfl HF rfl rfl (yl_pick_f rfl (HF.ev rfl) (HF.ev rfl)) ?_;clear HF a;intro a HF
   refine wl_as HF rfl rfl rfl rfl rfl ?_;clear HF a;intro a HF
   refine wl_ne ?_
   refine wp_ret ?_
   refine bp_ret1 HF Tryz.results29 (HF.res rfl) ?_
   have hfn : RootD.ok x = false := by simp only [RootD.ok, cc1, cc1, cc2, cc2, cond_true, cond_false]
   exact ⟨by rw [hfn] <;> rfl, HS.out.bel⟩
 ·clear HF; have HF := HF1; clear HF1
  refine wl_skip HF rfl rfl rfl rfl rfl rfl ?_;clear HF a;intro a HF
  refine wl_skip HF rfl rfl rfl rfl rfl rfl ?_;clear HF a;intro a HF
  refine wl_skip HF rfl rfl rfl rfl rfl rfl ?_;clear HF a;intro a HF
  refine wl_skip HF rfl rfl rfl rfl rfl rfl ?_;clear HF a;intro a HF
  refine wl_y rfl HF rfl rfl (yl_pick_f rfl (HF.ev rfl) (HF.ev rfl)) ?_;clear HF a;intro a HF
  refine wl_mv HF rfl rfl rfl rfl rfl ?_;clear HF a;intro a HF
  refine wl_skip HF rfl rfl rfl rfl rfl rfl ?_;clear HF a;intro a HF
  refine wl_skip HF rfl rfl rfl rfl rfl rfl ?_;clear HF a;intro a HF
  refine wl_skip HF rfl rfl rfl rfl rfl rfl ?_;clear HF a;intro a HF
  refine wl_skip HF rfl rfl rfl rfl rfl rfl ?_;clear HF a;intro a HF
  refine wl_y rfl HF rfl rfl (yl_pick_f rfl (HF.ev rfl) (HF.ev rfl)) ?_;clear HF a;intro a HF
  refine wl_mv HF rfl rfl rfl rfl rfl ?_;clear HF a;intro a HF
  refine wl_skip HF rfl rfl rfl rfl rfl rfl ?_;clear HF a;intro a HF
  refine wl_skip HF rfl rfl rfl rfl rfl rfl ?_;clear HF a;intro a HF
  refine wl_skip HF rfl rfl rfl rfl rfl rfl ?_;clear HF a;intro a HF
  refine wl_skip HF rfl rfl rfl rfl rfl rfl ?_;clear HF a;intro a HF
  refine wl_y rfl HF rfl rfl (yl_pick_f rfl (HF.ev rfl) (HF.ev rfl)) ?_;clear HF a;intro a HF
  refine wl_as HF rfl rfl rfl rfl rfl ?_;clear HF a;intro a HF
  refine wl_ne ?_
  refine wp_ret ?_
  refine bp_ret1 HF Tryz.results29 (HF.res rfl) ?_
  have hfn : RootD.ok x = false := by simp only [RootD.ok, cc1, cc1, cond_true, cond_false]
  exact ⟨by rw [hfn] <;> rfl, HS.out.bel⟩

/-- The text of a root. -/
def rootB (x : RootD) : ByteArray := bif x.ok then signB ([(⟨#[114, 111, 111, 116]⟩ : ByteArray), numB x.fTxg] ++ treeB x.fMeta) else ByteArray.empty
theorem rootB_no {x : RootD} (h : x.ok = false) : rootB x = ByteArray.empty := by unfold rootB; rw [h]; rfl
theorem rootB_yes {x : RootD} (h : x.ok = true) : rootB x = signB ([(⟨#[114, 111, 111, 116]⟩ : ByteArray), numB x.fTxg] ++ treeB x.fMeta) := by unfold rootB; rw [h]; rfl
theorem rootB_le (x : RootD) : (rootB x).size ≤ 2048 := by
  cases h : x.ok with
  | false => rw [rootB_no h]; exact Nat.zero_le _
  | true => rw [rootB_yes h]; exact signB_le _
theorem RootD.ok_txg {x : RootD} (h : x.ok = true) : 1 ≤ x.fTxg ∧ x.fTxg ≤ 900 := by
  unfold RootD.ok at h
  cases h1 : inB x.fTxg 1 900 with
  | false => rw [h1] at h; cases h
  | true => exact inB_true h1

theorem implRootPut_any (x : RootD) (w0 : World) (hT : TabP w0) : Calls Tryz.prog 38 #[(rV x)] w0 fun e w' => e = .returned (.string (rootB x)) ∧ Below w0.heap.size w0 w' := by
 have HT := Bx.mk hT; clear hT
 have HS := Bx.mk (St.start w0)
 refine wc_enter Tryz.func38 rfl Tryz.ntmps38 [(0, (rV x))] ⟨rfl, trivial⟩ rfl ?_; intro a HF
 refine wp_sr ?_
 refine wl_box rfl HF rfl (HF.ev rfl) (Z := [.int .i64 x.fTxg, .int .i64 x.fMeta.fRoot.fAt, .int .i64 x.fMeta.fRoot.fBirth, .int .i64 x.fMeta.fRoot.fSize, .int .i64 x.fMeta.fRoot.fSum, .int .i64 x.fMeta.fRoot.fLevel, .int .i64 x.fMeta.fDepth, .int .i64 x.fMeta.fMany]) rfl rfl rfl rfl HS.out ?_; clear HF HS a; intro a w1 b1 HF HS; replace HS := Bx.mk HS
 refine wl_as HF rfl rfl rfl rfl rfl ?_;clear HF a;intro a HF
 refine wl_ne ?_
 refine wp_seq ?_
 refine wp_sr ?_
 refine wl_y rfl HF rfl rfl (yl_loadR (cs := [.int .i64 x.fTxg, .int .i64 x.fMeta.fRoot.fAt, .int .i64 x.fMeta.fRoot.fBirth, .int .i64 x.fMeta.fRoot.fSize, .int .i64 x.fMeta.fRoot.fSum, .int .i64 x.fMeta.fRoot.fLevel, .int .i64 x.fMeta.fDepth, .int .i64 x.fMeta.fMany]) rfl (HF.ev rfl) ((HS.out.box 0 rfl).sub 0 8) (by kernel_rfl)) ?_;clear HF a;intro a HF
 refine wl_callB rfl HF rfl (enter_of Tryz.func36 (by kernel_rfl) rfl) (args := #[(rV x)]) rfl (v := .bool x.ok) (implRootOk_any x _) rfl rfl HS.out ?_; clear HF HS a; intro w2 a HS HF; replace HS := Bx.mk HS
 refine wl_y rfl HF rfl rfl (yl_not rfl (HF.ev rfl)) ?_;clear HF a;intro a HF
 refine wl_ne ?_
 refine HF.cases 5 rfl (fun cc1 HF1 => ?_) (fun cc1 HF1 => ?_)
 ·clear HF; have HF := HF1; clear HF1
  refine wc_true HF rfl ?_
  refine wp_sr ?_
  refine wl_as HF rfl rfl rfl rfl rfl ?_;clear HF a;intro a HF
  refine wl_ne ?_
  refine wp_ret ?_
  refine ex_then_ret ?_
  refine bp_ret1 HF Tryz.results38 (HF.res rfl) ?_
  exact ⟨by rw [rootB_no (by simpa using cc1)]; rfl, HS.out.bel⟩
 ·clear HF; have HF := HF1; clear HF1
  refine wc_false HF rfl ?_
  refine wp_skip ?_
  refine ex_then ?_
  refine wp_seq ?_
  have hok : x.ok = true := by simpa using cc1
  have hxb := RootD.ok_txg hok
  have htl : (treeB x.fMeta).length = 3 := rfl
  refine wr_heldS (s := [boxA b1 8 42 (rV x)]) (by kernel_rfl) (St.drew (HS.out)) ?_
  have HS2 := Bx.mk HS.out.drew; replace HS := Bx.mk (show St w0 ([boxA b1 8 42 (rV x)]) _ from HS.out.drew)
  generalize World.drew _ = w3 at HS HS2 ⊢
  refine wh_y 0 rfl (by kernel_rfl) (by kernel_rfl) (by kernel_rfl) (fun _ _ _ h => h) rfl HF rfl rfl (fun _ HS => (yl_fieldAddr (j := 0) rfl (HF.ev rfl) (by kernel_rfl))) HS.out ?_;clear HF a;intro a HF
  refine wh_y 1 rfl (by kernel_rfl) (by kernel_rfl) (by kernel_rfl) (fun _ _ _ h => h) rfl HF rfl rfl (fun _ HS => (yl_load (v := .int .i64 x.fTxg) rfl (HF.ev rfl) (((HS.box 0 rfl).cell 0).trans rfl) (by kernel_rfl))) HS.out ?_;clear HF a;intro a HF
  refine wh_y 4 rfl (by kernel_rfl) (by kernel_rfl) (by kernel_rfl) (fun _ _ _ h => h) rfl HF rfl rfl (fun _ HS => (yl_fieldAddr (j := 1) rfl (HF.ev rfl) (by kernel_rfl))) HS.out ?_;clear HF a;intro a HF
  refine wh_y 5 rfl (by kernel_rfl) (by kernel_rfl) (by kernel_rfl) (fun _ _ _ h => h) rfl HF rfl rfl (fun _ HS => (yl_loadR (cs := [.int .i64 x.fMeta.fRoot.fAt, .int .i64 x.fMeta.fRoot.fBirth, .int .i64 x.fMeta.fRoot.fSize, .int .i64 x.fMeta.fRoot.fSum, .int .i64 x.fMeta.fRoot.fLevel, .int .i64 x.fMeta.fDepth, .int .i64 x.fMeta.fMany]) rfl (HF.ev rfl) ((HS.box 0 rfl).sub 1 7) (by kernel_rfl))) HS.out ?_;clear HF a;intro a HF
  refine wh_one 2 (by kernel_rfl) ?_
  refine wo_callB rfl rfl HF rfl (enter_of Tryz.func80 (by kernel_rfl) rfl) (args := #[.int .i64 x.fTxg]) rfl (v := .string (numB x.fTxg)) (numPutI_any x.fTxg _ (HT.out.below HS2.out.bel)) rfl rfl ?_
  intro w4 hb; replace HS := Bx.mk (HS.out.later hb); replace HS2 := Bx.mk (HS2.out.later hb); clear hb HF; clear a; intro a HF; refine ⟨HS.out, ?_⟩
  refine wh_two 3 6 (by kernel_rfl) ?_ ?_
  ·skip
   refine wo_buildS (enc := encS) (e := 9) (size := 1) rfl rfl HF rfl rfl rfl (ps := [(0, .string (⟨#[114, 111, 111, 116]⟩ : ByteArray)), (1, .string (numB x.fTxg))]) rfl (cells := [.string (⟨#[114, 111, 111, 116]⟩ : ByteArray), .string (numB x.fTxg)]) (by kernel_rfl) [(⟨#[114, 111, 111, 116]⟩ : ByteArray), numB x.fTxg] rfl rfl (by unfold maxLen; omega) rfl HS2.out HS.out ?_; clear HF HS HS2 a; intro b2 a w6 HF HS2 HS; replace HS := Bx.mk HS; replace HS2 := Bx.mk HS2; refine ⟨HS.out, ?_⟩
   refine wh_one 6 (by kernel_rfl) ?_
   refine wo_call rfl rfl HF rfl (enter_of Tryz.func81 (by kernel_rfl) rfl) (args := #[.agg #[.int .i64 x.fMeta.fRoot.fAt, .int .i64 x.fMeta.fRoot.fBirth, .int .i64 x.fMeta.fRoot.fSize, .int .i64 x.fMeta.fRoot.fSum, .int .i64 x.fMeta.fRoot.fLevel, .int .i64 x.fMeta.fDepth, .int .i64 x.fMeta.fMany]]) rfl (treeFields_any x.fMeta _ (HT.out.below HS2.out.bel)) rfl rfl ?_
   rintro _ w8 ⟨ao3, cp3, rfl, hs⟩
   refine ⟨_, rfl, ?_⟩
   replace HS := Bx.mk (HS.out.later hs.bel); replace HS2 := Bx.mk (HS2.out.add hs); clear hs HF; clear a; intro a HF
   replace HS2 : Bx (St w0 ([rowA encS 1 9 (.slice ao3 3 cp3) (treeB x.fMeta), rowA encS 1 9 (.slice (some ⟨b2, 0, none⟩) 2 2) ([(⟨#[114, 111, 111, 116]⟩ : ByteArray), numB x.fTxg]), boxA b1 8 42 (rV x)]) _) := ⟨HS2.out⟩
   refine ⟨HS.out, ?_⟩
   refine wh_one 7 (by kernel_rfl) ?_
   refine wo_appL rfl rfl HF rfl rfl rfl (HF.ev rfl) (HF.ev rfl) elemS encS_len HS2.out 1 (xs := [(⟨#[114, 111, 111, 116]⟩ : ByteArray), numB x.fTxg]) rfl (ys := treeB x.fMeta) (St.rdN HS2.out encS_len 0 rfl) (cells_one_S _) (by unfold maxLen; (try simp only [List.length_append, List.length_cons, List.length_nil, List.nil_append, List.length_map, treeB_len]); omega) (by (try simp only [List.length_append, List.length_cons, List.length_nil, List.nil_append, List.length_map, treeB_len]); omega) ?_; clear HF HS HS2 a; intro ao4 cp5 w10 a HF HS2; replace HS2 := Bx.mk HS2
   replace HS2 : Bx (St w0 ([rowA encS 1 9 (.slice ao3 3 cp3) (treeB x.fMeta), rowA encS 1 9 (.slice ao4 (([(⟨#[114, 111, 111, 116]⟩ : ByteArray), numB x.fTxg]).length + (treeB x.fMeta).length) cp5) (([(⟨#[114, 111, 111, 116]⟩ : ByteArray), numB x.fTxg]) ++ (treeB x.fMeta)), boxA b1 8 42 (rV x)]) _) := ⟨HS2.out⟩
   have HS : Bx (St w0 ([boxA b1 8 42 (rV x)]) _) := ⟨((HS2.out.erase 1).erase 0)⟩; refine ⟨HS.out, ?_⟩
   refine wh_one 8 (by kernel_rfl) ?_
   replace HS2:=Bx.mk (HS2.out.pick 1 rfl)
   refine wo_call rfl rfl HF rfl (enter_of Tryz.func79 (by kernel_rfl) rfl) (args := #[.slice ao4 (([(⟨#[114, 111, 111, 116]⟩ : ByteArray), numB x.fTxg]).length + (treeB x.fMeta).length) cp5]) rfl (signed_any w0 _ _ _ _ (([(⟨#[114, 111, 111, 116]⟩ : ByteArray), numB x.fTxg]) ++ (treeB x.fMeta)) _ HT.out (by simp only [List.length_append, List.length_cons, List.length_nil, treeB_len]; omega) (szs_app (szs_cons (by decide) (szs_cons (Nat.le_trans (numB_le _) (by decide)) szs_nil)) (szs_tree _)) HS2.out) rfl rfl ?_
   rintro _ w12 ⟨rfl, hs1⟩
   refine ⟨_, rfl, ?_⟩; replace HS2 := Bx.mk hs1; clear hs1 HF; clear a; intro a HF
   replace HS2 : Bx (St w0 ([rowA encS 1 9 (.slice ao3 3 cp3) (treeB x.fMeta), boxA b1 8 42 (rV x)]) _) := ⟨HS2.out⟩
   clear HS; have HS : Bx (St w0 ([boxA b1 8 42 (rV x)]) _) := ⟨(HS2.out.erase 0)⟩; refine ⟨HS.out, ?_⟩
   refine wh_y 9 rfl (by kernel_rfl) (by kernel_rfl) (by kernel_rfl) (fun _ _ _ h => h) rfl HF rfl rfl (fun _ HS => (yl_assign rfl (HF.ev rfl))) HS.out ?_;clear HF a;intro a HF
   refine wh_done (by kernel_rfl) ?_
   replace HS := HS2; clear HS2
   refine ex_then ?_
   refine wp_ret ?_
   refine bp_ret1 HF Tryz.results38 (HF.res rfl) ?_
   exact ⟨by rw [rootB_yes hok], HS.out.bel⟩
  ·skip
   refine wo_call rfl rfl HF rfl (enter_of Tryz.func81 (by kernel_rfl) rfl) (args := #[.agg #[.int .i64 x.fMeta.fRoot.fAt, .int .i64 x.fMeta.fRoot.fBirth, .int .i64 x.fMeta.fRoot.fSize, .int .i64 x.fMeta.fRoot.fSum, .int .i64 x.fMeta.fRoot.fLevel, .int .i64 x.fMeta.fDepth, .int .i64 x.fMeta.fMany]]) rfl (treeFields_any x.fMeta _ (HT.out.below HS2.out.bel)) rfl rfl ?_
   rintro _ w14 ⟨ao6, cp6, rfl, hs⟩
   refine ⟨_, rfl, ?_⟩
   replace HS := Bx.mk (HS.out.later hs.bel); replace HS2 := Bx.mk (HS2.out.add hs); clear hs HF; clear a; intro a HF
   replace HS2 : Bx (St w0 ([rowA encS 1 9 (.slice ao6 3 cp6) (treeB x.fMeta), boxA b1 8 42 (rV x)]) _) := ⟨HS2.out⟩
   refine ⟨HS.out, ?_⟩
   refine wh_one 3 (by kernel_rfl) ?_
   refine wo_buildS (enc := encS) (e := 9) (size := 1) rfl rfl HF rfl rfl rfl (ps := [(0, .string (⟨#[114, 111, 111, 116]⟩ : ByteArray)), (1, .string (numB x.fTxg))]) rfl (cells := [.string (⟨#[114, 111, 111, 116]⟩ : ByteArray), .string (numB x.fTxg)]) (by kernel_rfl) [(⟨#[114, 111, 111, 116]⟩ : ByteArray), numB x.fTxg] rfl rfl (by unfold maxLen; omega) rfl HS2.out HS.out ?_; clear HF HS HS2 a; intro b7 a w16 HF HS2 HS; replace HS := Bx.mk HS; replace HS2 := Bx.mk HS2; refine ⟨HS.out, ?_⟩
   refine wh_one 7 (by kernel_rfl) ?_
   refine wo_appL rfl rfl HF rfl rfl rfl (HF.ev rfl) (HF.ev rfl) elemS encS_len HS2.out 0 (xs := [(⟨#[114, 111, 111, 116]⟩ : ByteArray), numB x.fTxg]) rfl (ys := treeB x.fMeta) (St.rdN HS2.out encS_len 1 rfl) (cells_one_S _) (by unfold maxLen; (try simp only [List.length_append, List.length_cons, List.length_nil, List.nil_append, List.length_map, treeB_len]); omega) (by (try simp only [List.length_append, List.length_cons, List.length_nil, List.nil_append, List.length_map, treeB_len]); omega) ?_; clear HF HS HS2 a; intro ao8 cp9 w18 a HF HS2; replace HS2 := Bx.mk HS2
   replace HS2 : Bx (St w0 ([rowA encS 1 9 (.slice ao8 (([(⟨#[114, 111, 111, 116]⟩ : ByteArray), numB x.fTxg]).length + (treeB x.fMeta).length) cp9) (([(⟨#[114, 111, 111, 116]⟩ : ByteArray), numB x.fTxg]) ++ (treeB x.fMeta)), rowA encS 1 9 (.slice ao6 3 cp6) (treeB x.fMeta), boxA b1 8 42 (rV x)]) _) := ⟨HS2.out⟩
   have HS : Bx (St w0 ([boxA b1 8 42 (rV x)]) _) := ⟨((HS2.out.erase 1).erase 0)⟩; refine ⟨HS.out, ?_⟩
   refine wh_one 8 (by kernel_rfl) ?_
   replace HS2:=Bx.mk (HS2.out.pick 0 rfl)
   refine wo_call rfl rfl HF rfl (enter_of Tryz.func79 (by kernel_rfl) rfl) (args := #[.slice ao8 (([(⟨#[114, 111, 111, 116]⟩ : ByteArray), numB x.fTxg]).length + (treeB x.fMeta).length) cp9]) rfl (signed_any w0 _ _ _ _ (([(⟨#[114, 111, 111, 116]⟩ : ByteArray), numB x.fTxg]) ++ (treeB x.fMeta)) _ HT.out (by simp only [List.length_append, List.length_cons, List.length_nil, treeB_len]; omega) (szs_app (szs_cons (by decide) (szs_cons (Nat.le_trans (numB_le _) (by decide)) szs_nil)) (szs_tree _)) HS2.out) rfl rfl ?_
   rintro _ w20 ⟨rfl, hs1⟩
   refine ⟨_, rfl, ?_⟩; replace HS2 := Bx.mk hs1; clear hs1 HF; clear a; intro a HF
   replace HS2 : Bx (St w0 ([rowA encS 1 9 (.slice ao6 3 cp6) (treeB x.fMeta), boxA b1 8 42 (rV x)]) _) := ⟨HS2.out⟩
   clear HS; have HS : Bx (St w0 ([boxA b1 8 42 (rV x)]) _) := ⟨(HS2.out.erase 0)⟩; refine ⟨HS.out, ?_⟩
   refine wh_y 9 rfl (by kernel_rfl) (by kernel_rfl) (by kernel_rfl) (fun _ _ _ h => h) rfl HF rfl rfl (fun _ HS => (yl_assign rfl (HF.ev rfl))) HS.out ?_;clear HF a;intro a HF
   refine wh_done (by kernel_rfl) ?_
   replace HS := HS2; clear HS2
   refine ex_then ?_
   refine wp_ret ?_
   refine bp_ret1 HF Tryz.results38 (HF.res rfl) ?_
   exact ⟨by rw [rootB_yes hok], HS.out.bel⟩

theorem specRootPut_any (x : RootD) (w0 : World) : Calls Tryz.prog 32 #[(rV x)] w0 fun e w' => e = .returned (.string (rootB x)) ∧ Below w0.heap.size w0 w' := by
 have HS := Bx.mk (St.start w0)
 refine wc_enter Tryz.func32 rfl Tryz.ntmps32 [(0, (rV x))] ⟨rfl, trivial⟩ rfl ?_; intro a HF
 refine wp_sr ?_
 refine wl_box rfl HF rfl (HF.ev rfl) (Z := [.int .i64 x.fTxg, .int .i64 x.fMeta.fRoot.fAt, .int .i64 x.fMeta.fRoot.fBirth, .int .i64 x.fMeta.fRoot.fSize, .int .i64 x.fMeta.fRoot.fSum, .int .i64 x.fMeta.fRoot.fLevel, .int .i64 x.fMeta.fDepth, .int .i64 x.fMeta.fMany]) rfl rfl rfl rfl HS.out ?_; clear HF HS a; intro a w1 b1 HF HS; replace HS := Bx.mk HS
 refine wl_as HF rfl rfl rfl rfl rfl ?_;clear HF a;intro a HF
 refine wl_ne ?_
 refine wp_seq ?_
 refine wp_sr ?_
 refine wl_y rfl HF rfl rfl (yl_loadR (cs := [.int .i64 x.fTxg, .int .i64 x.fMeta.fRoot.fAt, .int .i64 x.fMeta.fRoot.fBirth, .int .i64 x.fMeta.fRoot.fSize, .int .i64 x.fMeta.fRoot.fSum, .int .i64 x.fMeta.fRoot.fLevel, .int .i64 x.fMeta.fDepth, .int .i64 x.fMeta.fMany]) rfl (HF.ev rfl) ((HS.out.box 0 rfl).sub 0 8) (by kernel_rfl)) ?_;clear HF a;intro a HF
 refine wl_callB rfl HF rfl (enter_of Tryz.func29 (by kernel_rfl) rfl) (args := #[(rV x)]) rfl (v := .bool x.ok) (specRootOk_any x _) rfl rfl HS.out ?_; clear HF HS a; intro w2 a HS HF; replace HS := Bx.mk HS
 refine wl_y rfl HF rfl rfl (yl_not rfl (HF.ev rfl)) ?_;clear HF a;intro a HF
 refine wl_ne ?_
 refine HF.cases 10 rfl (fun cc1 HF1 => ?_) (fun cc1 HF1 => ?_)
 ·clear HF; have HF := HF1; clear HF1
  refine wc_true HF rfl ?_
  refine wp_sr ?_
  refine wl_as HF rfl rfl rfl rfl rfl ?_;clear HF a;intro a HF
  refine wl_ne ?_
  refine wp_ret ?_
  refine ex_then_ret ?_
  refine bp_ret1 HF Tryz.results32 (HF.res rfl) ?_
  exact ⟨by rw [rootB_no (by simpa using cc1)]; rfl, HS.out.bel⟩
 ·clear HF; have HF := HF1; clear HF1
  refine wc_false HF rfl ?_
  refine wp_skip ?_
  refine ex_then ?_
  refine wp_seq ?_
  have hok : x.ok = true := by simpa using cc1
  have hxb := RootD.ok_txg hok
  have htl : (treeB x.fMeta).length = 3 := rfl
  have hdz : decB x.fTxg.toNat = numB x.fTxg := (numB_in (by omega) (by omega)).symm
  have hdl : (decB x.fTxg.toNat).size ≤ 19 := decB_20 (by omega)
  refine wr_heldS (s := [boxA b1 8 42 (rV x)]) (by kernel_rfl) (St.drew (HS.out)) ?_
  have HS2 := Bx.mk HS.out.drew; replace HS := Bx.mk (show St w0 ([boxA b1 8 42 (rV x)]) _ from HS.out.drew)
  generalize World.drew _ = w3 at HS HS2 ⊢
  refine wh_y 0 rfl (by kernel_rfl) (by kernel_rfl) (by kernel_rfl) (fun _ _ _ h => h) rfl HF rfl rfl (fun _ HS => (yl_fieldAddr (j := 0) rfl (HF.ev rfl) (by kernel_rfl))) HS.out ?_;clear HF a;intro a HF
  refine wh_y 1 rfl (by kernel_rfl) (by kernel_rfl) (by kernel_rfl) (fun _ _ _ h => h) rfl HF rfl rfl (fun _ HS => (yl_load (v := .int .i64 x.fTxg) rfl (HF.ev rfl) (((HS.box 0 rfl).cell 0).trans rfl) (by kernel_rfl))) HS.out ?_;clear HF a;intro a HF
  refine wh_y 4 rfl (by kernel_rfl) (by kernel_rfl) (by kernel_rfl) (fun _ _ _ h => h) rfl HF rfl rfl (fun _ HS => (yl_fieldAddr (j := 1) rfl (HF.ev rfl) (by kernel_rfl))) HS.out ?_;clear HF a;intro a HF
  refine wh_y 5 rfl (by kernel_rfl) (by kernel_rfl) (by kernel_rfl) (fun _ _ _ h => h) rfl HF rfl rfl (fun _ HS => (yl_loadR (cs := [.int .i64 x.fMeta.fRoot.fAt, .int .i64 x.fMeta.fRoot.fBirth, .int .i64 x.fMeta.fRoot.fSize, .int .i64 x.fMeta.fRoot.fSum, .int .i64 x.fMeta.fRoot.fLevel, .int .i64 x.fMeta.fDepth, .int .i64 x.fMeta.fMany]) rfl (HF.ev rfl) ((HS.box 0 rfl).sub 1 7) (by kernel_rfl))) HS.out ?_;clear HF a;intro a HF
  refine wh_one 2 (by kernel_rfl) ?_
  refine wo_callB rfl rfl HF rfl (enter_of Tryz.func65 (by kernel_rfl) rfl) (args := #[.int .i64 x.fTxg]) rfl (v := .string (decB x.fTxg.toNat)) (l6DecI_any x.fTxg (by omega) (by omega) _) rfl rfl ?_
  intro w4 hb; replace HS := Bx.mk (HS.out.later hb); replace HS2 := Bx.mk (HS2.out.later hb); clear hb HF; clear a; intro a HF; refine ⟨HS.out, ?_⟩
  refine wh_two 3 6 (by kernel_rfl) ?_ ?_
  ·skip
   refine wo_buildS (enc := encS) (e := 9) (size := 1) rfl rfl HF rfl rfl rfl (ps := [(0, .string (⟨#[114, 111, 111, 116]⟩ : ByteArray)), (1, .string (decB x.fTxg.toNat))]) rfl (cells := [.string (⟨#[114, 111, 111, 116]⟩ : ByteArray), .string (decB x.fTxg.toNat)]) (by kernel_rfl) [(⟨#[114, 111, 111, 116]⟩ : ByteArray), decB x.fTxg.toNat] rfl rfl (by unfold maxLen; omega) rfl HS2.out HS.out ?_; clear HF HS HS2 a; intro b2 a w6 HF HS2 HS; replace HS := Bx.mk HS; replace HS2 := Bx.mk HS2; refine ⟨HS.out, ?_⟩
   refine wh_one 6 (by kernel_rfl) ?_
   refine wo_call rfl rfl HF rfl (enter_of Tryz.func66 (by kernel_rfl) rfl) (args := #[.agg #[.int .i64 x.fMeta.fRoot.fAt, .int .i64 x.fMeta.fRoot.fBirth, .int .i64 x.fMeta.fRoot.fSize, .int .i64 x.fMeta.fRoot.fSum, .int .i64 x.fMeta.fRoot.fLevel, .int .i64 x.fMeta.fDepth, .int .i64 x.fMeta.fMany]]) rfl (l21Tree_any x.fMeta _) rfl rfl ?_
   rintro _ w8 ⟨ao3, cp3, rfl, hs⟩
   refine ⟨_, rfl, ?_⟩
   replace HS := Bx.mk (HS.out.later hs.bel); replace HS2 := Bx.mk (HS2.out.add hs); clear hs HF; clear a; intro a HF
   replace HS2 : Bx (St w0 ([rowA encS 1 9 (.slice ao3 3 cp3) (treeB x.fMeta), rowA encS 1 9 (.slice (some ⟨b2, 0, none⟩) 2 2) ([(⟨#[114, 111, 111, 116]⟩ : ByteArray), decB x.fTxg.toNat]), boxA b1 8 42 (rV x)]) _) := ⟨HS2.out⟩
   refine ⟨HS.out, ?_⟩
   refine wh_one 7 (by kernel_rfl) ?_
   refine wo_appL rfl rfl HF rfl rfl rfl (HF.ev rfl) (HF.ev rfl) elemS encS_len HS2.out 1 (xs := [(⟨#[114, 111, 111, 116]⟩ : ByteArray), decB x.fTxg.toNat]) rfl (ys := treeB x.fMeta) (St.rdN HS2.out encS_len 0 rfl) (cells_one_S _) (by unfold maxLen; (try simp only [List.length_append, List.length_cons, List.length_nil, List.nil_append, List.length_map, treeB_len]); omega) (by (try simp only [List.length_append, List.length_cons, List.length_nil, List.nil_append, List.length_map, treeB_len]); omega) ?_; clear HF HS HS2 a; intro ao4 cp5 w10 a HF HS2; replace HS2 := Bx.mk HS2
   replace HS2 : Bx (St w0 ([rowA encS 1 9 (.slice ao3 3 cp3) (treeB x.fMeta), rowA encS 1 9 (.slice ao4 (([(⟨#[114, 111, 111, 116]⟩ : ByteArray), decB x.fTxg.toNat]).length + (treeB x.fMeta).length) cp5) (([(⟨#[114, 111, 111, 116]⟩ : ByteArray), decB x.fTxg.toNat]) ++ (treeB x.fMeta)), boxA b1 8 42 (rV x)]) _) := ⟨HS2.out⟩
   have HS : Bx (St w0 ([boxA b1 8 42 (rV x)]) _) := ⟨((HS2.out.erase 1).erase 0)⟩; refine ⟨HS.out, ?_⟩
   refine wh_y 8 rfl (by kernel_rfl) (by kernel_rfl) (by kernel_rfl) (fun _ _ _ h => h) rfl HF rfl rfl (fun _ HS => (yl_assign rfl (HF.ev rfl))) HS.out ?_;clear HF a;intro a HF
   refine wh_done (by kernel_rfl) ?_
   replace HS := HS2; clear HS2
   refine ex_then ?_
   refine wp_sr ?_
   refine wl_mv HF rfl rfl rfl rfl rfl ?_;clear HF a;intro a HF
   refine wl_callB rfl HF rfl (enter_of Tryz.func67 (by kernel_rfl) rfl) (args := #[.slice ao4 (([(⟨#[114, 111, 111, 116]⟩ : ByteArray), decB x.fTxg.toNat]).length + (treeB x.fMeta).length) cp5]) rfl (v := .tuple #[.string ((fieldsPut (([(⟨#[114, 111, 111, 116]⟩ : ByteArray), decB x.fTxg.toNat]) ++ (treeB x.fMeta))).1), .bool ((fieldsPut (([(⟨#[114, 111, 111, 116]⟩ : ByteArray), decB x.fTxg.toNat]) ++ (treeB x.fMeta))).2)]) (fieldsPutS_any _ _ _ (([(⟨#[114, 111, 111, 116]⟩ : ByteArray), decB x.fTxg.toNat]) ++ (treeB x.fMeta)) _ (by (try simp only [List.length_append, List.length_cons, List.length_nil, List.nil_append, List.length_map]); omega) (szs_app (szs_cons (by decide) (szs_cons (by omega) szs_nil)) (szs_tree _)) (St.rdN HS.out encS_len 1 rfl)) rfl rfl HS.out ?_; clear HF HS a; intro w11 a HS HF; replace HS := Bx.mk HS
   refine wl_mv HF rfl rfl rfl rfl rfl ?_;clear HF a;intro a HF
   refine wl_y rfl HF rfl rfl (yl_extract rfl (HF.ev rfl) rfl) ?_;clear HF a;intro a HF
   refine wl_y rfl HF rfl rfl (yl_extract rfl (HF.ev rfl) rfl) ?_;clear HF a;intro a HF
   refine wl_as HF rfl rfl rfl rfl rfl ?_;clear HF a;intro a HF
   refine wl_as HF rfl rfl rfl rfl rfl ?_;clear HF a;intro a HF
   refine wl_ne ?_
   refine wp_seq ?_
   have hfz := fieldsPut_le ([(⟨#[114, 111, 111, 116]⟩ : ByteArray), decB x.fTxg.toNat] ++ treeB x.fMeta); have hsm := sumOf_le (fieldsPut ([(⟨#[114, 111, 111, 116]⟩ : ByteArray), decB x.fTxg.toNat] ++ treeB x.fMeta)).1; have hsl : (decB (sumOf (fieldsPut ([(⟨#[114, 111, 111, 116]⟩ : ByteArray), decB x.fTxg.toNat] ++ treeB x.fMeta)).1).toNat).size ≤ 19 := decB_20 (by omega)
   refine wp_region_lit ?_
   refine wl_mv HF rfl rfl rfl rfl rfl ?_;clear HF a;intro a HF
   refine wl_mv HF rfl rfl rfl rfl rfl ?_;clear HF a;intro a HF
   refine wl_callB rfl HF rfl (enter_of Tryz.func68 (by kernel_rfl) rfl) (args := #[.string ((fieldsPut (([(⟨#[114, 111, 111, 116]⟩ : ByteArray), decB x.fTxg.toNat]) ++ (treeB x.fMeta))).1)]) rfl (v := .int .i64 (sumOf ((fieldsPut (([(⟨#[114, 111, 111, 116]⟩ : ByteArray), decB x.fTxg.toNat]) ++ (treeB x.fMeta))).1))) (sumOfS_any ((fieldsPut (([(⟨#[114, 111, 111, 116]⟩ : ByteArray), decB x.fTxg.toNat]) ++ (treeB x.fMeta))).1) _ (by omega)) rfl rfl HS.out ?_; clear HF HS a; intro w12 a HS HF; replace HS := Bx.mk HS
   refine wl_callB rfl HF rfl (enter_of Tryz.func65 (by kernel_rfl) rfl) (args := #[.int .i64 (sumOf ((fieldsPut (([(⟨#[114, 111, 111, 116]⟩ : ByteArray), decB x.fTxg.toNat]) ++ (treeB x.fMeta))).1))]) rfl (v := .string (decB (sumOf ((fieldsPut (([(⟨#[114, 111, 111, 116]⟩ : ByteArray), decB x.fTxg.toNat]) ++ (treeB x.fMeta))).1)).toNat)) (l6DecI_any (sumOf ((fieldsPut (([(⟨#[114, 111, 111, 116]⟩ : ByteArray), decB x.fTxg.toNat]) ++ (treeB x.fMeta))).1)) (by omega) (by omega) _) rfl rfl HS.out ?_; clear HF HS a; intro w13 a HS HF; replace HS := Bx.mk HS
   refine wl_buildS (enc := encS) (e := 9) (size := 1) rfl HF rfl rfl rfl (ps := [(0, .string (decB (sumOf ((fieldsPut (([(⟨#[114, 111, 111, 116]⟩ : ByteArray), decB x.fTxg.toNat]) ++ (treeB x.fMeta))).1)).toNat))]) rfl (cells := [.string (decB (sumOf ((fieldsPut (([(⟨#[114, 111, 111, 116]⟩ : ByteArray), decB x.fTxg.toNat]) ++ (treeB x.fMeta))).1)).toNat)]) (by kernel_rfl) [decB (sumOf ((fieldsPut (([(⟨#[114, 111, 111, 116]⟩ : ByteArray), decB x.fTxg.toNat]) ++ (treeB x.fMeta))).1)).toNat] rfl rfl (by unfold maxLen; omega) rfl HS.out ?_; clear HF HS a; intro b6 a w14 HF HS; replace HS := Bx.mk HS
   refine wl_appL rfl HF rfl rfl rfl (HF.ev rfl) (HF.ev rfl) elemS encS_len HS.out 2 (xs := ([(⟨#[114, 111, 111, 116]⟩ : ByteArray), decB x.fTxg.toNat]) ++ (treeB x.fMeta)) rfl (ys := [decB (sumOf ((fieldsPut (([(⟨#[114, 111, 111, 116]⟩ : ByteArray), decB x.fTxg.toNat]) ++ (treeB x.fMeta))).1)).toNat]) (St.rdN HS.out encS_len 0 rfl) (cells_one_S _) (by unfold maxLen; (try simp only [List.length_append, List.length_cons, List.length_nil, List.nil_append, List.length_map, treeB_len]); omega) (by (try simp only [List.length_append, List.length_cons, List.length_nil, List.nil_append, List.length_map, treeB_len]); omega) ?_; clear HF HS a; intro ao7 cp8 w15 a HF HS; replace HS := Bx.mk HS
   replace HS : Bx (St w0 ([rowA encS 1 9 (.slice (some ⟨b6, 0, none⟩) 1 1) ([decB (sumOf ((fieldsPut (([(⟨#[114, 111, 111, 116]⟩ : ByteArray), decB x.fTxg.toNat]) ++ (treeB x.fMeta))).1)).toNat]), rowA encS 1 9 (.slice ao3 3 cp3) (treeB x.fMeta), rowA encS 1 9 (.slice ao7 ((([(⟨#[114, 111, 111, 116]⟩ : ByteArray), decB x.fTxg.toNat]) ++ (treeB x.fMeta)).length + ([decB (sumOf ((fieldsPut (([(⟨#[114, 111, 111, 116]⟩ : ByteArray), decB x.fTxg.toNat]) ++ (treeB x.fMeta))).1)).toNat]).length) cp8) ((([(⟨#[114, 111, 111, 116]⟩ : ByteArray), decB x.fTxg.toNat]) ++ (treeB x.fMeta)) ++ ([decB (sumOf ((fieldsPut (([(⟨#[114, 111, 111, 116]⟩ : ByteArray), decB x.fTxg.toNat]) ++ (treeB x.fMeta))).1)).toNat])), boxA b1 8 42 (rV x)]) _) := ⟨HS.out⟩
   refine wl_callB rfl HF rfl (enter_of Tryz.func67 (by kernel_rfl) rfl) (args := #[.slice ao7 ((([(⟨#[114, 111, 111, 116]⟩ : ByteArray), decB x.fTxg.toNat]) ++ (treeB x.fMeta)).length + ([decB (sumOf ((fieldsPut (([(⟨#[114, 111, 111, 116]⟩ : ByteArray), decB x.fTxg.toNat]) ++ (treeB x.fMeta))).1)).toNat]).length) cp8]) rfl (v := .tuple #[.string ((fieldsPut ((([(⟨#[114, 111, 111, 116]⟩ : ByteArray), decB x.fTxg.toNat]) ++ (treeB x.fMeta)) ++ ([decB (sumOf ((fieldsPut (([(⟨#[114, 111, 111, 116]⟩ : ByteArray), decB x.fTxg.toNat]) ++ (treeB x.fMeta))).1)).toNat]))).1), .bool ((fieldsPut ((([(⟨#[114, 111, 111, 116]⟩ : ByteArray), decB x.fTxg.toNat]) ++ (treeB x.fMeta)) ++ ([decB (sumOf ((fieldsPut (([(⟨#[114, 111, 111, 116]⟩ : ByteArray), decB x.fTxg.toNat]) ++ (treeB x.fMeta))).1)).toNat]))).2)]) (fieldsPutS_any _ _ _ ((([(⟨#[114, 111, 111, 116]⟩ : ByteArray), decB x.fTxg.toNat]) ++ (treeB x.fMeta)) ++ ([decB (sumOf ((fieldsPut (([(⟨#[114, 111, 111, 116]⟩ : ByteArray), decB x.fTxg.toNat]) ++ (treeB x.fMeta))).1)).toNat])) _ (by (try simp only [List.length_append, List.length_cons, List.length_nil, List.nil_append, List.length_map]); omega) (szs_app (szs_app (szs_cons (by decide) (szs_cons (by omega) szs_nil)) (szs_tree _)) (szs_cons (by omega) szs_nil)) (St.rdN HS.out encS_len 2 rfl)) rfl rfl HS.out ?_; clear HF HS a; intro w16 a HS HF; replace HS := Bx.mk HS
   refine wl_mv HF rfl rfl rfl rfl rfl ?_;clear HF a;intro a HF
   refine wl_y rfl HF rfl rfl (yl_extract rfl (HF.ev rfl) rfl) ?_;clear HF a;intro a HF
   refine wl_y rfl HF rfl rfl (yl_extract rfl (HF.ev rfl) rfl) ?_;clear HF a;intro a HF
   refine wl_as HF rfl rfl rfl rfl rfl ?_;clear HF a;intro a HF
   refine wl_as HF rfl rfl rfl rfl rfl ?_;clear HF a;intro a HF
   refine wl_ne ?_
   refine wp_sr ?_
   refine wl_mv HF rfl rfl rfl rfl rfl ?_;clear HF a;intro a HF
   refine wl_as HF rfl rfl rfl rfl rfl ?_;clear HF a;intro a HF
   refine wl_ne ?_
   refine wp_ret ?_
   refine bp_ret1 HF Tryz.results32 (HF.res rfl) ?_
   exact ⟨by rw [rootB_yes hok, ← hdz]; rfl, HS.out.bel⟩
  ·skip
   refine wo_call rfl rfl HF rfl (enter_of Tryz.func66 (by kernel_rfl) rfl) (args := #[.agg #[.int .i64 x.fMeta.fRoot.fAt, .int .i64 x.fMeta.fRoot.fBirth, .int .i64 x.fMeta.fRoot.fSize, .int .i64 x.fMeta.fRoot.fSum, .int .i64 x.fMeta.fRoot.fLevel, .int .i64 x.fMeta.fDepth, .int .i64 x.fMeta.fMany]]) rfl (l21Tree_any x.fMeta _) rfl rfl ?_
   rintro _ w18 ⟨ao9, cp9, rfl, hs⟩
   refine ⟨_, rfl, ?_⟩
   replace HS := Bx.mk (HS.out.later hs.bel); replace HS2 := Bx.mk (HS2.out.add hs); clear hs HF; clear a; intro a HF
   replace HS2 : Bx (St w0 ([rowA encS 1 9 (.slice ao9 3 cp9) (treeB x.fMeta), boxA b1 8 42 (rV x)]) _) := ⟨HS2.out⟩
   refine ⟨HS.out, ?_⟩
   refine wh_one 3 (by kernel_rfl) ?_
   refine wo_buildS (enc := encS) (e := 9) (size := 1) rfl rfl HF rfl rfl rfl (ps := [(0, .string (⟨#[114, 111, 111, 116]⟩ : ByteArray)), (1, .string (decB x.fTxg.toNat))]) rfl (cells := [.string (⟨#[114, 111, 111, 116]⟩ : ByteArray), .string (decB x.fTxg.toNat)]) (by kernel_rfl) [(⟨#[114, 111, 111, 116]⟩ : ByteArray), decB x.fTxg.toNat] rfl rfl (by unfold maxLen; omega) rfl HS2.out HS.out ?_; clear HF HS HS2 a; intro b10 a w20 HF HS2 HS; replace HS := Bx.mk HS; replace HS2 := Bx.mk HS2; refine ⟨HS.out, ?_⟩
   refine wh_one 7 (by kernel_rfl) ?_
   refine wo_appL rfl rfl HF rfl rfl rfl (HF.ev rfl) (HF.ev rfl) elemS encS_len HS2.out 0 (xs := [(⟨#[114, 111, 111, 116]⟩ : ByteArray), decB x.fTxg.toNat]) rfl (ys := treeB x.fMeta) (St.rdN HS2.out encS_len 1 rfl) (cells_one_S _) (by unfold maxLen; (try simp only [List.length_append, List.length_cons, List.length_nil, List.nil_append, List.length_map, treeB_len]); omega) (by (try simp only [List.length_append, List.length_cons, List.length_nil, List.nil_append, List.length_map, treeB_len]); omega) ?_; clear HF HS HS2 a; intro ao11 cp12 w22 a HF HS2; replace HS2 := Bx.mk HS2
   replace HS2 : Bx (St w0 ([rowA encS 1 9 (.slice ao11 (([(⟨#[114, 111, 111, 116]⟩ : ByteArray), decB x.fTxg.toNat]).length + (treeB x.fMeta).length) cp12) (([(⟨#[114, 111, 111, 116]⟩ : ByteArray), decB x.fTxg.toNat]) ++ (treeB x.fMeta)), rowA encS 1 9 (.slice ao9 3 cp9) (treeB x.fMeta), boxA b1 8 42 (rV x)]) _) := ⟨HS2.out⟩
   have HS : Bx (St w0 ([boxA b1 8 42 (rV x)]) _) := ⟨((HS2.out.erase 1).erase 0)⟩; refine ⟨HS.out, ?_⟩
   refine wh_y 8 rfl (by kernel_rfl) (by kernel_rfl) (by kernel_rfl) (fun _ _ _ h => h) rfl HF rfl rfl (fun _ HS => (yl_assign rfl (HF.ev rfl))) HS.out ?_;clear HF a;intro a HF
   refine wh_done (by kernel_rfl) ?_
   replace HS := HS2; clear HS2
   refine ex_then ?_
   refine wp_sr ?_
   refine wl_mv HF rfl rfl rfl rfl rfl ?_;clear HF a;intro a HF
   refine wl_callB rfl HF rfl (enter_of Tryz.func67 (by kernel_rfl) rfl) (args := #[.slice ao11 (([(⟨#[114, 111, 111, 116]⟩ : ByteArray), decB x.fTxg.toNat]).length + (treeB x.fMeta).length) cp12]) rfl (v := .tuple #[.string ((fieldsPut (([(⟨#[114, 111, 111, 116]⟩ : ByteArray), decB x.fTxg.toNat]) ++ (treeB x.fMeta))).1), .bool ((fieldsPut (([(⟨#[114, 111, 111, 116]⟩ : ByteArray), decB x.fTxg.toNat]) ++ (treeB x.fMeta))).2)]) (fieldsPutS_any _ _ _ (([(⟨#[114, 111, 111, 116]⟩ : ByteArray), decB x.fTxg.toNat]) ++ (treeB x.fMeta)) _ (by (try simp only [List.length_append, List.length_cons, List.length_nil, List.nil_append, List.length_map]); omega) (szs_app (szs_cons (by decide) (szs_cons (by omega) szs_nil)) (szs_tree _)) (St.rdN HS.out encS_len 0 rfl)) rfl rfl HS.out ?_; clear HF HS a; intro w23 a HS HF; replace HS := Bx.mk HS
   refine wl_mv HF rfl rfl rfl rfl rfl ?_;clear HF a;intro a HF
   refine wl_y rfl HF rfl rfl (yl_extract rfl (HF.ev rfl) rfl) ?_;clear HF a;intro a HF
   refine wl_y rfl HF rfl rfl (yl_extract rfl (HF.ev rfl) rfl) ?_;clear HF a;intro a HF
   refine wl_as HF rfl rfl rfl rfl rfl ?_;clear HF a;intro a HF
   refine wl_as HF rfl rfl rfl rfl rfl ?_;clear HF a;intro a HF
   refine wl_ne ?_
   refine wp_seq ?_
   have hfz := fieldsPut_le ([(⟨#[114, 111, 111, 116]⟩ : ByteArray), decB x.fTxg.toNat] ++ treeB x.fMeta); have hsm := sumOf_le (fieldsPut ([(⟨#[114, 111, 111, 116]⟩ : ByteArray), decB x.fTxg.toNat] ++ treeB x.fMeta)).1; have hsl : (decB (sumOf (fieldsPut ([(⟨#[114, 111, 111, 116]⟩ : ByteArray), decB x.fTxg.toNat] ++ treeB x.fMeta)).1).toNat).size ≤ 19 := decB_20 (by omega)
   refine wp_region_lit ?_
   refine wl_mv HF rfl rfl rfl rfl rfl ?_;clear HF a;intro a HF
   refine wl_mv HF rfl rfl rfl rfl rfl ?_;clear HF a;intro a HF
   refine wl_callB rfl HF rfl (enter_of Tryz.func68 (by kernel_rfl) rfl) (args := #[.string ((fieldsPut (([(⟨#[114, 111, 111, 116]⟩ : ByteArray), decB x.fTxg.toNat]) ++ (treeB x.fMeta))).1)]) rfl (v := .int .i64 (sumOf ((fieldsPut (([(⟨#[114, 111, 111, 116]⟩ : ByteArray), decB x.fTxg.toNat]) ++ (treeB x.fMeta))).1))) (sumOfS_any ((fieldsPut (([(⟨#[114, 111, 111, 116]⟩ : ByteArray), decB x.fTxg.toNat]) ++ (treeB x.fMeta))).1) _ (by omega)) rfl rfl HS.out ?_; clear HF HS a; intro w24 a HS HF; replace HS := Bx.mk HS
   refine wl_callB rfl HF rfl (enter_of Tryz.func65 (by kernel_rfl) rfl) (args := #[.int .i64 (sumOf ((fieldsPut (([(⟨#[114, 111, 111, 116]⟩ : ByteArray), decB x.fTxg.toNat]) ++ (treeB x.fMeta))).1))]) rfl (v := .string (decB (sumOf ((fieldsPut (([(⟨#[114, 111, 111, 116]⟩ : ByteArray), decB x.fTxg.toNat]) ++ (treeB x.fMeta))).1)).toNat)) (l6DecI_any (sumOf ((fieldsPut (([(⟨#[114, 111, 111, 116]⟩ : ByteArray), decB x.fTxg.toNat]) ++ (treeB x.fMeta))).1)) (by omega) (by omega) _) rfl rfl HS.out ?_; clear HF HS a; intro w25 a HS HF; replace HS := Bx.mk HS
   refine wl_buildS (enc := encS) (e := 9) (size := 1) rfl HF rfl rfl rfl (ps := [(0, .string (decB (sumOf ((fieldsPut (([(⟨#[114, 111, 111, 116]⟩ : ByteArray), decB x.fTxg.toNat]) ++ (treeB x.fMeta))).1)).toNat))]) rfl (cells := [.string (decB (sumOf ((fieldsPut (([(⟨#[114, 111, 111, 116]⟩ : ByteArray), decB x.fTxg.toNat]) ++ (treeB x.fMeta))).1)).toNat)]) (by kernel_rfl) [decB (sumOf ((fieldsPut (([(⟨#[114, 111, 111, 116]⟩ : ByteArray), decB x.fTxg.toNat]) ++ (treeB x.fMeta))).1)).toNat] rfl rfl (by unfold maxLen; omega) rfl HS.out ?_; clear HF HS a; intro b13 a w26 HF HS; replace HS := Bx.mk HS
   refine wl_appL rfl HF rfl rfl rfl (HF.ev rfl) (HF.ev rfl) elemS encS_len HS.out 1 (xs := ([(⟨#[114, 111, 111, 116]⟩ : ByteArray), decB x.fTxg.toNat]) ++ (treeB x.fMeta)) rfl (ys := [decB (sumOf ((fieldsPut (([(⟨#[114, 111, 111, 116]⟩ : ByteArray), decB x.fTxg.toNat]) ++ (treeB x.fMeta))).1)).toNat]) (St.rdN HS.out encS_len 0 rfl) (cells_one_S _) (by unfold maxLen; (try simp only [List.length_append, List.length_cons, List.length_nil, List.nil_append, List.length_map, treeB_len]); omega) (by (try simp only [List.length_append, List.length_cons, List.length_nil, List.nil_append, List.length_map, treeB_len]); omega) ?_; clear HF HS a; intro ao14 cp15 w27 a HF HS; replace HS := Bx.mk HS
   replace HS : Bx (St w0 ([rowA encS 1 9 (.slice (some ⟨b13, 0, none⟩) 1 1) ([decB (sumOf ((fieldsPut (([(⟨#[114, 111, 111, 116]⟩ : ByteArray), decB x.fTxg.toNat]) ++ (treeB x.fMeta))).1)).toNat]), rowA encS 1 9 (.slice ao14 ((([(⟨#[114, 111, 111, 116]⟩ : ByteArray), decB x.fTxg.toNat]) ++ (treeB x.fMeta)).length + ([decB (sumOf ((fieldsPut (([(⟨#[114, 111, 111, 116]⟩ : ByteArray), decB x.fTxg.toNat]) ++ (treeB x.fMeta))).1)).toNat]).length) cp15) ((([(⟨#[114, 111, 111, 116]⟩ : ByteArray), decB x.fTxg.toNat]) ++ (treeB x.fMeta)) ++ ([decB (sumOf ((fieldsPut (([(⟨#[114, 111, 111, 116]⟩ : ByteArray), decB x.fTxg.toNat]) ++ (treeB x.fMeta))).1)).toNat])), rowA encS 1 9 (.slice ao9 3 cp9) (treeB x.fMeta), boxA b1 8 42 (rV x)]) _) := ⟨HS.out⟩
   refine wl_callB rfl HF rfl (enter_of Tryz.func67 (by kernel_rfl) rfl) (args := #[.slice ao14 ((([(⟨#[114, 111, 111, 116]⟩ : ByteArray), decB x.fTxg.toNat]) ++ (treeB x.fMeta)).length + ([decB (sumOf ((fieldsPut (([(⟨#[114, 111, 111, 116]⟩ : ByteArray), decB x.fTxg.toNat]) ++ (treeB x.fMeta))).1)).toNat]).length) cp15]) rfl (v := .tuple #[.string ((fieldsPut ((([(⟨#[114, 111, 111, 116]⟩ : ByteArray), decB x.fTxg.toNat]) ++ (treeB x.fMeta)) ++ ([decB (sumOf ((fieldsPut (([(⟨#[114, 111, 111, 116]⟩ : ByteArray), decB x.fTxg.toNat]) ++ (treeB x.fMeta))).1)).toNat]))).1), .bool ((fieldsPut ((([(⟨#[114, 111, 111, 116]⟩ : ByteArray), decB x.fTxg.toNat]) ++ (treeB x.fMeta)) ++ ([decB (sumOf ((fieldsPut (([(⟨#[114, 111, 111, 116]⟩ : ByteArray), decB x.fTxg.toNat]) ++ (treeB x.fMeta))).1)).toNat]))).2)]) (fieldsPutS_any _ _ _ ((([(⟨#[114, 111, 111, 116]⟩ : ByteArray), decB x.fTxg.toNat]) ++ (treeB x.fMeta)) ++ ([decB (sumOf ((fieldsPut (([(⟨#[114, 111, 111, 116]⟩ : ByteArray), decB x.fTxg.toNat]) ++ (treeB x.fMeta))).1)).toNat])) _ (by (try simp only [List.length_append, List.length_cons, List.length_nil, List.nil_append, List.length_map]); omega) (szs_app (szs_app (szs_cons (by decide) (szs_cons (by omega) szs_nil)) (szs_tree _)) (szs_cons (by omega) szs_nil)) (St.rdN HS.out encS_len 1 rfl)) rfl rfl HS.out ?_; clear HF HS a; intro w28 a HS HF; replace HS := Bx.mk HS
   refine wl_mv HF rfl rfl rfl rfl rfl ?_;clear HF a;intro a HF
   refine wl_y rfl HF rfl rfl (yl_extract rfl (HF.ev rfl) rfl) ?_;clear HF a;intro a HF
   refine wl_y rfl HF rfl rfl (yl_extract rfl (HF.ev rfl) rfl) ?_;clear HF a;intro a HF
   refine wl_as HF rfl rfl rfl rfl rfl ?_;clear HF a;intro a HF
   refine wl_as HF rfl rfl rfl rfl rfl ?_;clear HF a;intro a HF
   refine wl_ne ?_
   refine wp_sr ?_
   refine wl_mv HF rfl rfl rfl rfl rfl ?_;clear HF a;intro a HF
   refine wl_as HF rfl rfl rfl rfl rfl ?_;clear HF a;intro a HF
   refine wl_ne ?_
   refine wp_ret ?_
   refine bp_ret1 HF Tryz.results32 (HF.res rfl) ?_
   exact ⟨by rw [rootB_yes hok, ← hdz]; rfl, HS.out.bel⟩

end Go.Proofs.YtoaopmkbfifhaaaGreatDoor
