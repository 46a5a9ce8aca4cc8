/- A part of the proof in YtebpodlkndnepaaGreatDoorTaZ28. -/
import Derived.Test.YtebpodlkndnepaaGreatDoorTaZ23
/- The places of a tree: walked. -/
namespace Go.Proofs.YtebpodlkndnepaaGreatDoor
set_option linter.unusedVariables false
set_option linter.unusedSimpArgs false
set_option maxHeartbeats 1000000
set_option maxRecDepth 100000
open Go.RowKit

theorem depthOf_any (n : Int) (w0 : World) : Calls Tryz.prog 96 #[.int .i64 n] w0 fun e w' => e = .returned (.int .i64 ((depthN n : Nat) : Int)) ∧ Below w0.heap.size w0 w' := by
 have HS := Bx.mk (St.start w0)
 refine wc_enter Tryz.func96 rfl Tryz.ntmps96 [(0, .int .i64 n)] ⟨rfl, trivial⟩ rfl ?_; intro a HF
 refine wp_sr ?_
 refine za HF ?_;clear HF a;intro a HF
 refine wl_ne ?_
 refine wp_seq ?_
 refine wp_block ?_
 refine wp_sr ?_
 refine zm HF ?_;clear HF a;intro a HF
 refine zy HF (yl_leqI rfl (HF.ev rfl) (HF.ev rfl)) ?_;clear HF a;intro a HF
 refine za HF ?_;clear HF a;intro a HF
 refine wl_ne ?_
 refine HF.cases 3 rfl (fun cc1 _ => ?_) fun cc1 _ => ?_
 ·clear HF;rename_i HF
  have dcc1 := of_decide_eq_true cc1
  refine wc_true HF rfl ?_
  refine wp_sr ?_
  refine za HF ?_;clear HF a;intro a HF
  refine wl_ne ?_
  refine wp_ret ?_
  refine ex_block_ret ?_
  refine ex_then_ret ?_
  refine bp_ret1 HF Tryz.results96 (HF.res rfl) ?_
  have hd : ((depthN n : Nat) : Int) = 0 := by unfold depthN; rw [if_pos (by omega)]; rfl
  exact ⟨by rw [hd], HS.out.bel⟩
 ·clear HF;rename_i HF
  have dcc1 := of_decide_eq_false cc1
  refine wc_false HF rfl ?_
  refine wp_sr ?_
  refine zm HF ?_;clear HF a;intro a HF
  refine zy HF (yl_leqI rfl (HF.ev rfl) (HF.ev rfl)) ?_;clear HF a;intro a HF
  refine za HF ?_;clear HF a;intro a HF
  refine wl_ne ?_
  refine HF.cases 6 rfl (fun cc2 _ => ?_) fun cc2 _ => ?_
  ·clear HF;rename_i HF
   have dcc2 := of_decide_eq_true cc2
   refine wc_true HF rfl ?_
   refine wp_sr ?_
   refine za HF ?_;clear HF a;intro a HF
   refine wl_ne ?_
   refine wp_ret ?_
   refine ex_block_ret ?_
   refine ex_then_ret ?_
   refine bp_ret1 HF Tryz.results96 (HF.res rfl) ?_
   have hd : ((depthN n : Nat) : Int) = 1 := by unfold depthN; rw [if_neg (by omega), if_pos (by omega)]; rfl
   exact ⟨by rw [hd], HS.out.bel⟩
  ·clear HF;rename_i HF
   have dcc2 := of_decide_eq_false cc2
   refine wc_false HF rfl ?_
   refine wp_skip ?_
   refine ex_block ?_
   refine ex_then ?_
   refine wp_sr ?_
   refine za HF ?_;clear HF a;intro a HF
   refine wl_ne ?_
   refine wp_ret ?_
   refine bp_ret1 HF Tryz.results96 (HF.res rfl) ?_
   have hd : ((depthN n : Nat) : Int) = 2 := by unfold depthN; rw [if_neg (by omega), if_neg (by omega)]; rfl
   exact ⟨by rw [hd], HS.out.bel⟩

theorem l8Depth_any (n : Int) (w0 : World) : Calls Tryz.prog 84 #[.int .i64 n] w0 fun e w' => e = .returned (.int .i64 ((depthN n : Nat) : Int)) ∧ Below w0.heap.size w0 w' := by
 have HS := Bx.mk (St.start w0)
 refine wc_enter Tryz.func84 rfl Tryz.ntmps84 [(0, .int .i64 n)] ⟨rfl, trivial⟩ rfl ?_; intro a HF
 refine wp_sr ?_
 refine za HF ?_;clear HF a;intro a HF
 refine wl_ne ?_
 refine wp_seq ?_
 refine wp_block ?_
 refine wp_sr ?_
 refine zm HF ?_;clear HF a;intro a HF
 refine zy HF (yl_leqI rfl (HF.ev rfl) (HF.ev rfl)) ?_;clear HF a;intro a HF
 refine za HF ?_;clear HF a;intro a HF
 refine wl_ne ?_
 refine HF.cases 3 rfl (fun cc1 _ => ?_) fun cc1 _ => ?_
 ·clear HF;rename_i HF
  have dcc1 := of_decide_eq_true cc1
  refine wc_true HF rfl ?_
  refine wp_sr ?_
  refine za HF ?_;clear HF a;intro a HF
  refine wl_ne ?_
  refine wp_ret ?_
  refine ex_block_ret ?_
  refine ex_then_ret ?_
  refine bp_ret1 HF Tryz.results84 (HF.res rfl) ?_
  have hd : ((depthN n : Nat) : Int) = 0 := by unfold depthN; rw [if_pos (by omega)]; rfl
  exact ⟨by rw [hd], HS.out.bel⟩
 ·clear HF;rename_i HF
  have dcc1 := of_decide_eq_false cc1
  refine wc_false HF rfl ?_
  refine wp_sr ?_
  refine zm HF ?_;clear HF a;intro a HF
  refine zy HF (yl_leqI rfl (HF.ev rfl) (HF.ev rfl)) ?_;clear HF a;intro a HF
  refine za HF ?_;clear HF a;intro a HF
  refine wl_ne ?_
  refine HF.cases 6 rfl (fun cc2 _ => ?_) fun cc2 _ => ?_
  ·clear HF;rename_i HF
   have dcc2 := of_decide_eq_true cc2
   refine wc_true HF rfl ?_
   refine wp_sr ?_
   refine za HF ?_;clear HF a;intro a HF
   refine wl_ne ?_
   refine wp_ret ?_
   refine ex_block_ret ?_
   refine ex_then_ret ?_
   refine bp_ret1 HF Tryz.results84 (HF.res rfl) ?_
   have hd : ((depthN n : Nat) : Int) = 1 := by unfold depthN; rw [if_neg (by omega), if_pos (by omega)]; rfl
   exact ⟨by rw [hd], HS.out.bel⟩
  ·clear HF;rename_i HF
   have dcc2 := of_decide_eq_false cc2
   refine wc_false HF rfl ?_
   refine wp_skip ?_
   refine ex_block ?_
   refine ex_then ?_
   refine wp_sr ?_
   refine za HF ?_;clear HF a;intro a HF
   refine wl_ne ?_
   refine wp_ret ?_
   refine bp_ret1 HF Tryz.results84 (HF.res rfl) ?_
   have hd : ((depthN n : Nat) : Int) = 2 := by unfold depthN; rw [if_neg (by omega), if_neg (by omega)]; rfl
   exact ⟨by rw [hd], HS.out.bel⟩

theorem drop_cons {xs : List PtrD} {i : Nat} (h : i < xs.length) : xs.drop i = xs.getD i PtrD.zero :: xs.drop (i + 1) := by
  rw [List.drop_eq_getElem_cons h, List.getD_eq_getElem?_getD, List.getElem?_eq_getElem h, Option.getD_some]
theorem next_step {f : PtrD → Option (List PtrD)} {xs ys k : List PtrD} {i : Nat} (h : nextL f xs = (nextL f (xs.drop i)).map (ys ++ ·)) (hi : i < xs.length) (hk : f (xs.getD i PtrD.zero) = some k) : nextL f xs = (nextL f (xs.drop (i + 1))).map ((ys ++ k) ++ ·) := by
  rw [h, drop_cons hi, nextL_yes hk, map_app]
theorem next_stop {f : PtrD → Option (List PtrD)} {xs ys : List PtrD} {i : Nat} (h : nextL f xs = (nextL f (xs.drop i)).map (ys ++ ·)) (hi : i < xs.length) (hk : f (xs.getD i PtrD.zero) = none) : nextL f xs = none := by
  rw [h, drop_cons hi, nextL_no hk]; rfl
theorem next_end {f : PtrD → Option (List PtrD)} {xs ys : List PtrD} {i : Nat} (h : nextL f xs = (nextL f (xs.drop i)).map (ys ++ ·)) (hi : ¬ i < xs.length) : nextL f xs = some ys := by
  rw [h, List.drop_eq_nil_of_le (by omega)]
  show some (ys ++ []) = _
  rw [List.append_nil]
theorem next_begin {f : PtrD → Option (List PtrD)} {xs : List PtrD} : nextL f xs = (nextL f (xs.drop 0)).map (([] : List PtrD) ++ ·) := by
  rw [List.drop_zero]
  cases nextL f xs <;> rfl
theorem leaves_step {st : StoreD} {many : Int} {xs : List PtrD} {i : Nat} (h : leavesB st many 0 xs = leavesB st many i (xs.drop i)) (hi : i < xs.length) : leavesB st many 0 xs = (leafB st many i (xs.getD i PtrD.zero) && leavesB st many (i + 1) (xs.drop (i + 1))) := by
  rw [h, drop_cons hi]; rfl
theorem leavesS_step {st : StoreD} {many : Int} {xs : List PtrD} {i : Nat} (h : leavesS st many 0 xs = leavesS st many i (xs.drop i)) (hi : i < xs.length) : leavesS st many 0 xs = (leafS st many i (xs.getD i PtrD.zero) && leavesS st many (i + 1) (xs.drop (i + 1))) := by
  rw [h, drop_cons hi]; rfl
theorem leaves_end {st : StoreD} {many : Int} {xs : List PtrD} {i : Nat} (h : leavesB st many 0 xs = leavesB st many i (xs.drop i)) (hi : ¬ i < xs.length) : leavesB st many 0 xs = true := by
  rw [h, List.drop_eq_nil_of_le (by omega)]; rfl
theorem leavesS_end {st : StoreD} {many : Int} {xs : List PtrD} {i : Nat} (h : leavesS st many 0 xs = leavesS st many i (xs.drop i)) (hi : ¬ i < xs.length) : leavesS st many 0 xs = true := by
  rw [h, List.drop_eq_nil_of_le (by omega)]; rfl
theorem getD_mem {xs : List PtrD} {i : Nat} (h : i < xs.length) : xs.getD i PtrD.zero ∈ xs := by
  rw [List.getD_eq_getElem?_getD, List.getElem?_eq_getElem h]; exact List.getElem_mem h
theorem pow4 {n : Nat} (h : n ≤ 2) : 4 ^ n ≤ 16 := by
  rcases (by omega : n = 0 ∨ n = 1 ∨ n = 2) with rfl | rfl | rfl <;> decide
theorem pow4_step {xs ys : List PtrD} {n i : Nat} (h : xs.length * 4 ^ (n + 1) ≤ 16) (hy : ys.length = 4 * i) (hi : i = xs.length) : ys.length * 4 ^ n ≤ 16 := by
  subst hi
  rw [hy]
  rw [Nat.pow_succ] at h
  have e : 4 * xs.length * 4 ^ n = xs.length * (4 ^ n * 4) := by rw [Nat.mul_comm 4 xs.length, Nat.mul_assoc, Nat.mul_comm 4 (4 ^ n)]
  omega
theorem pow4_le {xs : List PtrD} {n : Nat} (h : xs.length * 4 ^ n ≤ 16) : xs.length ≤ 16 := by
  have h1 : 1 ≤ 4 ^ n := Nat.pos_of_ne_zero (by simp)
  have : xs.length * 1 ≤ xs.length * 4 ^ n := Nat.mul_le_mul_left _ h1
  omega

theorem kidsS_len {st : StoreD} {p : PtrD} {n : Int} {k : List PtrD} (h : kidsS st p n = some k) : k.length = 4 := kids_len (kidsS_are h).1

theorem l8Leaves_any (a0 : Option Addr) (c0 : Nat) (a1 : Option Addr) (c1 : Nat) (a2 : Option Addr) (c2 : Nat) (a4 : Option Addr) (c4 : Nat) (a6 : Option Addr) (c6 : Nat) (st : StoreD) (t : TreeD) (hdep : t.fDepth = ((depthN t.fMany : Nat) : Int)) (w0 : World) (hR : Rd encS 1 w0 a0 st.fRows.length st.fRows) (hrow : RowsOk st) : Calls Tryz.prog 85 #[.agg #[.slice a0 st.fRows.length c0, .slice a1 st.fSpace.fRefs.length c1, .slice a2 st.fSpace.fLast.length c2, .int .i64 st.fTxg, .slice a4 st.fGone.length c4, .int .i64 st.fKeep, .slice a6 st.fDead.length c6, .bool st.fSame], .agg #[.int .i64 t.fRoot.fAt, .int .i64 t.fRoot.fBirth, .int .i64 t.fRoot.fSize, .int .i64 t.fRoot.fSum, .int .i64 t.fRoot.fLevel, .int .i64 t.fDepth, .int .i64 t.fMany]] w0 fun e w' => (∃ l, downL (kidsS st) (depthN t.fMany) [t.fRoot] = some l ∧ ∃ ao cp, e = .returned (.tuple #[.slice ao l.length cp, .bool true]) ∧ St w0 [rowA PtrD.cells 5 41 (.slice ao l.length cp) l] w') ∨ (downL (kidsS st) (depthN t.fMany) [t.fRoot] = none ∧ ∃ ao n cp, e = .returned (.tuple #[.slice ao n cp, .bool false]) ∧ Below w0.heap.size w0 w') := by
 have HR := Bx.mk hR; clear hR
 have HS := Bx.mk (St.start w0)
 refine wc_enter Tryz.func85 rfl Tryz.ntmps85 [(0, .agg #[.slice a0 st.fRows.length c0, .slice a1 st.fSpace.fRefs.length c1, .slice a2 st.fSpace.fLast.length c2, .int .i64 st.fTxg, .slice a4 st.fGone.length c4, .int .i64 st.fKeep, .slice a6 st.fDead.length c6, .bool st.fSame]), (1, .agg #[.int .i64 t.fRoot.fAt, .int .i64 t.fRoot.fBirth, .int .i64 t.fRoot.fSize, .int .i64 t.fRoot.fSum, .int .i64 t.fRoot.fLevel, .int .i64 t.fDepth, .int .i64 t.fMany])] ⟨rfl, rfl, trivial⟩ rfl ?_; intro a HF
 refine wp_sr ?_
 refine wl_box rfl HF rfl (HF.ev rfl) (Z := [.slice a0 st.fRows.length c0, .slice a1 st.fSpace.fRefs.length c1, .slice a2 st.fSpace.fLast.length c2, .int .i64 st.fTxg, .slice a4 st.fGone.length c4, .int .i64 st.fKeep, .slice a6 st.fDead.length c6, .bool st.fSame]) rfl rfl rfl rfl HS.out ?_; clear HF HS a; intro a w1 b1 HF HS; replace HS := Bx.mk HS
 refine wl_box rfl HF rfl (HF.ev rfl) (Z := [.int .i64 t.fRoot.fAt, .int .i64 t.fRoot.fBirth, .int .i64 t.fRoot.fSize, .int .i64 t.fRoot.fSum, .int .i64 t.fRoot.fLevel, .int .i64 t.fDepth, .int .i64 t.fMany]) rfl rfl rfl rfl HS.out ?_; clear HF HS a; intro a w2 b2 HF HS; replace HS := Bx.mk HS
 refine za HF ?_;clear HF a;intro a HF
 refine za HF ?_;clear HF a;intro a HF
 refine wl_ne ?_
 refine wp_sr ?_
 refine zy HF (yfa 0 rfl (HF.ev rfl)) ?_;clear HF a;intro a HF
 refine zy HF (ylr (cs := [.int .i64 t.fRoot.fAt, .int .i64 t.fRoot.fBirth, .int .i64 t.fRoot.fSize, .int .i64 t.fRoot.fSum, .int .i64 t.fRoot.fLevel]) rfl (HF.ev rfl) ((HS.out.box 0 rfl).sub 0 5)) ?_;clear HF a;intro a HF
 refine wl_buildS (enc := PtrD.cells) (e := 41) (size := 5) rfl HF rfl rfl rfl (ps := [(0, .agg #[.int .i64 t.fRoot.fAt, .int .i64 t.fRoot.fBirth, .int .i64 t.fRoot.fSize, .int .i64 t.fRoot.fSum, .int .i64 t.fRoot.fLevel])]) rfl (cells := [.int .i64 t.fRoot.fAt, .int .i64 t.fRoot.fBirth, .int .i64 t.fRoot.fSize, .int .i64 t.fRoot.fSum, .int .i64 t.fRoot.fLevel]) (by kernel_rfl) [t.fRoot] rfl rfl (by unfold maxLen; omega) rfl HS.out ?_; clear HF HS a; intro b3 a w3 HF HS; replace HS := Bx.mk HS
 refine za HF ?_;clear HF a;intro a HF
 refine wl_ne ?_
 refine wp_seq ?_
 refine wp_sr ?_
 refine zy HF (yfa 5 rfl (HF.ev rfl)) ?_;clear HF a;intro a HF
 refine zy HF (ylo (v := .int .i64 t.fDepth) rfl (HF.ev rfl) (((HS.out.box 1 rfl).cell 5).trans rfl)) ?_;clear HF a;intro a HF
 refine za HF ?_;clear HF a;intro a HF
 refine wl_ne ?_
 refine wp_block ?_
 replace HS:=Bx.mk (HS.out.pick 0 rfl)
 refine wc_loop (ι := Nat) (fun n a w => ∃ (ao : Option Addr) (cp : Nat) (xs : List PtrD), (downL (kidsS st) (depthN t.fMany) [t.fRoot] = downL (kidsS st) n xs ∧ xs.length * 4 ^ n ≤ 16 ∧ n ≤ 2) ∧ Fr 46 a [(0, .agg #[.slice a0 st.fRows.length c0, .slice a1 st.fSpace.fRefs.length c1, .slice a2 st.fSpace.fLast.length c2, .int .i64 st.fTxg, .slice a4 st.fGone.length c4, .int .i64 st.fKeep, .slice a6 st.fDead.length c6, .bool st.fSame]), (1, .agg #[.int .i64 t.fRoot.fAt, .int .i64 t.fRoot.fBirth, .int .i64 t.fRoot.fSize, .int .i64 t.fRoot.fSum, .int .i64 t.fRoot.fLevel, .int .i64 t.fDepth, .int .i64 t.fMany]), (2, .pointer (some ⟨b1, 0, none⟩)), (3, .pointer (some ⟨b2, 0, none⟩)), (4, .slice none 0 0), (5, .bool false), (6, .slice ao xs.length cp), (7, .int .i64 (n : Int))] ∧ St w0 ([rowA PtrD.cells 5 41 (.slice ao xs.length cp) xs, boxA b2 7 43 (.agg #[.int .i64 t.fRoot.fAt, .int .i64 t.fRoot.fBirth, .int .i64 t.fRoot.fSize, .int .i64 t.fRoot.fSum, .int .i64 t.fRoot.fLevel, .int .i64 t.fDepth, .int .i64 t.fMany]), boxA b1 8 39 (.agg #[.slice a0 st.fRows.length c0, .slice a1 st.fSpace.fRefs.length c1, .slice a2 st.fSpace.fLast.length c2, .int .i64 st.fTxg, .slice a4 st.fGone.length c4, .int .i64 st.fKeep, .slice a6 st.fDead.length c6, .bool st.fSame])]) w) (fun n => n) (depthN t.fMany) ⟨_, _, [t.fRoot], ⟨rfl, by simpa using pow4 (depthN_le t.fMany), depthN_le _⟩, HF.less _ ⟨rfl, rfl, rfl, rfl, rfl, rfl, rfl, (by show some (Value.int .i64 _) = some (Value.int .i64 _); exact congrArg (fun z => some (Value.int .i64 z)) hdep), trivial⟩, HS.out⟩ ?_
 clear HF HS; clear a
 rintro n a w4 ⟨ao, cp, xs, ⟨hd, hp4, hn2⟩, HF, HS⟩
 replace HS := Bx.mk HS
 have hx16 := pow4_le hp4
 refine wp_seq ?_
 refine wp_sr ?_
 refine zm HF ?_;clear HF a;intro a HF
 refine zy HF (yl_gtrI rfl (HF.ev rfl) (HF.ev rfl)) ?_;clear HF a;intro a HF
 refine wl_ne ?_
 refine HF.cases 18 rfl (fun cc1 _ => ?_) fun cc1 _ => ?_
 ·clear HF;rename_i HF
  have dcc1 := of_decide_eq_true cc1
  obtain ⟨n, rfl⟩ : ∃ m, n = m + 1 := ⟨n - 1, by omega⟩
  refine wc_true HF rfl ?_
  refine wp_skip ?_
  refine ex_then ?_
  refine wp_seq ?_
  refine wp_block ?_
  refine wp_sr ?_
  refine wl_empty (e := 41) (size := 5) rfl HF rfl rfl rfl (by kernel_rfl) HS.out ?_; clear HF HS a; intro a w5 b4 HF HS; replace HS := Bx.mk HS
  refine za HF ?_;clear HF a;intro a HF
  refine wl_ne ?_
  refine wp_seq ?_
  refine wp_sr ?_
  refine za HF ?_;clear HF a;intro a HF
  refine wl_ne ?_
  refine wp_block ?_
  replace HS := Bx.mk (HS.out.nilRow PtrD.cells 5 41 (some ⟨b4, 0, none⟩))
  refine wc_loop (ι := Nat) (fun i a w => ∃ (ay : Option Addr) (cy : Nat) (ys : List PtrD), (i ≤ xs.length ∧ nextL (fun p => kidsS st p ((n + 1 : Nat) : Int)) xs = (nextL (fun p => kidsS st p ((n + 1 : Nat) : Int)) (xs.drop i)).map (ys ++ ·) ∧ ys.length = 4 * i) ∧ Fr 46 a [(0, .agg #[.slice a0 st.fRows.length c0, .slice a1 st.fSpace.fRefs.length c1, .slice a2 st.fSpace.fLast.length c2, .int .i64 st.fTxg, .slice a4 st.fGone.length c4, .int .i64 st.fKeep, .slice a6 st.fDead.length c6, .bool st.fSame]), (1, .agg #[.int .i64 t.fRoot.fAt, .int .i64 t.fRoot.fBirth, .int .i64 t.fRoot.fSize, .int .i64 t.fRoot.fSum, .int .i64 t.fRoot.fLevel, .int .i64 t.fDepth, .int .i64 t.fMany]), (2, .pointer (some ⟨b1, 0, none⟩)), (3, .pointer (some ⟨b2, 0, none⟩)), (4, .slice none 0 0), (5, .bool false), (6, .slice ao xs.length cp), (7, .int .i64 ((n + 1 : Nat) : Int)), (8, .slice ay ys.length cy), (9, .int .i64 (i : Int))] ∧ St w0 ([rowA PtrD.cells 5 41 (.slice ay ys.length cy) ys, rowA PtrD.cells 5 41 (.slice ao xs.length cp) xs, boxA b2 7 43 (.agg #[.int .i64 t.fRoot.fAt, .int .i64 t.fRoot.fBirth, .int .i64 t.fRoot.fSize, .int .i64 t.fRoot.fSum, .int .i64 t.fRoot.fLevel, .int .i64 t.fDepth, .int .i64 t.fMany]), boxA b1 8 39 (.agg #[.slice a0 st.fRows.length c0, .slice a1 st.fSpace.fRefs.length c1, .slice a2 st.fSpace.fLast.length c2, .int .i64 st.fTxg, .slice a4 st.fGone.length c4, .int .i64 st.fKeep, .slice a6 st.fDead.length c6, .bool st.fSame])]) w) (fun i => xs.length - i) 0 ⟨_, _, [], ⟨Nat.zero_le _, next_begin, rfl⟩, HF.less _ ⟨rfl, rfl, rfl, rfl, rfl, rfl, rfl, rfl, rfl, rfl, trivial⟩, HS.out⟩ ?_
  clear HF HS; clear a
  rintro i a w6 ⟨ay, cy, ys, ⟨hi, hnx, hyl⟩, HF, HS⟩
  replace HS := Bx.mk HS
  refine wp_seq ?_
  refine wp_sr ?_
  refine zm HF ?_;clear HF a;intro a HF
  refine zm HF ?_;clear HF a;intro a HF
  refine zy HF (yl_lenL (e := 41) (size := 5) rfl (HF.ev rfl) (by kernel_rfl)) ?_;clear HF a;intro a HF
  refine zy HF (yl_lssI rfl (HF.ev rfl) (HF.ev rfl)) ?_;clear HF a;intro a HF
  refine wl_ne ?_
  refine HF.cases 25 rfl (fun cc2 _ => ?_) fun cc2 _ => ?_
  ·clear HF;rename_i HF
   have dcc2 := of_decide_eq_true cc2
   refine wc_true HF rfl ?_
   refine wp_skip ?_
   refine ex_then ?_
   refine wp_seq ?_
   refine wp_block ?_
   refine wp_seq ?_
   obtain ⟨g5, rfl, _, _, _, _⟩ := HS.out.rowOpen 1 rfl (by omega)
   refine wr_heldS (s := [rowA PtrD.cells 5 41 (.slice ay ys.length cy) ys, rowA PtrD.cells 5 41 (.slice (some ⟨g5, 0, none⟩) xs.length cp) xs, boxA b2 7 43 (.agg #[.int .i64 t.fRoot.fAt, .int .i64 t.fRoot.fBirth, .int .i64 t.fRoot.fSize, .int .i64 t.fRoot.fSum, .int .i64 t.fRoot.fLevel, .int .i64 t.fDepth, .int .i64 t.fMany]), boxA b1 8 39 (.agg #[.slice a0 st.fRows.length c0, .slice a1 st.fSpace.fRefs.length c1, .slice a2 st.fSpace.fLast.length c2, .int .i64 st.fTxg, .slice a4 st.fGone.length c4, .int .i64 st.fKeep, .slice a6 st.fDead.length c6, .bool st.fSame])]) (by kernel_rfl) (St.drew (HS.out)) ?_
   have HS2 := Bx.mk HS.out.drew; replace HS := Bx.mk (show St w0 ([rowA PtrD.cells 5 41 (.slice ay ys.length cy) ys, rowA PtrD.cells 5 41 (.slice (some ⟨g5, 0, none⟩) xs.length cp) xs, boxA b2 7 43 (.agg #[.int .i64 t.fRoot.fAt, .int .i64 t.fRoot.fBirth, .int .i64 t.fRoot.fSize, .int .i64 t.fRoot.fSum, .int .i64 t.fRoot.fLevel, .int .i64 t.fDepth, .int .i64 t.fMany]), boxA b1 8 39 (.agg #[.slice a0 st.fRows.length c0, .slice a1 st.fSpace.fRefs.length c1, .slice a2 st.fSpace.fLast.length c2, .int .i64 st.fTxg, .slice a4 st.fGone.length c4, .int .i64 st.fKeep, .slice a6 st.fDead.length c6, .bool st.fSame])]) _ from HS.out.drew)
   generalize World.drew _ = w7 at HS HS2 ⊢
   refine zh 0 rfl HF (fun _ HS => (ylr (cs := [.slice a0 st.fRows.length c0, .slice a1 st.fSpace.fRefs.length c1, .slice a2 st.fSpace.fLast.length c2, .int .i64 st.fTxg, .slice a4 st.fGone.length c4, .int .i64 st.fKeep, .slice a6 st.fDead.length c6, .bool st.fSame]) rfl (HF.ev rfl) ((HS.box 3 rfl).sub 0 8))) HS.out ?_;clear HF a;intro a HF
   refine zh 1 rfl HF (fun _ HS => (yl_move rfl (HF.ev rfl))) HS.out ?_;clear HF a;intro a HF
   refine zh 2 rfl HF (fun _ HS => (yl_move rfl (HF.ev rfl))) HS.out ?_;clear HF a;intro a HF
   refine zh 3 rfl HF (fun _ HS => (yl_indexAddr (e := 41) (i := i) (size := 5) rfl (HF.ev rfl) (HF.ev rfl) (by kernel_rfl) rfl (by omega))) HS.out ?_;clear HF a;intro a HF
   refine zh 4 rfl HF (fun _ HS => (ylr (cs := [.int .i64 ((xs.getD i PtrD.zero).fAt), .int .i64 ((xs.getD i PtrD.zero).fBirth), .int .i64 ((xs.getD i PtrD.zero).fSize), .int .i64 ((xs.getD i PtrD.zero).fSum), .int .i64 ((xs.getD i PtrD.zero).fLevel)]) rfl (HF.ev rfl) (HS.elem PtrD.cells_len 1 rfl (get_getD (xs := xs) (j := i) (d := PtrD.zero) (by omega))))) HS.out ?_;clear HF a;intro a HF
   refine zh 5 rfl HF (fun _ HS => (yl_move rfl (HF.ev rfl))) HS.out ?_;clear HF a;intro a HF
   refine wh_one 6 (by kernel_rfl) ?_
   refine wo_call rfl rfl HF rfl (enter_of Tryz.func58 (by kernel_rfl) rfl) (args := #[.agg #[.slice a0 st.fRows.length c0, .slice a1 st.fSpace.fRefs.length c1, .slice a2 st.fSpace.fLast.length c2, .int .i64 st.fTxg, .slice a4 st.fGone.length c4, .int .i64 st.fKeep, .slice a6 st.fDead.length c6, .bool st.fSame], .agg #[.int .i64 ((xs.getD i PtrD.zero).fAt), .int .i64 ((xs.getD i PtrD.zero).fBirth), .int .i64 ((xs.getD i PtrD.zero).fSize), .int .i64 ((xs.getD i PtrD.zero).fSum), .int .i64 ((xs.getD i PtrD.zero).fLevel)], .int .i64 ((n + 1 : Nat) : Int)]) rfl (l8Below_any a0 c0 a1 c1 a2 c2 a4 c4 a6 c6 st (xs.getD i PtrD.zero) ((n + 1 : Nat) : Int) _ (HR.out.below HS2.out.bel) hrow) rfl rfl ?_
   rintro _ w9 (⟨l6, hk6, ao6, cp6, rfl, hs1⟩ | ⟨hk6, ao6, nn6, cp6, rfl, hb⟩)
   ·skip
    have hll6 := kidsS_len hk6
    refine ⟨_, rfl, ?_⟩; replace HS := Bx.mk (HS.out.later hs1.bel); replace HS2 := Bx.mk (HS2.out.add hs1);clear hs1 HF a;intro a HF
    replace HS2 : Bx (St w0 ([rowA PtrD.cells 5 41 (.slice ao6 l6.length cp6) l6, rowA PtrD.cells 5 41 (.slice ay ys.length cy) ys, rowA PtrD.cells 5 41 (.slice (some ⟨g5, 0, none⟩) xs.length cp) xs, boxA b2 7 43 (.agg #[.int .i64 t.fRoot.fAt, .int .i64 t.fRoot.fBirth, .int .i64 t.fRoot.fSize, .int .i64 t.fRoot.fSum, .int .i64 t.fRoot.fLevel, .int .i64 t.fDepth, .int .i64 t.fMany]), boxA b1 8 39 (.agg #[.slice a0 st.fRows.length c0, .slice a1 st.fSpace.fRefs.length c1, .slice a2 st.fSpace.fLast.length c2, .int .i64 st.fTxg, .slice a4 st.fGone.length c4, .int .i64 st.fKeep, .slice a6 st.fDead.length c6, .bool st.fSame])]) _) := ⟨HS2.out⟩; refine ⟨HS.out, ?_⟩
    refine zh 7 rfl HF (fun _ HS => (yl_move rfl (HF.ev rfl))) HS.out ?_;clear HF a;intro a HF
    refine zh 8 rfl HF (fun _ HS => (yl_extract rfl (HF.ev rfl) rfl)) HS.out ?_;clear HF a;intro a HF
    refine zh 9 rfl HF (fun _ HS => (yl_extract rfl (HF.ev rfl) rfl)) HS.out ?_;clear HF a;intro a HF
    refine zh 10 rfl HF (fun _ HS => (yl_assign rfl (HF.ev rfl))) HS.out ?_;clear HF a;intro a HF
    refine zh 11 rfl HF (fun _ HS => (yl_assign rfl (HF.ev rfl))) HS.out ?_;clear HF a;intro a HF
    refine wh_done (by kernel_rfl) ?_
    replace HS := HS2; clear HS2
    refine ex_then ?_
    refine wp_seq ?_
    refine wp_sr ?_
    refine zm HF ?_;clear HF a;intro a HF
    refine zy HF (yl_not rfl (HF.ev rfl)) ?_;clear HF a;intro a HF
    refine wl_ne ?_
    refine wc_false HF rfl ?_
    refine wp_skip ?_
    refine ex_then ?_
    refine wp_region_lit ?_
    refine zm HF ?_;clear HF a;intro a HF
    refine zm HF ?_;clear HF a;intro a HF
    refine wl_appL rfl HF rfl rfl rfl (HF.ev rfl) (HF.ev rfl) elemQ PtrD.cells_len HS.out 1 (xs := ys) rfl (ys := l6) (St.rdOf HS.out PtrD.cells_len 0 rfl) (cells_one_Q _) (by unfold maxLen; (try simp only [List.length_append, List.length_cons, List.length_nil, List.nil_append, List.length_map]); omega) (by (try simp only [List.length_append, List.length_cons, List.length_nil, List.nil_append, List.length_map]); omega) ?_; clear HF HS a; intro ao7 cp8 w10 a HF HS; replace HS := Bx.mk HS
    try dsimp only [List.eraseIdx] at HS
    refine za HF ?_;clear HF a;intro a HF
    refine wpList_nil ?_
    refine ex_block ?_
    refine ex_then ?_
    refine wp_region_lit ?_
    refine zm HF ?_;clear HF a;intro a HF
    refine zy HF (yl_addI rfl (HF.ev rfl) (HF.ev rfl) (i64w (by omega))) ?_;clear HF a;intro a HF
    refine za HF ?_;clear HF a;intro a HF
    refine wl_ne ?_
    have hz : ys.length + l6.length = (ys ++ l6).length := (List.length_append ..).symm
    rw [hz] at HS HF
    have hl4 := kidsS_len hk6; have hyl2 : (ys ++ l6).length = 4 * (i + 1) := by rw [List.length_append]; omega
    replace HS:=Bx.mk ((((HS.out.pick 4 rfl).pick 4 rfl).pick 4 rfl).pick 4 rfl)
    exact ⟨i + 1, ⟨_, _, ys ++ l6, ⟨by omega, next_step hnx (by omega) hk6, hyl2⟩, HF.less _ ⟨rfl, rfl, rfl, rfl, rfl, rfl, rfl, rfl, rfl, rfl, trivial⟩, (HS.out.erase 4)⟩, (by omega)⟩
   ·skip
    refine ⟨_, rfl, ?_⟩; replace HS := Bx.mk (HS.out.later hb); replace HS2 := Bx.mk (HS2.out.later hb);clear hb HF a;intro a HF; refine ⟨HS.out, ?_⟩
    refine zh 7 rfl HF (fun _ HS => (yl_move rfl (HF.ev rfl))) HS.out ?_;clear HF a;intro a HF
    refine zh 8 rfl HF (fun _ HS => (yl_extract rfl (HF.ev rfl) rfl)) HS.out ?_;clear HF a;intro a HF
    refine zh 9 rfl HF (fun _ HS => (yl_extract rfl (HF.ev rfl) rfl)) HS.out ?_;clear HF a;intro a HF
    refine zh 10 rfl HF (fun _ HS => (yl_assign rfl (HF.ev rfl))) HS.out ?_;clear HF a;intro a HF
    refine zh 11 rfl HF (fun _ HS => (yl_assign rfl (HF.ev rfl))) HS.out ?_;clear HF a;intro a HF
    refine wh_done (by kernel_rfl) ?_
    replace HS := HS2; clear HS2
    refine ex_then ?_
    refine wp_seq ?_
    refine wp_sr ?_
    refine zm HF ?_;clear HF a;intro a HF
    refine zy HF (yl_not rfl (HF.ev rfl)) ?_;clear HF a;intro a HF
    refine wl_ne ?_
    refine wc_true HF rfl ?_
    refine wp_sr ?_
    refine wl_empty (e := 41) (size := 5) rfl HF rfl rfl rfl (by kernel_rfl) HS.out ?_; clear HF HS a; intro a w11 b9 HF HS; replace HS := Bx.mk HS
    refine za HF ?_;clear HF a;intro a HF
    refine za HF ?_;clear HF a;intro a HF
    refine wl_ne ?_
    refine wp_ret ?_
    refine ex_then_ret ?_
    refine ex_block_ret ?_
    refine ex_then_ret ?_
    refine ex_then_ret ?_
    refine ex_block_ret ?_
    refine ex_then_ret ?_
    refine ex_block_ret ?_
    refine ex_then_ret ?_
    refine ex_then_ret ?_
    refine ex_block_ret ?_
    refine ex_then_ret ?_
    refine bp_ret2 HF Tryz.results85 (HF.res rfl) (HF.res rfl) ?_
    exact .inr ⟨hd.trans (downL_no (next_stop hnx (by omega) hk6)), _, _, _, rfl, HS.out.bel⟩
  ·clear HF;rename_i HF
   have dcc2 := of_decide_eq_false cc2
   refine wc_false HF rfl ?_
   refine wp_exit ?_
   refine ex_then_exit ?_
   refine ex_then_exit ?_
   refine ex_block_hit ?_
   refine ex_then ?_
   refine wp_region_lit ?_
   refine zm HF ?_;clear HF a;intro a HF
   refine za HF ?_;clear HF a;intro a HF
   refine wpList_nil ?_
   refine ex_block ?_
   refine ex_then ?_
   refine wp_region_lit ?_
   refine zm HF ?_;clear HF a;intro a HF
   refine zy HF (yl_subI (r := (n : Int)) rfl (HF.ev rfl) (HF.ev rfl) ((i64w (by omega)).trans (by omega))) ?_;clear HF a;intro a HF
   refine za HF ?_;clear HF a;intro a HF
   refine wl_ne ?_
   replace HS:=Bx.mk (((HS.out.pick 3 rfl).pick 3 rfl).pick 2 rfl)
   exact ⟨n, ⟨_, _, ys, ⟨(hd.trans (downL_yes (next_end hnx (by omega)))), pow4_step hp4 hyl (by omega), by omega⟩, HF.less _ ⟨rfl, rfl, rfl, rfl, rfl, rfl, rfl, rfl, trivial⟩, (HS.out.erase 3)⟩, (Nat.lt_succ_self _)⟩
 ·clear HF;rename_i HF
  have dcc1 := of_decide_eq_false cc1
  obtain rfl : n = 0 := by omega
  refine wc_false HF rfl ?_
  refine wp_exit ?_
  refine ex_then_exit ?_
  refine ex_then_exit ?_
  refine ex_block_hit ?_
  refine ex_then ?_
  refine wp_sr ?_
  refine zm HF ?_;clear HF a;intro a HF
  refine za HF ?_;clear HF a;intro a HF
  refine za HF ?_;clear HF a;intro a HF
  refine wl_ne ?_
  refine wp_ret ?_
  refine bp_ret2 HF Tryz.results85 (HF.res rfl) (HF.res rfl) ?_
  exact .inl ⟨xs, hd, _, _, rfl, ((HS.out.erase 2).erase 1)⟩

theorem downS_ok {st : StoreD} : ∀ {n : Nat} {l m : List PtrD}, (∀ p ∈ l, p.ok = true) → downL (kidsS st) n l = some m → ∀ p ∈ m, p.ok = true
  | 0, l, m, h, hd => by obtain rfl : l = m := Option.some.inj hd; exact h
  | n + 1, l, m, h, hd => by
    cases hn : nextL (fun p => kidsS st p ((n + 1 : Nat) : Int)) l with
    | none => rw [downL_no hn] at hd; cases hd
    | some x =>
      rw [downL_yes hn] at hd
      refine downS_ok (fun q hq => ?_) hd
      obtain ⟨p, _, k, hk, hq⟩ := (nextL_mem hn).2.1 q hq
      exact (kids_are (kidsS_are hk).1).2.1 q hq
theorem leafS_hole {st : StoreD} {many : Int} {i : Nat} {p : PtrD} (h : p.hole = true) : leafS st many i p = true := by unfold leafS; rw [h]; rfl
theorem leafS_is {st : StoreD} {many : Int} {i : Nat} {p : PtrD} (h : p.hole = false) : leafS st many i p = (readB st p && ((p.fLevel == 0) && (decide (p.fBirth ≤ st.fTxg) && decide ((i : Int) < many)))) := by unfold leafS; rw [h]; rfl

theorem l8Ok_any (a0 : Option Addr) (c0 : Nat) (a1 : Option Addr) (c1 : Nat) (a2 : Option Addr) (c2 : Nat) (a4 : Option Addr) (c4 : Nat) (a6 : Option Addr) (c6 : Nat) (st : StoreD) (t : TreeD) (w0 : World) (hR : Rd encS 1 w0 a0 st.fRows.length st.fRows) (hrow : RowsOk st) : Calls Tryz.prog 56 #[.agg #[.slice a0 st.fRows.length c0, .slice a1 st.fSpace.fRefs.length c1, .slice a2 st.fSpace.fLast.length c2, .int .i64 st.fTxg, .slice a4 st.fGone.length c4, .int .i64 st.fKeep, .slice a6 st.fDead.length c6, .bool st.fSame], .agg #[.int .i64 t.fRoot.fAt, .int .i64 t.fRoot.fBirth, .int .i64 t.fRoot.fSize, .int .i64 t.fRoot.fSum, .int .i64 t.fRoot.fLevel, .int .i64 t.fDepth, .int .i64 t.fMany]] w0 fun e w' => e = .returned (.bool (okS st t)) ∧ Below w0.heap.size w0 w' := by
 have HR := Bx.mk hR; clear hR
 have HS := Bx.mk (St.start w0)
 refine wc_enter Tryz.func56 rfl Tryz.ntmps56 [(0, .agg #[.slice a0 st.fRows.length c0, .slice a1 st.fSpace.fRefs.length c1, .slice a2 st.fSpace.fLast.length c2, .int .i64 st.fTxg, .slice a4 st.fGone.length c4, .int .i64 st.fKeep, .slice a6 st.fDead.length c6, .bool st.fSame]), (1, .agg #[.int .i64 t.fRoot.fAt, .int .i64 t.fRoot.fBirth, .int .i64 t.fRoot.fSize, .int .i64 t.fRoot.fSum, .int .i64 t.fRoot.fLevel, .int .i64 t.fDepth, .int .i64 t.fMany])] ⟨rfl, rfl, trivial⟩ rfl ?_; intro a HF
 refine wp_sr ?_
 refine wl_box rfl HF rfl (HF.ev rfl) (Z := [.slice a0 st.fRows.length c0, .slice a1 st.fSpace.fRefs.length c1, .slice a2 st.fSpace.fLast.length c2, .int .i64 st.fTxg, .slice a4 st.fGone.length c4, .int .i64 st.fKeep, .slice a6 st.fDead.length c6, .bool st.fSame]) rfl rfl rfl rfl HS.out ?_; clear HF HS a; intro a w1 b1 HF HS; replace HS := Bx.mk HS
 refine wl_box rfl HF rfl (HF.ev rfl) (Z := [.int .i64 t.fRoot.fAt, .int .i64 t.fRoot.fBirth, .int .i64 t.fRoot.fSize, .int .i64 t.fRoot.fSum, .int .i64 t.fRoot.fLevel, .int .i64 t.fDepth, .int .i64 t.fMany]) rfl rfl rfl rfl HS.out ?_; clear HF HS a; intro a w2 b2 HF HS; replace HS := Bx.mk HS
 refine za HF ?_;clear HF a;intro a HF
 refine wl_ne ?_
 refine wp_seq ?_
 refine wp_seq ?_
 refine wr_quiet (by kernel_rfl) (by kernel_rfl) HS.out ?_
 refine zq HF (fun _ HS => (yfa 6 rfl (HF.ev rfl))) ?_;clear HF a;intro a HF
 refine zq HF (fun _ HS => (ylo (v := .int .i64 t.fMany) rfl (HF.ev rfl) (((HS.box 0 rfl).cell 6).trans rfl))) ?_;clear HF a;intro a HF
 refine wq_call rfl HF rfl (enter_of Tryz.func41 (by kernel_rfl) rfl) (args := #[.int .i64 t.fMany, .int .i64 0, .int .i64 16]) rfl (v := .bool (inB t.fMany 0 16)) (fun _ HS => ((l6In_any t.fMany 0 16 _).mono fun _ _ h => ⟨h.1, h.2 ▸ Below.refl _ _⟩)) rfl rfl ?_;clear HF a;intro a HF
 refine zq HF (fun _ HS => (yl_not rfl (HF.ev rfl))) ?_;clear HF a;intro a HF
 refine zq HF (fun _ HS => (yl_move rfl (HF.ev rfl))) ?_;clear HF a;intro a HF
 refine HF.cases 15 rfl (fun cc1 _ => ?_) fun cc1 _ => ?_
 ·clear HF;rename_i HF
  refine wq_skip HF rfl rfl rfl rfl rfl rfl ?_;clear HF a;intro a HF
  refine wq_skip HF rfl rfl rfl rfl rfl rfl ?_;clear HF a;intro a HF
  refine wq_skip HF rfl rfl rfl rfl rfl rfl ?_;clear HF a;intro a HF
  refine wq_skip HF rfl rfl rfl rfl rfl rfl ?_;clear HF a;intro a HF
  refine wq_skip HF rfl rfl rfl rfl rfl rfl ?_;clear HF a;intro a HF
  refine wq_skip HF rfl rfl rfl rfl rfl rfl ?_;clear HF a;intro a HF
  refine zq HF (fun _ HS => (yl_pick_t rfl (HF.ev rfl) (HF.ev rfl))) ?_;clear HF a;intro a HF
  refine zq HF (fun _ HS => (yl_move rfl (HF.ev rfl))) ?_;clear HF a;intro a HF
  refine wq_skip HF rfl rfl rfl rfl rfl rfl ?_;clear HF a;intro a HF
  refine wq_skip HF rfl rfl rfl rfl rfl rfl ?_;clear HF a;intro a HF
  refine wq_skip HF rfl rfl rfl rfl rfl rfl ?_;clear HF a;intro a HF
  refine wq_skip HF rfl rfl rfl rfl rfl rfl ?_;clear HF a;intro a HF
  refine zq HF (fun _ HS => (yl_pick_t rfl (HF.ev rfl) (HF.ev rfl))) ?_;clear HF a;intro a HF
  refine wpQuiet_nil ?_; intro w3 HS; replace HS := Bx.mk HS
  refine ex_then ?_
  refine wc_true HF rfl ?_
  refine wp_sr ?_
  refine za HF ?_;clear HF a;intro a HF
  refine wl_ne ?_
  refine wp_ret ?_
  refine ex_then_ret ?_
  refine bp_ret1 HF Tryz.results56 (HF.res rfl) ?_
  have htop : topS t = false := by
   have h : inB t.fMany 0 16 = false := (by simpa using cc1); unfold topS; rw [h]; rfl
  exact ⟨by rw [okS_top htop], HS.out.bel⟩
 ·clear HF;rename_i HF
  have inT : inB t.fMany 0 16 = true := by simpa using cc1
  refine zqg HF (fun _ HS => (yfa 5 rfl (HF.ev rfl))) ?_;clear HF a;intro a HF
  refine zqg HF (fun _ HS => (ylo (v := .int .i64 t.fDepth) rfl (HF.ev rfl) (((HS.box 0 rfl).cell 5).trans rfl))) ?_;clear HF a;intro a HF
  refine zqg HF (fun _ HS => (yfa 6 rfl (HF.ev rfl))) ?_;clear HF a;intro a HF
  refine zqg HF (fun _ HS => (ylo (v := .int .i64 t.fMany) rfl (HF.ev rfl) (((HS.box 0 rfl).cell 6).trans rfl))) ?_;clear HF a;intro a HF
  refine wq_callg HF rfl rfl rfl rfl (enter_of Tryz.func84 (by kernel_rfl) rfl) (args := #[.int .i64 t.fMany]) rfl (v := .int .i64 ((depthN t.fMany : Nat) : Int)) (fun _ HS => l8Depth_any t.fMany _) rfl rfl ?_;clear HF a;intro a HF
  refine zqg HF (fun _ HS => (yl_neqI rfl (HF.ev rfl) (HF.ev rfl))) ?_;clear HF a;intro a HF
  refine zq HF (fun _ HS => (yl_pick_f rfl (HF.ev rfl) (HF.ev rfl))) ?_;clear HF a;intro a HF
  refine zq HF (fun _ HS => (yl_move rfl (HF.ev rfl))) ?_;clear HF a;intro a HF
  refine HF.cases 23 rfl (fun cc2 _ => ?_) fun cc2 _ => ?_
  ·clear HF;rename_i HF
   have dcc2 := bne_iff_ne.1 cc2
   refine wq_skip HF rfl rfl rfl rfl rfl rfl ?_;clear HF a;intro a HF
   refine wq_skip HF rfl rfl rfl rfl rfl rfl ?_;clear HF a;intro a HF
   refine wq_skip HF rfl rfl rfl rfl rfl rfl ?_;clear HF a;intro a HF
   refine wq_skip HF rfl rfl rfl rfl rfl rfl ?_;clear HF a;intro a HF
   refine zq HF (fun _ HS => (yl_pick_t rfl (HF.ev rfl) (HF.ev rfl))) ?_;clear HF a;intro a HF
   refine wpQuiet_nil ?_; intro w4 HS; replace HS := Bx.mk HS
   refine ex_then ?_
   refine wc_true HF rfl ?_
   refine wp_sr ?_
   refine za HF ?_;clear HF a;intro a HF
   refine wl_ne ?_
   refine wp_ret ?_
   refine ex_then_ret ?_
   refine bp_ret1 HF Tryz.results56 (HF.res rfl) ?_
   have htop : topS t = false := by
    have h : (t.fDepth == ((depthN t.fMany : Nat) : Int)) = false := (by simpa using dcc2); unfold topS; rw [h]; simp
   exact ⟨by rw [okS_top htop], HS.out.bel⟩
  ·clear HF;rename_i HF
   have dcc2 := bne_eq_false_iff_eq.1 cc2
   have hdep : t.fDepth = ((depthN t.fMany : Nat) : Int) := dcc2
   refine zqg HF (fun _ HS => (yfa 0 rfl (HF.ev rfl))) ?_;clear HF a;intro a HF
   refine zqg HF (fun _ HS => (ylr (cs := [.int .i64 t.fRoot.fAt, .int .i64 t.fRoot.fBirth, .int .i64 t.fRoot.fSize, .int .i64 t.fRoot.fSum, .int .i64 t.fRoot.fLevel]) rfl (HF.ev rfl) ((HS.box 0 rfl).sub 0 5))) ?_;clear HF a;intro a HF
   refine wq_callg HF rfl rfl rfl rfl (enter_of Tryz.func83 (by kernel_rfl) rfl) (args := #[.agg #[.int .i64 t.fRoot.fAt, .int .i64 t.fRoot.fBirth, .int .i64 t.fRoot.fSize, .int .i64 t.fRoot.fSum, .int .i64 t.fRoot.fLevel]]) rfl (v := .bool t.fRoot.ok) (fun _ HS => specPtrOk_any t.fRoot _) rfl rfl ?_;clear HF a;intro a HF
   refine zqg HF (fun _ HS => (yl_not rfl (HF.ev rfl))) ?_;clear HF a;intro a HF
   refine zq HF (fun _ HS => (yl_pick_f rfl (HF.ev rfl) (HF.ev rfl))) ?_;clear HF a;intro a HF
   refine wpQuiet_nil ?_; intro w5 HS; replace HS := Bx.mk HS
   refine ex_then ?_
   refine HF.cases 28 rfl (fun cc3 _ => ?_) fun cc3 _ => ?_
   ·clear HF;rename_i HF
    refine wc_true HF rfl ?_
    refine wp_sr ?_
    refine za HF ?_;clear HF a;intro a HF
    refine wl_ne ?_
    refine wp_ret ?_
    refine ex_then_ret ?_
    refine bp_ret1 HF Tryz.results56 (HF.res rfl) ?_
    have htop : topS t = false := by
     have h : t.fRoot.ok = false := (by simpa using cc3); unfold topS; rw [h]; simp
    exact ⟨by rw [okS_top htop], HS.out.bel⟩
   ·clear HF;rename_i HF
    have hok : t.fRoot.ok = true := by simpa using cc3
    have htop : topS t = true := by unfold topS; rw [hok, inT, beq_iff_eq.2 hdep]; rfl
    refine wc_false HF rfl ?_
    refine wp_skip ?_
    refine ex_then ?_
    refine wp_sr ?_
    refine zy HF (ylr (cs := [.slice a0 st.fRows.length c0, .slice a1 st.fSpace.fRefs.length c1, .slice a2 st.fSpace.fLast.length c2, .int .i64 st.fTxg, .slice a4 st.fGone.length c4, .int .i64 st.fKeep, .slice a6 st.fDead.length c6, .bool st.fSame]) rfl (HF.ev rfl) ((HS.out.box 1 rfl).sub 0 8)) ?_;clear HF a;intro a HF
    refine zy HF (ylr (cs := [.int .i64 t.fRoot.fAt, .int .i64 t.fRoot.fBirth, .int .i64 t.fRoot.fSize, .int .i64 t.fRoot.fSum, .int .i64 t.fRoot.fLevel, .int .i64 t.fDepth, .int .i64 t.fMany]) rfl (HF.ev rfl) ((HS.out.box 0 rfl).sub 0 7)) ?_;clear HF a;intro a HF
    refine wl_call rfl HF rfl (enter_of Tryz.func85 (by kernel_rfl) rfl) (args := #[.agg #[.slice a0 st.fRows.length c0, .slice a1 st.fSpace.fRefs.length c1, .slice a2 st.fSpace.fLast.length c2, .int .i64 st.fTxg, .slice a4 st.fGone.length c4, .int .i64 st.fKeep, .slice a6 st.fDead.length c6, .bool st.fSame], .agg #[.int .i64 t.fRoot.fAt, .int .i64 t.fRoot.fBirth, .int .i64 t.fRoot.fSize, .int .i64 t.fRoot.fSum, .int .i64 t.fRoot.fLevel, .int .i64 t.fDepth, .int .i64 t.fMany]]) rfl (l8Leaves_any a0 c0 a1 c1 a2 c2 a4 c4 a6 c6 st t hdep _ (HR.out.below HS.out.bel) hrow) rfl rfl ?_
    rintro _ w6 (⟨l3, hk3, ao3, cp3, rfl, hs1⟩ | ⟨hk3, ao3, nn3, cp3, rfl, hb⟩)
    ·skip
     refine ⟨_, rfl, ?_⟩; replace HS := Bx.mk (HS.out.add hs1);clear hs1 HF a;intro a HF
     try dsimp only [List.eraseIdx] at HS
     refine zm HF ?_;clear HF a;intro a HF
     refine zy HF (yl_extract rfl (HF.ev rfl) rfl) ?_;clear HF a;intro a HF
     refine zy HF (yl_extract rfl (HF.ev rfl) rfl) ?_;clear HF a;intro a HF
     refine za HF ?_;clear HF a;intro a HF
     refine za HF ?_;clear HF a;intro a HF
     refine wl_ne ?_
     refine wp_seq ?_
     refine wp_sr ?_
     refine zm HF ?_;clear HF a;intro a HF
     refine zy HF (yl_not rfl (HF.ev rfl)) ?_;clear HF a;intro a HF
     refine wl_ne ?_
     refine wc_false HF rfl ?_
     refine wp_skip ?_
     refine ex_then ?_
     refine wp_seq ?_
     refine wp_seq ?_
     have hoks := downS_ok (fun p hp => by rw [List.mem_singleton.1 hp]; exact hok) hk3; have hll : l3.length ≤ 16 := by rw [downL_len (fun p n k => kidsS_len) hk3]; simpa using pow4 (depthN_le t.fMany)
     refine wp_region_lit ?_
     refine za HF ?_;clear HF a;intro a HF
     refine wl_ne ?_
     refine wp_block ?_
     refine wc_loop (ι := Nat) (fun i a w => (i ≤ l3.length ∧ leavesS st t.fMany 0 l3 = leavesS st t.fMany i (l3.drop i)) ∧ Fr 75 a [(0, .agg #[.slice a0 st.fRows.length c0, .slice a1 st.fSpace.fRefs.length c1, .slice a2 st.fSpace.fLast.length c2, .int .i64 st.fTxg, .slice a4 st.fGone.length c4, .int .i64 st.fKeep, .slice a6 st.fDead.length c6, .bool st.fSame]), (1, .agg #[.int .i64 t.fRoot.fAt, .int .i64 t.fRoot.fBirth, .int .i64 t.fRoot.fSize, .int .i64 t.fRoot.fSum, .int .i64 t.fRoot.fLevel, .int .i64 t.fDepth, .int .i64 t.fMany]), (2, .pointer (some ⟨b1, 0, none⟩)), (3, .pointer (some ⟨b2, 0, none⟩)), (4, .bool false), (5, .slice ao3 l3.length cp3), (6, .bool true), (7, .int .i64 (i : Int))] ∧ St w0 ([rowA PtrD.cells 5 41 (.slice ao3 l3.length cp3) l3, boxA b2 7 43 (.agg #[.int .i64 t.fRoot.fAt, .int .i64 t.fRoot.fBirth, .int .i64 t.fRoot.fSize, .int .i64 t.fRoot.fSum, .int .i64 t.fRoot.fLevel, .int .i64 t.fDepth, .int .i64 t.fMany]), boxA b1 8 39 (.agg #[.slice a0 st.fRows.length c0, .slice a1 st.fSpace.fRefs.length c1, .slice a2 st.fSpace.fLast.length c2, .int .i64 st.fTxg, .slice a4 st.fGone.length c4, .int .i64 st.fKeep, .slice a6 st.fDead.length c6, .bool st.fSame])]) w) (fun i => l3.length - i) 0 ⟨⟨Nat.zero_le _, by rw [List.drop_zero]⟩, HF.less _ ⟨rfl, rfl, rfl, rfl, rfl, rfl, rfl, rfl, trivial⟩, HS.out⟩ ?_
     clear HF HS; clear a
     rintro i a w7 ⟨⟨hi, hlv⟩, HF, HS⟩
     replace HS := Bx.mk HS
     refine wp_seq ?_
     refine wp_sr ?_
     refine zm HF ?_;clear HF a;intro a HF
     refine zm HF ?_;clear HF a;intro a HF
     refine zy HF (yl_lenL (e := 41) (size := 5) rfl (HF.ev rfl) (by kernel_rfl)) ?_;clear HF a;intro a HF
     refine zy HF (yl_lssI rfl (HF.ev rfl) (HF.ev rfl)) ?_;clear HF a;intro a HF
     refine wl_ne ?_
     refine HF.cases 40 rfl (fun cc4 _ => ?_) fun cc4 _ => ?_
     ·clear HF;rename_i HF
      have dcc4 := of_decide_eq_true cc4
      refine wc_true HF rfl ?_
      refine wp_skip ?_
      refine ex_then ?_
      refine wp_seq ?_
      refine wp_block ?_
      refine wp_seq ?_
      obtain ⟨g4, rfl, _, _, _, _⟩ := HS.out.rowOpen 0 rfl (by omega)
      refine wp_region_lit ?_
      refine zm HF ?_;clear HF a;intro a HF
      refine zm HF ?_;clear HF a;intro a HF
      refine zy HF (yl_indexAddr (e := 41) (i := i) (size := 5) rfl (HF.ev rfl) (HF.ev rfl) (by kernel_rfl) rfl (by omega)) ?_;clear HF a;intro a HF
      refine zy HF (ylr (cs := [.int .i64 ((l3.getD i PtrD.zero).fAt), .int .i64 ((l3.getD i PtrD.zero).fBirth), .int .i64 ((l3.getD i PtrD.zero).fSize), .int .i64 ((l3.getD i PtrD.zero).fSum), .int .i64 ((l3.getD i PtrD.zero).fLevel)]) rfl (HF.ev rfl) (HS.out.elem PtrD.cells_len 0 rfl (get_getD (xs := l3) (j := i) (d := PtrD.zero) (by omega)))) ?_;clear HF a;intro a HF
      refine wl_alloc rfl HF rfl rfl rfl (Z := [.int .i64 0, .int .i64 0, .int .i64 0, .int .i64 0, .int .i64 0]) (by kernel_rfl) rfl HS.out ?_; clear HF HS a; intro a w8 b5 HF HS; replace HS := Bx.mk HS
      refine wl_storeBox rfl HF rfl rfl (HF.ev rfl) (HF.ev rfl) HS.out 0 rfl (cells_lit [.int .i64 ((l3.getD i PtrD.zero).fAt), .int .i64 ((l3.getD i PtrD.zero).fBirth), .int .i64 ((l3.getD i PtrD.zero).fSize), .int .i64 ((l3.getD i PtrD.zero).fSum), .int .i64 ((l3.getD i PtrD.zero).fLevel)] rfl rfl) (by kernel_rfl) ?_; clear HS; intro w9 HS; replace HS := Bx.mk HS
      have HS : Bx (St w0 ([boxA b5 5 41 (.agg #[.int .i64 ((l3.getD i PtrD.zero).fAt), .int .i64 ((l3.getD i PtrD.zero).fBirth), .int .i64 ((l3.getD i PtrD.zero).fSize), .int .i64 ((l3.getD i PtrD.zero).fSum), .int .i64 ((l3.getD i PtrD.zero).fLevel)]), rowA PtrD.cells 5 41 (.slice (some ⟨g4, 0, none⟩) l3.length cp3) l3, boxA b2 7 43 (.agg #[.int .i64 t.fRoot.fAt, .int .i64 t.fRoot.fBirth, .int .i64 t.fRoot.fSize, .int .i64 t.fRoot.fSum, .int .i64 t.fRoot.fLevel, .int .i64 t.fDepth, .int .i64 t.fMany]), boxA b1 8 39 (.agg #[.slice a0 st.fRows.length c0, .slice a1 st.fSpace.fRefs.length c1, .slice a2 st.fSpace.fLast.length c2, .int .i64 st.fTxg, .slice a4 st.fGone.length c4, .int .i64 st.fKeep, .slice a6 st.fDead.length c6, .bool st.fSame])]) _) := HS
      refine wl_ne ?_
      refine wp_seq ?_
      refine wp_sr ?_
      refine zy HF (ylr (cs := [.int .i64 ((l3.getD i PtrD.zero).fAt), .int .i64 ((l3.getD i PtrD.zero).fBirth), .int .i64 ((l3.getD i PtrD.zero).fSize), .int .i64 ((l3.getD i PtrD.zero).fSum), .int .i64 ((l3.getD i PtrD.zero).fLevel)]) rfl (HF.ev rfl) ((HS.out.box 0 rfl).sub 0 5)) ?_;clear HF a;intro a HF
      refine wl_callB rfl HF rfl (enter_of Tryz.func57 (by kernel_rfl) rfl) (args := #[.agg #[.int .i64 ((l3.getD i PtrD.zero).fAt), .int .i64 ((l3.getD i PtrD.zero).fBirth), .int .i64 ((l3.getD i PtrD.zero).fSize), .int .i64 ((l3.getD i PtrD.zero).fSum), .int .i64 ((l3.getD i PtrD.zero).fLevel)]]) rfl (v := .bool ((l3.getD i PtrD.zero).hole)) (specHole_any (l3.getD i PtrD.zero) _) rfl rfl HS.out ?_; clear HF HS a; intro w10 a HS HF; replace HS := Bx.mk HS
      refine wl_ne ?_
      refine HF.cases 48 rfl (fun cc5 _ => ?_) fun cc5 _ => ?_
      ·clear HF;rename_i HF
       refine wc_true HF rfl ?_
       refine wp_exit ?_
       refine ex_then_exit ?_
       refine ex_block_hit ?_
       refine ex_then ?_
       refine wp_region_lit ?_
       refine zm HF ?_;clear HF a;intro a HF
       refine zy HF (yl_addI rfl (HF.ev rfl) (HF.ev rfl) (i64w (by omega))) ?_;clear HF a;intro a HF
       refine za HF ?_;clear HF a;intro a HF
       refine wl_ne ?_
       have hst := leavesS_step hlv (show i < l3.length by omega)
       rw [leafS_hole cc5, Bool.true_and] at hst
       replace HS:=Bx.mk (((HS.out.pick 3 rfl).pick 3 rfl).pick 3 rfl)
       exact ⟨i + 1, ⟨⟨by omega, hst⟩, HF.less _ ⟨rfl, rfl, rfl, rfl, rfl, rfl, rfl, rfl, trivial⟩, (HS.out.erase 3)⟩, (by omega)⟩
      ·clear HF;rename_i HF
       refine wc_false HF rfl ?_
       refine wp_skip ?_
       refine ex_then ?_
       refine wp_sr ?_
       refine zy HF (ylr (cs := [.slice a0 st.fRows.length c0, .slice a1 st.fSpace.fRefs.length c1, .slice a2 st.fSpace.fLast.length c2, .int .i64 st.fTxg, .slice a4 st.fGone.length c4, .int .i64 st.fKeep, .slice a6 st.fDead.length c6, .bool st.fSame]) rfl (HF.ev rfl) ((HS.out.box 3 rfl).sub 0 8)) ?_;clear HF a;intro a HF
       refine zy HF (ylr (cs := [.int .i64 ((l3.getD i PtrD.zero).fAt), .int .i64 ((l3.getD i PtrD.zero).fBirth), .int .i64 ((l3.getD i PtrD.zero).fSize), .int .i64 ((l3.getD i PtrD.zero).fSum), .int .i64 ((l3.getD i PtrD.zero).fLevel)]) rfl (HF.ev rfl) ((HS.out.box 0 rfl).sub 0 5)) ?_;clear HF a;intro a HF
       refine wl_callB rfl HF rfl (enter_of Tryz.func77 (by kernel_rfl) rfl) (args := #[.agg #[.slice a0 st.fRows.length c0, .slice a1 st.fSpace.fRefs.length c1, .slice a2 st.fSpace.fLast.length c2, .int .i64 st.fTxg, .slice a4 st.fGone.length c4, .int .i64 st.fKeep, .slice a6 st.fDead.length c6, .bool st.fSame], .agg #[.int .i64 ((l3.getD i PtrD.zero).fAt), .int .i64 ((l3.getD i PtrD.zero).fBirth), .int .i64 ((l3.getD i PtrD.zero).fSize), .int .i64 ((l3.getD i PtrD.zero).fSum), .int .i64 ((l3.getD i PtrD.zero).fLevel)]]) rfl (v := .tuple #[.string (readT st (l3.getD i PtrD.zero)), .bool (readB st (l3.getD i PtrD.zero))]) ((l7Read_any a0 c0 a1 c1 a2 c2 a4 c4 a6 c6 st (l3.getD i PtrD.zero) _  (HR.out.below HS.out.bel) hrow (hoks _ (getD_mem (by omega))))) rfl rfl HS.out ?_; clear HF HS a; intro w11 a HS HF; replace HS := Bx.mk HS
       refine zm HF ?_;clear HF a;intro a HF
       refine zy HF (yl_extract rfl (HF.ev rfl) rfl) ?_;clear HF a;intro a HF
       refine zy HF (yl_extract rfl (HF.ev rfl) rfl) ?_;clear HF a;intro a HF
       refine za HF ?_;clear HF a;intro a HF
       refine za HF ?_;clear HF a;intro a HF
       refine wl_ne ?_
       refine wp_sr ?_
       refine zm HF ?_;clear HF a;intro a HF
       refine zy HF (yl_not rfl (HF.ev rfl)) ?_;clear HF a;intro a HF
       refine zm HF ?_;clear HF a;intro a HF
       refine HF.cases 57 rfl (fun cc6 _ => ?_) fun cc6 _ => ?_
       ·clear HF;rename_i HF
        refine zk HF ?_;clear HF a;intro a HF
        refine zk HF ?_;clear HF a;intro a HF
        refine zk HF ?_;clear HF a;intro a HF
        refine zy HF (yl_pick_t rfl (HF.ev rfl) (HF.ev rfl)) ?_;clear HF a;intro a HF
        refine zm HF ?_;clear HF a;intro a HF
        refine zk HF ?_;clear HF a;intro a HF
        refine zk HF ?_;clear HF a;intro a HF
        refine zk HF ?_;clear HF a;intro a HF
        refine zk HF ?_;clear HF a;intro a HF
        refine zk HF ?_;clear HF a;intro a HF
        refine zy HF (yl_pick_t rfl (HF.ev rfl) (HF.ev rfl)) ?_;clear HF a;intro a HF
        refine zm HF ?_;clear HF a;intro a HF
        refine zk HF ?_;clear HF a;intro a HF
        refine zk HF ?_;clear HF a;intro a HF
        refine zk HF ?_;clear HF a;intro a HF
        refine zk HF ?_;clear HF a;intro a HF
        refine zy HF (yl_pick_t rfl (HF.ev rfl) (HF.ev rfl)) ?_;clear HF a;intro a HF
        refine wl_ne ?_
        refine wc_true HF rfl ?_
        refine wp_sr ?_
        refine za HF ?_;clear HF a;intro a HF
        refine wl_ne ?_
        refine wp_ret ?_
        refine ex_block_ret ?_
        refine ex_then_ret ?_
        refine ex_then_ret ?_
        refine ex_block_ret ?_
        refine ex_then_ret ?_
        refine bp_ret1 HF Tryz.results56 (HF.res rfl) ?_
        have hst := leavesS_step hlv (show i < l3.length by omega); rw [leafS_is cc5] at hst
        have hb1 : readB st (l3.getD i PtrD.zero) = false := (by simpa using cc6); rw [hb1] at hst; simp only [Bool.false_and] at hst
        exact ⟨by rw [okS_is htop hk3, hst], HS.out.bel⟩
       ·clear HF;rename_i HF
        refine zg HF (yfa 4 rfl (HF.ev rfl)) ?_;clear HF a;intro a HF
        refine zg HF (ylo (v := .int .i64 ((l3.getD i PtrD.zero).fLevel)) rfl (HF.ev rfl) (((HS.out.box 0 rfl).cell 4).trans rfl)) ?_;clear HF a;intro a HF
        refine zg HF (yl_neqI rfl (HF.ev rfl) (HF.ev rfl)) ?_;clear HF a;intro a HF
        refine zy HF (yl_pick_f rfl (HF.ev rfl) (HF.ev rfl)) ?_;clear HF a;intro a HF
        refine zm HF ?_;clear HF a;intro a HF
        refine HF.cases 62 rfl (fun cc7 _ => ?_) fun cc7 _ => ?_
        ·clear HF;rename_i HF
         have dcc7 := bne_iff_ne.1 cc7
         refine zk HF ?_;clear HF a;intro a HF
         refine zk HF ?_;clear HF a;intro a HF
         refine zk HF ?_;clear HF a;intro a HF
         refine zk HF ?_;clear HF a;intro a HF
         refine zk HF ?_;clear HF a;intro a HF
         refine zy HF (yl_pick_t rfl (HF.ev rfl) (HF.ev rfl)) ?_;clear HF a;intro a HF
         refine zm HF ?_;clear HF a;intro a HF
         refine zk HF ?_;clear HF a;intro a HF
         refine zk HF ?_;clear HF a;intro a HF
         refine zk HF ?_;clear HF a;intro a HF
         refine zk HF ?_;clear HF a;intro a HF
         refine zy HF (yl_pick_t rfl (HF.ev rfl) (HF.ev rfl)) ?_;clear HF a;intro a HF
         refine wl_ne ?_
         refine wc_true HF rfl ?_
         refine wp_sr ?_
         refine za HF ?_;clear HF a;intro a HF
         refine wl_ne ?_
         refine wp_ret ?_
         refine ex_block_ret ?_
         refine ex_then_ret ?_
         refine ex_then_ret ?_
         refine ex_block_ret ?_
         refine ex_then_ret ?_
         refine bp_ret1 HF Tryz.results56 (HF.res rfl) ?_
         have hst := leavesS_step hlv (show i < l3.length by omega); rw [leafS_is cc5] at hst
         have hb1 : ((l3.getD i PtrD.zero).fLevel == 0) = false := (by simpa using dcc7); rw [hb1] at hst; simp only [Bool.false_and, Bool.and_false] at hst
         exact ⟨by rw [okS_is htop hk3, hst], HS.out.bel⟩
        ·clear HF;rename_i HF
         have dcc7 := bne_eq_false_iff_eq.1 cc7
         refine zg HF (yfa 1 rfl (HF.ev rfl)) ?_;clear HF a;intro a HF
         refine zg HF (ylo (v := .int .i64 ((l3.getD i PtrD.zero).fBirth)) rfl (HF.ev rfl) (((HS.out.box 0 rfl).cell 1).trans rfl)) ?_;clear HF a;intro a HF
         refine zg HF (yfa 3 rfl (HF.ev rfl)) ?_;clear HF a;intro a HF
         refine zg HF (ylo (v := .int .i64 st.fTxg) rfl (HF.ev rfl) (((HS.out.box 3 rfl).cell 3).trans rfl)) ?_;clear HF a;intro a HF
         refine zg HF (yl_gtrI rfl (HF.ev rfl) (HF.ev rfl)) ?_;clear HF a;intro a HF
         refine zy HF (yl_pick_f rfl (HF.ev rfl) (HF.ev rfl)) ?_;clear HF a;intro a HF
         refine zm HF ?_;clear HF a;intro a HF
         refine HF.cases 69 rfl (fun cc8 _ => ?_) fun cc8 _ => ?_
         ·clear HF;rename_i HF
          have dcc8 := of_decide_eq_true cc8
          refine zk HF ?_;clear HF a;intro a HF
          refine zk HF ?_;clear HF a;intro a HF
          refine zk HF ?_;clear HF a;intro a HF
          refine zk HF ?_;clear HF a;intro a HF
          refine zy HF (yl_pick_t rfl (HF.ev rfl) (HF.ev rfl)) ?_;clear HF a;intro a HF
          refine wl_ne ?_
          refine wc_true HF rfl ?_
          refine wp_sr ?_
          refine za HF ?_;clear HF a;intro a HF
          refine wl_ne ?_
          refine wp_ret ?_
          refine ex_block_ret ?_
          refine ex_then_ret ?_
          refine ex_then_ret ?_
          refine ex_block_ret ?_
          refine ex_then_ret ?_
          refine bp_ret1 HF Tryz.results56 (HF.res rfl) ?_
          have hst := leavesS_step hlv (show i < l3.length by omega); rw [leafS_is cc5] at hst
          rw [decide_eq_false (show ¬ (l3.getD i PtrD.zero).fBirth ≤ st.fTxg by omega)] at hst; simp only [Bool.false_and, Bool.and_false] at hst
          exact ⟨by rw [okS_is htop hk3, hst], HS.out.bel⟩
         ·clear HF;rename_i HF
          have dcc8 := of_decide_eq_false cc8
          refine zg HF (yl_move rfl (HF.ev rfl)) ?_;clear HF a;intro a HF
          refine zg HF (yfa 6 rfl (HF.ev rfl)) ?_;clear HF a;intro a HF
          refine zg HF (ylo (v := .int .i64 t.fMany) rfl (HF.ev rfl) (((HS.out.box 2 rfl).cell 6).trans rfl)) ?_;clear HF a;intro a HF
          refine zg HF (yl_geqI rfl (HF.ev rfl) (HF.ev rfl)) ?_;clear HF a;intro a HF
          refine zy HF (yl_pick_f rfl (HF.ev rfl) (HF.ev rfl)) ?_;clear HF a;intro a HF
          refine wl_ne ?_
          refine HF.cases 74 rfl (fun cc9 _ => ?_) fun cc9 _ => ?_
          ·clear HF;rename_i HF
           have dcc9 := of_decide_eq_true cc9
           refine wc_true HF rfl ?_
           refine wp_sr ?_
           refine za HF ?_;clear HF a;intro a HF
           refine wl_ne ?_
           refine wp_ret ?_
           refine ex_block_ret ?_
           refine ex_then_ret ?_
           refine ex_then_ret ?_
           refine ex_block_ret ?_
           refine ex_then_ret ?_
           refine bp_ret1 HF Tryz.results56 (HF.res rfl) ?_
           have hst := leavesS_step hlv (show i < l3.length by omega); rw [leafS_is cc5] at hst
           rw [decide_eq_false (show ¬ (i : Int) < t.fMany by omega)] at hst; simp only [Bool.false_and, Bool.and_false] at hst
           exact ⟨by rw [okS_is htop hk3, hst], HS.out.bel⟩
          ·clear HF;rename_i HF
           have dcc9 := of_decide_eq_false cc9
           refine wc_false HF rfl ?_
           refine wp_skip ?_
           refine ex_block ?_
           refine ex_then ?_
           refine wp_region_lit ?_
           refine zm HF ?_;clear HF a;intro a HF
           refine zy HF (yl_addI rfl (HF.ev rfl) (HF.ev rfl) (i64w (by omega))) ?_;clear HF a;intro a HF
           refine za HF ?_;clear HF a;intro a HF
           refine wl_ne ?_
           have hst := leavesS_step hlv (show i < l3.length by omega)
           have hrb : readB st (l3.getD i PtrD.zero) = true := (by simpa using cc6); have hlv0 : ((l3.getD i PtrD.zero).fLevel == 0) = true := (by simpa using cc7)
           rw [leafS_is cc5, hrb, hlv0, decide_eq_true (show (l3.getD i PtrD.zero).fBirth ≤ st.fTxg by omega), decide_eq_true (show (i : Int) < t.fMany by omega)] at hst; simp only [Bool.and_self, Bool.true_and] at hst
           replace HS:=Bx.mk (((HS.out.pick 3 rfl).pick 3 rfl).pick 3 rfl)
           exact ⟨i + 1, ⟨⟨by omega, hst⟩, HF.less _ ⟨rfl, rfl, rfl, rfl, rfl, rfl, rfl, rfl, trivial⟩, (HS.out.erase 3)⟩, (by omega)⟩
     ·clear HF;rename_i HF
      have dcc4 := of_decide_eq_false cc4
      refine wc_false HF rfl ?_
      refine wp_exit ?_
      refine ex_then_exit ?_
      refine ex_then_exit ?_
      refine ex_block_hit ?_
      refine ex_then ?_
      refine wp_sr ?_
      refine za HF ?_;clear HF a;intro a HF
      refine wl_ne ?_
      refine wp_ret ?_
      refine bp_ret1 HF Tryz.results56 (HF.res rfl) ?_
      exact ⟨by rw [okS_is htop hk3, leavesS_end hlv (by omega)], HS.out.bel⟩
    ·skip
     refine ⟨_, rfl, ?_⟩; replace HS := Bx.mk (HS.out.later hb);clear hb HF a;intro a HF
     refine zm HF ?_;clear HF a;intro a HF
     refine zy HF (yl_extract rfl (HF.ev rfl) rfl) ?_;clear HF a;intro a HF
     refine zy HF (yl_extract rfl (HF.ev rfl) rfl) ?_;clear HF a;intro a HF
     refine za HF ?_;clear HF a;intro a HF
     refine za HF ?_;clear HF a;intro a HF
     refine wl_ne ?_
     refine wp_seq ?_
     refine wp_sr ?_
     refine zm HF ?_;clear HF a;intro a HF
     refine zy HF (yl_not rfl (HF.ev rfl)) ?_;clear HF a;intro a HF
     refine wl_ne ?_
     refine wc_true HF rfl ?_
     refine wp_sr ?_
     refine za HF ?_;clear HF a;intro a HF
     refine wl_ne ?_
     refine wp_ret ?_
     refine ex_then_ret ?_
     refine bp_ret1 HF Tryz.results56 (HF.res rfl) ?_
     exact ⟨by rw [okS_down hk3], HS.out.bel⟩

end Go.Proofs.YtebpodlkndnepaaGreatDoor

/- Trees asked whether they are valid: walked. -/
namespace Go.Proofs.YtebpodlkndnepaaGreatDoor
set_option linter.unusedVariables false
set_option linter.unusedSimpArgs false
set_option maxHeartbeats 1000000
set_option maxRecDepth 100000
open Go.RowKit

theorem leafB_read {st : StoreD} {many : Int} {i : Nat} {p : PtrD} (h : readB st p = false) : leafB st many i p = false := by
  unfold leafB
  cases hh : p.hole with
  | true => rw [readB_hole hh] at h; cases h
  | false => rw [h]; rfl
theorem leafB_level {st : StoreD} {many : Int} {i : Nat} {p : PtrD} (h : (p.fLevel == 0) = false) : leafB st many i p = false := by
  unfold leafB
  cases hh : p.hole with
  | true => rw [h]; rfl
  | false => rw [h]; simp
theorem leafB_out {st : StoreD} {many : Int} {i : Nat} {p : PtrD} (hh : p.hole = false) (h : ¬ (i : Int) < many) : leafB st many i p = false := by
  unfold leafB
  rw [hh, decide_eq_false h]; simp
theorem leafB_yes {st : StoreD} {many : Int} {i : Nat} {p : PtrD} (h1 : readB st p = true) (h2 : (p.fLevel == 0) = true) (h3 : p.hole = true ∨ (i : Int) < many) : leafB st many i p = true := by
  unfold leafB
  cases hh : p.hole with
  | true => exact h2
  | false =>
    rcases h3 with h3 | h3
    · rw [hh] at h3; cases h3
    · rw [h1, h2, decide_eq_true h3]; rfl
theorem reads_rows {w : World} {a0 : Option Addr} {c0 : Nat} {a1 : Option Addr} {c1 : Nat} {a2 : Option Addr} {c2 : Nat} {a4 : Option Addr} {c4 : Nat} {a6 : Option Addr} {c6 : Nat} {st : StoreD} (h : StoreD.Reads w (.agg #[.slice a0 st.fRows.length c0, .slice a1 st.fSpace.fRefs.length c1, .slice a2 st.fSpace.fLast.length c2, .int .i64 st.fTxg, .slice a4 st.fGone.length c4, .int .i64 st.fKeep, .slice a6 st.fDead.length c6, .bool st.fSame]) st) : Rd encS 1 w a0 st.fRows.length st.fRows := by
  obtain ⟨b0, d0, b1, d1, b2, d2, b4, d4, b6, d6, e, r, _⟩ := h
  simp only [Value.agg.injEq, Array.mk.injEq, List.cons.injEq, Value.slice.injEq] at e
  rw [e.1.1]; exact r
theorem ok_rows {st : StoreD} (h : st.ok = true) : RowsOk st := by
  have ho := StoreD.ok_spec h
  refine ⟨ho.rows, fun i => ?_⟩
  by_cases hi : i < 64
  · have := rowsSt_le ho.each hi
    unfold rowSt at this
    rw [Bool.and_eq_true] at this
    have := of_decide_eq_true this.1
    omega
  · rw [List.getD_eq_getElem?_getD, List.getElem?_eq_none (by rw [ho.rows]; omega)]
    exact Nat.zero_le _
theorem clonePtr_row (ao : Option Addr) (cap : Nat) (xs : List PtrD) (w : World) (hlen : xs.length ≤ 1048576) (hr : Rd PtrD.cells 5 w ao xs.length xs) :
    Calls Tryz.prog 72 #[.slice ao xs.length cap] w fun e w' => ∃ ao' cap', e = .returned (.slice ao' xs.length cap') ∧ St w [rowA PtrD.cells 5 41 (.slice ao' xs.length cap') xs] w' := by
  refine (cloneP_any ao cap xs w hlen hr).mono ?_
  rintro e w' ⟨⟨ao', cap', rfl, ho⟩, hb⟩
  exact ⟨_, _, rfl, St.ofRow ho hb⟩

theorem leaves_any (a0 : Option Addr) (c0 : Nat) (a1 : Option Addr) (c1 : Nat) (a2 : Option Addr) (c2 : Nat) (a4 : Option Addr) (c4 : Nat) (a6 : Option Addr) (c6 : Nat) (st : StoreD) (t : TreeD) (b : Nat) (w0 : World) (hT : TabP w0) (hM : MaxP w0) (hE : ErrP w0) (hB : Box w0 b 8 39 (.agg #[.slice a0 st.fRows.length c0, .slice a1 st.fSpace.fRefs.length c1, .slice a2 st.fSpace.fLast.length c2, .int .i64 st.fTxg, .slice a4 st.fGone.length c4, .int .i64 st.fKeep, .slice a6 st.fDead.length c6, .bool st.fSame])) (hR : Rd encS 1 w0 a0 st.fRows.length st.fRows) (hrow : RowsOk st) : Calls Tryz.prog 73 #[.pointer (some ⟨b, 0, none⟩), .agg #[.int .i64 t.fRoot.fAt, .int .i64 t.fRoot.fBirth, .int .i64 t.fRoot.fSize, .int .i64 t.fRoot.fSum, .int .i64 t.fRoot.fLevel, .int .i64 t.fDepth, .int .i64 t.fMany]] w0 fun e w' => (∃ l, leavesF st t = some l ∧ ∃ ao, e = .returned (.tuple #[.slice ao l.length l.length, .bool true]) ∧ St w0 [holdsA (fun w => Rd PtrD.cells 5 w ao l.length l)] w') ∨ (leavesF st t = none ∧ e = .returned (.tuple #[.slice none 0 0, .bool false]) ∧ Below w0.heap.size w0 w') := by
 have HT := Bx.mk hT; have HM := Bx.mk hM; have HE := Bx.mk hE; have HB := Bx.mk hB; have HR := Bx.mk hR; clear hT hM hE hR
 have HS := Bx.mk (St.start w0)
 refine wc_enter Tryz.func73 rfl Tryz.ntmps73 [(0, .pointer (some ⟨b, 0, none⟩)), (1, .agg #[.int .i64 t.fRoot.fAt, .int .i64 t.fRoot.fBirth, .int .i64 t.fRoot.fSize, .int .i64 t.fRoot.fSum, .int .i64 t.fRoot.fLevel, .int .i64 t.fDepth, .int .i64 t.fMany])] ⟨rfl, rfl, trivial⟩ rfl ?_; intro a HF
 refine wp_sr ?_
 refine wl_box rfl HF rfl (HF.ev rfl) (Z := [.int .i64 t.fRoot.fAt, .int .i64 t.fRoot.fBirth, .int .i64 t.fRoot.fSize, .int .i64 t.fRoot.fSum, .int .i64 t.fRoot.fLevel, .int .i64 t.fDepth, .int .i64 t.fMany]) rfl rfl rfl rfl HS.out ?_; clear HF HS a; intro a w1 b1 HF HS; replace HS := Bx.mk HS
 refine za HF ?_;clear HF a;intro a HF
 refine za HF ?_;clear HF a;intro a HF
 refine wl_ne ?_
 refine wp_seq ?_
 refine wp_seq ?_
 refine wr_quiet (by kernel_rfl) (by kernel_rfl) HS.out ?_
 refine zq HF (fun _ HS => (yfa 6 rfl (HF.ev rfl))) ?_;clear HF a;intro a HF
 refine zq HF (fun _ HS => (ylo (v := .int .i64 t.fMany) rfl (HF.ev rfl) (((HS.box 0 rfl).cell 6).trans rfl))) ?_;clear HF a;intro a HF
 refine wq_call rfl HF rfl (enter_of Tryz.func44 (by kernel_rfl) rfl) (args := #[.int .i64 t.fMany, .int .i64 0, .int .i64 16]) rfl (v := .bool (inB t.fMany 0 16)) (fun _ HS => ((within_any t.fMany 0 16 _).mono fun _ _ h => ⟨h.1, h.2 ▸ Below.refl _ _⟩)) rfl rfl ?_;clear HF a;intro a HF
 refine zq HF (fun _ HS => (yl_not rfl (HF.ev rfl))) ?_;clear HF a;intro a HF
 refine zq HF (fun _ HS => (yl_move rfl (HF.ev rfl))) ?_;clear HF a;intro a HF
 refine HF.cases 21 rfl (fun cc1 _ => ?_) fun cc1 _ => ?_
 ·clear HF;rename_i HF
  refine wq_skip HF rfl rfl rfl rfl rfl rfl ?_;clear HF a;intro a HF
  refine wq_skip HF rfl rfl rfl rfl rfl rfl ?_;clear HF a;intro a HF
  refine wq_skip HF rfl rfl rfl rfl rfl rfl ?_;clear HF a;intro a HF
  refine wq_skip HF rfl rfl rfl rfl rfl rfl ?_;clear HF a;intro a HF
  refine wq_skip HF rfl rfl rfl rfl rfl rfl ?_;clear HF a;intro a HF
  refine wq_skip HF rfl rfl rfl rfl rfl rfl ?_;clear HF a;intro a HF
  refine zq HF (fun _ HS => (yl_pick_t rfl (HF.ev rfl) (HF.ev rfl))) ?_;clear HF a;intro a HF
  refine zq HF (fun _ HS => (yl_move rfl (HF.ev rfl))) ?_;clear HF a;intro a HF
  refine wq_skip HF rfl rfl rfl rfl rfl rfl ?_;clear HF a;intro a HF
  refine wq_skip HF rfl rfl rfl rfl rfl rfl ?_;clear HF a;intro a HF
  refine wq_skip HF rfl rfl rfl rfl rfl rfl ?_;clear HF a;intro a HF
  refine wq_skip HF rfl rfl rfl rfl rfl rfl ?_;clear HF a;intro a HF
  refine zq HF (fun _ HS => (yl_pick_t rfl (HF.ev rfl) (HF.ev rfl))) ?_;clear HF a;intro a HF
  refine zq HF (fun _ HS => (yl_move rfl (HF.ev rfl))) ?_;clear HF a;intro a HF
  refine wq_skip HF rfl rfl rfl rfl rfl rfl ?_;clear HF a;intro a HF
  refine wq_skip HF rfl rfl rfl rfl rfl rfl ?_;clear HF a;intro a HF
  refine wq_skip HF rfl rfl rfl rfl rfl rfl ?_;clear HF a;intro a HF
  refine wq_skip HF rfl rfl rfl rfl rfl rfl ?_;clear HF a;intro a HF
  refine wq_skip HF rfl rfl rfl rfl rfl rfl ?_;clear HF a;intro a HF
  refine wq_skip HF rfl rfl rfl rfl rfl rfl ?_;clear HF a;intro a HF
  refine wq_skip HF rfl rfl rfl rfl rfl rfl ?_;clear HF a;intro a HF
  refine wq_skip HF rfl rfl rfl rfl rfl rfl ?_;clear HF a;intro a HF
  refine zq HF (fun _ HS => (yl_pick_t rfl (HF.ev rfl) (HF.ev rfl))) ?_;clear HF a;intro a HF
  refine wpQuiet_nil ?_; intro w2 HS; replace HS := Bx.mk HS
  refine ex_then ?_
  refine wc_true HF rfl ?_
  refine wp_sr ?_
  refine za HF ?_;clear HF a;intro a HF
  refine za HF ?_;clear HF a;intro a HF
  refine wl_ne ?_
  refine wp_ret ?_
  refine ex_then_ret ?_
  refine bp_ret2 HF Tryz.results73 (HF.res rfl) (HF.res rfl) ?_
  have htop : topB st t = false := by
   have h : inB t.fMany 0 16 = false := (by simpa using cc1); unfold topB; rw [h]; rfl
  exact .inr ⟨leavesF_top htop, rfl, HS.out.bel⟩
 ·clear HF;rename_i HF
  have inT : inB t.fMany 0 16 = true := by simpa using cc1
  refine zqg HF (fun _ HS => (yfa 5 rfl (HF.ev rfl))) ?_;clear HF a;intro a HF
  refine zqg HF (fun _ HS => (ylo (v := .int .i64 t.fDepth) rfl (HF.ev rfl) (((HS.box 0 rfl).cell 5).trans rfl))) ?_;clear HF a;intro a HF
  refine zqg HF (fun _ HS => (yfa 6 rfl (HF.ev rfl))) ?_;clear HF a;intro a HF
  refine zqg HF (fun _ HS => (ylo (v := .int .i64 t.fMany) rfl (HF.ev rfl) (((HS.box 0 rfl).cell 6).trans rfl))) ?_;clear HF a;intro a HF
  refine wq_callg HF rfl rfl rfl rfl (enter_of Tryz.func96 (by kernel_rfl) rfl) (args := #[.int .i64 t.fMany]) rfl (v := .int .i64 ((depthN t.fMany : Nat) : Int)) (fun _ HS => depthOf_any t.fMany _) rfl rfl ?_;clear HF a;intro a HF
  refine zqg HF (fun _ HS => (yl_neqI rfl (HF.ev rfl) (HF.ev rfl))) ?_;clear HF a;intro a HF
  refine zq HF (fun _ HS => (yl_pick_f rfl (HF.ev rfl) (HF.ev rfl))) ?_;clear HF a;intro a HF
  refine zq HF (fun _ HS => (yl_move rfl (HF.ev rfl))) ?_;clear HF a;intro a HF
  refine HF.cases 29 rfl (fun cc2 _ => ?_) fun cc2 _ => ?_
  ·clear HF;rename_i HF
   have dcc2 := bne_iff_ne.1 cc2
   refine wq_skip HF rfl rfl rfl rfl rfl rfl ?_;clear HF a;intro a HF
   refine wq_skip HF rfl rfl rfl rfl rfl rfl ?_;clear HF a;intro a HF
   refine wq_skip HF rfl rfl rfl rfl rfl rfl ?_;clear HF a;intro a HF
   refine wq_skip HF rfl rfl rfl rfl rfl rfl ?_;clear HF a;intro a HF
   refine zq HF (fun _ HS => (yl_pick_t rfl (HF.ev rfl) (HF.ev rfl))) ?_;clear HF a;intro a HF
   refine zq HF (fun _ HS => (yl_move rfl (HF.ev rfl))) ?_;clear HF a;intro a HF
   refine wq_skip HF rfl rfl rfl rfl rfl rfl ?_;clear HF a;intro a HF
   refine wq_skip HF rfl rfl rfl rfl rfl rfl ?_;clear HF a;intro a HF
   refine wq_skip HF rfl rfl rfl rfl rfl rfl ?_;clear HF a;intro a HF
   refine wq_skip HF rfl rfl rfl rfl rfl rfl ?_;clear HF a;intro a HF
   refine wq_skip HF rfl rfl rfl rfl rfl rfl ?_;clear HF a;intro a HF
   refine wq_skip HF rfl rfl rfl rfl rfl rfl ?_;clear HF a;intro a HF
   refine wq_skip HF rfl rfl rfl rfl rfl rfl ?_;clear HF a;intro a HF
   refine wq_skip HF rfl rfl rfl rfl rfl rfl ?_;clear HF a;intro a HF
   refine zq HF (fun _ HS => (yl_pick_t rfl (HF.ev rfl) (HF.ev rfl))) ?_;clear HF a;intro a HF
   refine wpQuiet_nil ?_; intro w3 HS; replace HS := Bx.mk HS
   refine ex_then ?_
   refine wc_true HF rfl ?_
   refine wp_sr ?_
   refine za HF ?_;clear HF a;intro a HF
   refine za HF ?_;clear HF a;intro a HF
   refine wl_ne ?_
   refine wp_ret ?_
   refine ex_then_ret ?_
   refine bp_ret2 HF Tryz.results73 (HF.res rfl) (HF.res rfl) ?_
   have htop : topB st t = false := by
    have h : (t.fDepth == ((depthN t.fMany : Nat) : Int)) = false := (by simpa using dcc2); unfold topB; rw [h]; simp
   exact .inr ⟨leavesF_top htop, rfl, HS.out.bel⟩
  ·clear HF;rename_i HF
   have dcc2 := bne_eq_false_iff_eq.1 cc2
   have hdep : t.fDepth = ((depthN t.fMany : Nat) : Int) := dcc2
   refine zqg HF (fun _ HS => (yfa 0 rfl (HF.ev rfl))) ?_;clear HF a;intro a HF
   refine zqg HF (fun _ HS => (ylr (cs := [.int .i64 t.fRoot.fAt, .int .i64 t.fRoot.fBirth, .int .i64 t.fRoot.fSize, .int .i64 t.fRoot.fSum, .int .i64 t.fRoot.fLevel]) rfl (HF.ev rfl) ((HS.box 0 rfl).sub 0 5))) ?_;clear HF a;intro a HF
   refine wq_callg HF rfl rfl rfl rfl (enter_of Tryz.func97 (by kernel_rfl) rfl) (args := #[.agg #[.int .i64 t.fRoot.fAt, .int .i64 t.fRoot.fBirth, .int .i64 t.fRoot.fSize, .int .i64 t.fRoot.fSum, .int .i64 t.fRoot.fLevel]]) rfl (v := .bool t.fRoot.ok) (fun _ HS => implPtrOk_any t.fRoot _) rfl rfl ?_;clear HF a;intro a HF
   refine zqg HF (fun _ HS => (yl_not rfl (HF.ev rfl))) ?_;clear HF a;intro a HF
   refine zq HF (fun _ HS => (yl_pick_f rfl (HF.ev rfl) (HF.ev rfl))) ?_;clear HF a;intro a HF
   refine zq HF (fun _ HS => (yl_move rfl (HF.ev rfl))) ?_;clear HF a;intro a HF
   refine HF.cases 35 rfl (fun cc3 _ => ?_) fun cc3 _ => ?_
   ·clear HF;rename_i HF
    refine wq_skip HF rfl rfl rfl rfl rfl rfl ?_;clear HF a;intro a HF
    refine wq_skip HF rfl rfl rfl rfl rfl rfl ?_;clear HF a;intro a HF
    refine wq_skip HF rfl rfl rfl rfl rfl rfl ?_;clear HF a;intro a HF
    refine wq_skip HF rfl rfl rfl rfl rfl rfl ?_;clear HF a;intro a HF
    refine wq_skip HF rfl rfl rfl rfl rfl rfl ?_;clear HF a;intro a HF
    refine wq_skip HF rfl rfl rfl rfl rfl rfl ?_;clear HF a;intro a HF
    refine wq_skip HF rfl rfl rfl rfl rfl rfl ?_;clear HF a;intro a HF
    refine wq_skip HF rfl rfl rfl rfl rfl rfl ?_;clear HF a;intro a HF
    refine zq HF (fun _ HS => (yl_pick_t rfl (HF.ev rfl) (HF.ev rfl))) ?_;clear HF a;intro a HF
    refine wpQuiet_nil ?_; intro w4 HS; replace HS := Bx.mk HS
    refine ex_then ?_
    refine wc_true HF rfl ?_
    refine wp_sr ?_
    refine za HF ?_;clear HF a;intro a HF
    refine za HF ?_;clear HF a;intro a HF
    refine wl_ne ?_
    refine wp_ret ?_
    refine ex_then_ret ?_
    refine bp_ret2 HF Tryz.results73 (HF.res rfl) (HF.res rfl) ?_
    have htop : topB st t = false := by
     have h : t.fRoot.ok = false := (by simpa using cc3); unfold topB; rw [h]; simp
    exact .inr ⟨leavesF_top htop, rfl, HS.out.bel⟩
   ·clear HF;rename_i HF
    have hok : t.fRoot.ok = true := by simpa using cc3
    refine zqg HF (fun _ HS => (yfa 0 rfl (HF.ev rfl))) ?_;clear HF a;intro a HF
    refine zqg HF (fun _ HS => (yfa 1 rfl (HF.ev rfl))) ?_;clear HF a;intro a HF
    refine zqg HF (fun _ HS => (ylo (v := .int .i64 t.fRoot.fBirth) rfl (HF.ev rfl) (((HS.box 0 rfl).cell 1).trans rfl))) ?_;clear HF a;intro a HF
    refine zqg HF (fun _ HS => (yl_move rfl (HF.ev rfl))) ?_;clear HF a;intro a HF
    refine zqg HF (fun _ HS => (yl_nilCheck rfl (HF.ev rfl))) ?_;clear HF a;intro a HF
    refine zqg HF (fun _ HS => (yfa 3 rfl (HF.ev rfl))) ?_;clear HF a;intro a HF
    refine zqg HF (fun _ HS => (ylo (v := .int .i64 st.fTxg) rfl (HF.ev rfl) (((HB.out.below HS.bel (Nat.le_refl _)).cell 3).trans rfl))) ?_;clear HF a;intro a HF
    refine zqg HF (fun _ HS => (yl_gtrI rfl (HF.ev rfl) (HF.ev rfl))) ?_;clear HF a;intro a HF
    refine zq HF (fun _ HS => (yl_pick_f rfl (HF.ev rfl) (HF.ev rfl))) ?_;clear HF a;intro a HF
    refine wpQuiet_nil ?_; intro w5 HS; replace HS := Bx.mk HS
    refine ex_then ?_
    refine HF.cases 44 rfl (fun cc4 _ => ?_) fun cc4 _ => ?_
    ·clear HF;rename_i HF
     have dcc4 := of_decide_eq_true cc4
     refine wc_true HF rfl ?_
     refine wp_sr ?_
     refine za HF ?_;clear HF a;intro a HF
     refine za HF ?_;clear HF a;intro a HF
     refine wl_ne ?_
     refine wp_ret ?_
     refine ex_then_ret ?_
     refine bp_ret2 HF Tryz.results73 (HF.res rfl) (HF.res rfl) ?_
     have htop : topB st t = false := by
      unfold topB; rw [decide_eq_false (show ¬ t.fRoot.fBirth ≤ st.fTxg by omega)]; simp
     exact .inr ⟨leavesF_top htop, rfl, HS.out.bel⟩
    ·clear HF;rename_i HF
     have dcc4 := of_decide_eq_false cc4
     have htop : topB st t = true := (by unfold topB; rw [hok, inT, beq_iff_eq.2 hdep, decide_eq_true (show t.fRoot.fBirth ≤ st.fTxg by omega)]; rfl); have hin := inB_true inT
     refine wc_false HF rfl ?_
     refine wp_skip ?_
     refine ex_then ?_
     refine wp_sr ?_
     refine zy HF (yfa 0 rfl (HF.ev rfl)) ?_;clear HF a;intro a HF
     refine zy HF (ylr (cs := [.int .i64 t.fRoot.fAt, .int .i64 t.fRoot.fBirth, .int .i64 t.fRoot.fSize, .int .i64 t.fRoot.fSum, .int .i64 t.fRoot.fLevel]) rfl (HF.ev rfl) ((HS.out.box 0 rfl).sub 0 5)) ?_;clear HF a;intro a HF
     refine wl_buildS (enc := PtrD.cells) (e := 41) (size := 5) rfl HF rfl rfl rfl (ps := [(0, .agg #[.int .i64 t.fRoot.fAt, .int .i64 t.fRoot.fBirth, .int .i64 t.fRoot.fSize, .int .i64 t.fRoot.fSum, .int .i64 t.fRoot.fLevel])]) rfl (cells := [.int .i64 t.fRoot.fAt, .int .i64 t.fRoot.fBirth, .int .i64 t.fRoot.fSize, .int .i64 t.fRoot.fSum, .int .i64 t.fRoot.fLevel]) (by kernel_rfl) [t.fRoot] rfl rfl (by unfold maxLen; omega) rfl HS.out ?_; clear HF HS a; intro b2 a w6 HF HS; replace HS := Bx.mk HS
     refine za HF ?_;clear HF a;intro a HF
     refine wl_ne ?_
     refine wp_seq ?_
     refine wp_sr ?_
     refine zy HF (yfa 5 rfl (HF.ev rfl)) ?_;clear HF a;intro a HF
     refine zy HF (ylo (v := .int .i64 t.fDepth) rfl (HF.ev rfl) (((HS.out.box 1 rfl).cell 5).trans rfl)) ?_;clear HF a;intro a HF
     refine za HF ?_;clear HF a;intro a HF
     refine wl_ne ?_
     refine wp_block ?_
     replace HS:=Bx.mk (HS.out.pick 0 rfl)
     refine wc_loop (ι := Nat) (fun n a w => ∃ (ao : Option Addr) (cp : Nat) (xs : List PtrD), (downL (kids st) (depthN t.fMany) [t.fRoot] = downL (kids st) n xs ∧ xs.length * 4 ^ n ≤ 16 ∧ (∀ p ∈ xs, p.ok = true) ∧ n ≤ 2) ∧ Fr 112 a [(0, .pointer (some ⟨b, 0, none⟩)), (1, .agg #[.int .i64 t.fRoot.fAt, .int .i64 t.fRoot.fBirth, .int .i64 t.fRoot.fSize, .int .i64 t.fRoot.fSum, .int .i64 t.fRoot.fLevel, .int .i64 t.fDepth, .int .i64 t.fMany]), (3, .pointer (some ⟨b1, 0, none⟩)), (4, .slice none 0 0), (5, .bool false), (6, .slice ao xs.length cp), (7, .int .i64 (n : Int))] ∧ St w0 ([rowA PtrD.cells 5 41 (.slice ao xs.length cp) xs, boxA b1 7 43 (.agg #[.int .i64 t.fRoot.fAt, .int .i64 t.fRoot.fBirth, .int .i64 t.fRoot.fSize, .int .i64 t.fRoot.fSum, .int .i64 t.fRoot.fLevel, .int .i64 t.fDepth, .int .i64 t.fMany])]) w) (fun n => n) (depthN t.fMany) ⟨_, _, [t.fRoot], ⟨rfl, by simpa using pow4 (depthN_le t.fMany), (fun p hp => by rw [List.mem_singleton.1 hp]; exact hok), depthN_le _⟩, HF.less _ ⟨rfl, rfl, rfl, rfl, rfl, rfl, (by show some (Value.int .i64 _) = some (Value.int .i64 _); exact congrArg (fun z => some (Value.int .i64 z)) hdep), trivial⟩, HS.out⟩ ?_
     clear HF HS; clear a
     rintro n a w7 ⟨ao, cp, xs, ⟨hd, hp4, hoks, hn2⟩, HF, HS⟩
     replace HS := Bx.mk HS
     have hx16 := pow4_le hp4
     refine wp_seq ?_
     refine wp_sr ?_
     refine zm HF ?_;clear HF a;intro a HF
     refine zy HF (yl_gtrI rfl (HF.ev rfl) (HF.ev rfl)) ?_;clear HF a;intro a HF
     refine wl_ne ?_
     refine HF.cases 51 rfl (fun cc5 _ => ?_) fun cc5 _ => ?_
     ·clear HF;rename_i HF
      have dcc5 := of_decide_eq_true cc5
      obtain ⟨n, rfl⟩ : ∃ m, n = m + 1 := ⟨n - 1, by omega⟩
      refine wc_true HF rfl ?_
      refine wp_skip ?_
      refine ex_then ?_
      refine wp_seq ?_
      refine wp_block ?_
      refine wp_sr ?_
      refine za HF ?_;clear HF a;intro a HF
      refine wl_ne ?_
      refine wp_seq ?_
      refine wp_sr ?_
      refine zm HF ?_;clear HF a;intro a HF
      refine zy HF (yl_lenL (e := 41) (size := 5) rfl (HF.ev rfl) (by kernel_rfl)) ?_;clear HF a;intro a HF
      refine zm HF ?_;clear HF a;intro a HF
      refine wl_ne ?_
      refine wp_block ?_
      replace HS := Bx.mk (HS.out.nilRow PtrD.cells 5 41 none)
      refine wc_loop (ι := Nat) (fun i a w => ∃ (ay : Option Addr) (cy : Nat) (ys : List PtrD), (i ≤ xs.length ∧ nextL (fun p => kids st p ((n + 1 : Nat) : Int)) xs = (nextL (fun p => kids st p ((n + 1 : Nat) : Int)) (xs.drop i)).map (ys ++ ·) ∧ ys.length = 4 * i ∧ ∀ p ∈ ys, p.ok = true) ∧ Fr 112 a [(0, .pointer (some ⟨b, 0, none⟩)), (1, .agg #[.int .i64 t.fRoot.fAt, .int .i64 t.fRoot.fBirth, .int .i64 t.fRoot.fSize, .int .i64 t.fRoot.fSum, .int .i64 t.fRoot.fLevel, .int .i64 t.fDepth, .int .i64 t.fMany]), (3, .pointer (some ⟨b1, 0, none⟩)), (4, .slice none 0 0), (5, .bool false), (6, .slice ao xs.length cp), (7, .int .i64 ((n + 1 : Nat) : Int)), (54, .slice ao xs.length cp), (55, .int .i64 (xs.length : Int)), (8, .slice ay ys.length cy), (56, .int .i64 (i : Int))] ∧ St w0 ([rowA PtrD.cells 5 41 (.slice ay ys.length cy) ys, rowA PtrD.cells 5 41 (.slice ao xs.length cp) xs, boxA b1 7 43 (.agg #[.int .i64 t.fRoot.fAt, .int .i64 t.fRoot.fBirth, .int .i64 t.fRoot.fSize, .int .i64 t.fRoot.fSum, .int .i64 t.fRoot.fLevel, .int .i64 t.fDepth, .int .i64 t.fMany])]) w) (fun i => xs.length - i) 0 ⟨_, _, [], ⟨Nat.zero_le _, next_begin, rfl, (fun p hp => nomatch hp)⟩, HF.less _ ⟨rfl, rfl, rfl, rfl, rfl, rfl, rfl, rfl, rfl, rfl, rfl, trivial⟩, HS.out⟩ ?_
      clear HF HS; clear a
      rintro i a w8 ⟨ay, cy, ys, ⟨hi, hnx, hyl, hoky⟩, HF, HS⟩
      replace HS := Bx.mk HS
      refine wp_sr ?_
      refine zy HF (yl_lssI rfl (HF.ev rfl) (HF.ev rfl)) ?_;clear HF a;intro a HF
      refine wl_ne ?_
      refine wp_seq ?_
      refine HF.cases 57 rfl (fun cc6 _ => ?_) fun cc6 _ => ?_
      ·clear HF;rename_i HF
       have dcc6 := of_decide_eq_true cc6
       refine wc_true HF rfl ?_
       refine wp_skip ?_
       refine ex_then ?_
       refine wp_seq ?_
       refine wp_block ?_
       refine wp_seq ?_
       obtain ⟨g3, rfl, _, _, _, _⟩ := HS.out.rowOpen 1 rfl (by omega)
       refine wp_region_lit ?_
       refine zy HF (yl_indexAddr (e := 41) (i := i) (size := 5) rfl (HF.ev rfl) (HF.ev rfl) (by kernel_rfl) rfl (by omega)) ?_;clear HF a;intro a HF
       refine zy HF (ylr (cs := [.int .i64 ((xs.getD i PtrD.zero).fAt), .int .i64 ((xs.getD i PtrD.zero).fBirth), .int .i64 ((xs.getD i PtrD.zero).fSize), .int .i64 ((xs.getD i PtrD.zero).fSum), .int .i64 ((xs.getD i PtrD.zero).fLevel)]) rfl (HF.ev rfl) (HS.out.elem PtrD.cells_len 1 rfl (get_getD (xs := xs) (j := i) (d := PtrD.zero) (by omega)))) ?_;clear HF a;intro a HF
       refine wl_alloc rfl HF rfl rfl rfl (Z := [.int .i64 0, .int .i64 0, .int .i64 0, .int .i64 0, .int .i64 0]) (by kernel_rfl) rfl HS.out ?_; clear HF HS a; intro a w9 b4 HF HS; replace HS := Bx.mk HS
       refine wl_storeBox rfl HF rfl rfl (HF.ev rfl) (HF.ev rfl) HS.out 0 rfl (cells_lit [.int .i64 ((xs.getD i PtrD.zero).fAt), .int .i64 ((xs.getD i PtrD.zero).fBirth), .int .i64 ((xs.getD i PtrD.zero).fSize), .int .i64 ((xs.getD i PtrD.zero).fSum), .int .i64 ((xs.getD i PtrD.zero).fLevel)] rfl rfl) (by kernel_rfl) ?_; clear HS; intro w10 HS; replace HS := Bx.mk HS
       have HS : Bx (St w0 ([boxA b4 5 41 (.agg #[.int .i64 ((xs.getD i PtrD.zero).fAt), .int .i64 ((xs.getD i PtrD.zero).fBirth), .int .i64 ((xs.getD i PtrD.zero).fSize), .int .i64 ((xs.getD i PtrD.zero).fSum), .int .i64 ((xs.getD i PtrD.zero).fLevel)]), rowA PtrD.cells 5 41 (.slice ay ys.length cy) ys, rowA PtrD.cells 5 41 (.slice (some ⟨g3, 0, none⟩) xs.length cp) xs, boxA b1 7 43 (.agg #[.int .i64 t.fRoot.fAt, .int .i64 t.fRoot.fBirth, .int .i64 t.fRoot.fSize, .int .i64 t.fRoot.fSum, .int .i64 t.fRoot.fLevel, .int .i64 t.fDepth, .int .i64 t.fMany])]) _) := HS
       refine wl_ne ?_
       refine wp_sr ?_
       refine zm HF ?_;clear HF a;intro a HF
       refine zy HF (ylr (cs := [.int .i64 ((xs.getD i PtrD.zero).fAt), .int .i64 ((xs.getD i PtrD.zero).fBirth), .int .i64 ((xs.getD i PtrD.zero).fSize), .int .i64 ((xs.getD i PtrD.zero).fSum), .int .i64 ((xs.getD i PtrD.zero).fLevel)]) rfl (HF.ev rfl) ((HS.out.box 0 rfl).sub 0 5)) ?_;clear HF a;intro a HF
       refine zm HF ?_;clear HF a;intro a HF
       refine wl_call rfl HF rfl (enter_of Tryz.func90 (by kernel_rfl) rfl) (args := #[.pointer (some ⟨b, 0, none⟩), .agg #[.int .i64 ((xs.getD i PtrD.zero).fAt), .int .i64 ((xs.getD i PtrD.zero).fBirth), .int .i64 ((xs.getD i PtrD.zero).fSize), .int .i64 ((xs.getD i PtrD.zero).fSum), .int .i64 ((xs.getD i PtrD.zero).fLevel)], .int .i64 ((n + 1 : Nat) : Int)]) rfl (fanOf_any a0 c0 a1 c1 a2 c2 a4 c4 a6 c6 st (xs.getD i PtrD.zero) ((n + 1 : Nat) : Int) b _ (HT.out.below HS.out.bel) (HM.out.below HS.out.bel) (HE.out.below HS.out.bel) (HB.out.below HS.out.bel (Nat.le_refl _)) (HR.out.below HS.out.bel) hrow (hoks _ (getD_mem (by omega)))) rfl rfl ?_
       rintro _ w11 (⟨l5, hk5, ao5, cp5, rfl, hs1⟩ | ⟨hk5, ao5, nn5, cp5, rfl, hb⟩)
       ·skip
        have hll5 := kids_len hk5
        refine ⟨_, rfl, ?_⟩; replace HS := Bx.mk (HS.out.add hs1);clear hs1 HF a;intro a HF
        try dsimp only [List.eraseIdx] at HS
        refine zm HF ?_;clear HF a;intro a HF
        refine zy HF (yl_extract rfl (HF.ev rfl) rfl) ?_;clear HF a;intro a HF
        refine zy HF (yl_extract rfl (HF.ev rfl) rfl) ?_;clear HF a;intro a HF
        refine za HF ?_;clear HF a;intro a HF
        refine za HF ?_;clear HF a;intro a HF
        refine wl_ne ?_
        refine wp_seq ?_
        refine wp_sr ?_
        refine zm HF ?_;clear HF a;intro a HF
        refine zy HF (yl_not rfl (HF.ev rfl)) ?_;clear HF a;intro a HF
        refine wl_ne ?_
        refine wc_false HF rfl ?_
        refine wp_skip ?_
        refine ex_then ?_
        refine wp_region_lit ?_
        refine zm HF ?_;clear HF a;intro a HF
        refine zm HF ?_;clear HF a;intro a HF
        refine wl_appL rfl HF rfl rfl rfl (HF.ev rfl) (HF.ev rfl) elemQ PtrD.cells_len HS.out 2 (xs := ys) rfl (ys := l5) (St.rdOf HS.out PtrD.cells_len 0 rfl) (cells_one_Q _) (by unfold maxLen; (try simp only [List.length_append, List.length_cons, List.length_nil, List.nil_append, List.length_map]); omega) (by (try simp only [List.length_append, List.length_cons, List.length_nil, List.nil_append, List.length_map]); omega) ?_; clear HF HS a; intro ao6 cp7 w12 a HF HS; replace HS := Bx.mk HS
        try dsimp only [List.eraseIdx] at HS
        refine za HF ?_;clear HF a;intro a HF
        refine wpList_nil ?_
        refine ex_block ?_
        refine ex_then ?_
        refine wp_region_lit ?_
        refine zy HF (yl_addI rfl (HF.ev rfl) (HF.ev rfl) (i64w (by omega))) ?_;clear HF a;intro a HF
        refine zm HF ?_;clear HF a;intro a HF
        refine wl_ne ?_
        have hz : ys.length + l5.length = (ys ++ l5).length := (List.length_append ..).symm
        rw [hz] at HS HF
        have hl4 := kids_len hk5; have hyl2 : (ys ++ l5).length = 4 * (i + 1) := by rw [List.length_append]; omega
        have hoky2 : ∀ p ∈ ys ++ l5, p.ok = true := fun p hp => (List.mem_append.1 hp).elim (hoky p) ((kids_are hk5).2.1 p)
        replace HS:=Bx.mk (((HS.out.pick 4 rfl).pick 4 rfl).pick 4 rfl)
        exact ⟨i + 1, ⟨_, _, ys ++ l5, ⟨by omega, next_step hnx (by omega) hk5, hyl2, hoky2⟩, HF.less _ ⟨rfl, rfl, rfl, rfl, rfl, rfl, rfl, rfl, rfl, rfl, rfl, trivial⟩, ((HS.out.erase 4).erase 3)⟩, (by omega)⟩
       ·skip
        refine ⟨_, rfl, ?_⟩; replace HS := Bx.mk (HS.out.later hb);clear hb HF a;intro a HF
        refine zm HF ?_;clear HF a;intro a HF
        refine zy HF (yl_extract rfl (HF.ev rfl) rfl) ?_;clear HF a;intro a HF
        refine zy HF (yl_extract rfl (HF.ev rfl) rfl) ?_;clear HF a;intro a HF
        refine za HF ?_;clear HF a;intro a HF
        refine za HF ?_;clear HF a;intro a HF
        refine wl_ne ?_
        refine wp_seq ?_
        refine wp_sr ?_
        refine zm HF ?_;clear HF a;intro a HF
        refine zy HF (yl_not rfl (HF.ev rfl)) ?_;clear HF a;intro a HF
        refine wl_ne ?_
        refine wc_true HF rfl ?_
        refine wp_sr ?_
        refine za HF ?_;clear HF a;intro a HF
        refine za HF ?_;clear HF a;intro a HF
        refine wl_ne ?_
        refine wp_ret ?_
        refine ex_then_ret ?_
        refine ex_block_ret ?_
        refine ex_then_ret ?_
        refine ex_then_ret ?_
        refine ex_block_ret ?_
        refine ex_then_ret ?_
        refine ex_block_ret ?_
        refine ex_then_ret ?_
        refine ex_then_ret ?_
        refine ex_block_ret ?_
        refine ex_then_ret ?_
        refine bp_ret2 HF Tryz.results73 (HF.res rfl) (HF.res rfl) ?_
        exact .inr ⟨leavesF_down (hd.trans (downL_no (next_stop hnx (by omega) hk5))), rfl, HS.out.bel⟩
      ·clear HF;rename_i HF
       have dcc6 := of_decide_eq_false cc6
       refine wc_false HF rfl ?_
       refine wp_exit ?_
       refine ex_then_exit ?_
       refine ex_then_exit ?_
       refine ex_block_hit ?_
       refine ex_then ?_
       refine wp_region_lit ?_
       refine zm HF ?_;clear HF a;intro a HF
       refine za HF ?_;clear HF a;intro a HF
       refine wpList_nil ?_
       refine ex_block ?_
       refine ex_then ?_
       refine wp_region_lit ?_
       refine zm HF ?_;clear HF a;intro a HF
       refine zy HF (yl_subI (r := (n : Int)) rfl (HF.ev rfl) (HF.ev rfl) ((i64w (by omega)).trans (by omega))) ?_;clear HF a;intro a HF
       refine za HF ?_;clear HF a;intro a HF
       refine wl_ne ?_
       replace HS:=Bx.mk ((HS.out.pick 2 rfl).pick 1 rfl)
       exact ⟨n, ⟨_, _, ys, ⟨(hd.trans (downL_yes (next_end hnx (by omega)))), pow4_step hp4 hyl (by omega), hoky, by omega⟩, HF.less _ ⟨rfl, rfl, rfl, rfl, rfl, rfl, rfl, trivial⟩, (HS.out.erase 2)⟩, (Nat.lt_succ_self _)⟩
     ·clear HF;rename_i HF
      have dcc5 := of_decide_eq_false cc5
      obtain rfl : n = 0 := by omega
      refine wc_false HF rfl ?_
      refine wp_exit ?_
      refine ex_then_exit ?_
      refine ex_then_exit ?_
      refine ex_block_hit ?_
      refine ex_then ?_
      refine wp_seq ?_
      refine wp_sr ?_
      refine zm HF ?_;clear HF a;intro a HF
      refine zy HF (yl_lenL (e := 41) (size := 5) rfl (HF.ev rfl) (by kernel_rfl)) ?_;clear HF a;intro a HF
      refine zm HF ?_;clear HF a;intro a HF
      refine wl_ne ?_
      refine wp_block ?_
      refine wc_loop (ι := Nat) (fun i a w => (i ≤ xs.length ∧ leavesB st t.fMany 0 xs = leavesB st t.fMany i (xs.drop i)) ∧ Fr 112 a [(0, .pointer (some ⟨b, 0, none⟩)), (1, .agg #[.int .i64 t.fRoot.fAt, .int .i64 t.fRoot.fBirth, .int .i64 t.fRoot.fSize, .int .i64 t.fRoot.fSum, .int .i64 t.fRoot.fLevel, .int .i64 t.fDepth, .int .i64 t.fMany]), (3, .pointer (some ⟨b1, 0, none⟩)), (4, .slice none 0 0), (5, .bool false), (6, .slice ao xs.length cp), (74, .slice ao xs.length cp), (75, .int .i64 (xs.length : Int)), (76, .int .i64 (i : Int))] ∧ St w0 ([rowA PtrD.cells 5 41 (.slice ao xs.length cp) xs, boxA b1 7 43 (.agg #[.int .i64 t.fRoot.fAt, .int .i64 t.fRoot.fBirth, .int .i64 t.fRoot.fSize, .int .i64 t.fRoot.fSum, .int .i64 t.fRoot.fLevel, .int .i64 t.fDepth, .int .i64 t.fMany])]) w) (fun i => xs.length - i) 0 ⟨⟨Nat.zero_le _, by rw [List.drop_zero]⟩, HF.less _ ⟨rfl, rfl, rfl, rfl, rfl, rfl, rfl, rfl, rfl, trivial⟩, HS.out⟩ ?_
      clear HF HS; clear a
      rintro i a w13 ⟨⟨hi, hlv⟩, HF, HS⟩
      replace HS := Bx.mk HS
      refine wp_sr ?_
      refine zy HF (yl_lssI rfl (HF.ev rfl) (HF.ev rfl)) ?_;clear HF a;intro a HF
      refine wl_ne ?_
      refine wp_seq ?_
      refine HF.cases 77 rfl (fun cc7 _ => ?_) fun cc7 _ => ?_
      ·clear HF;rename_i HF
       have dcc7 := of_decide_eq_true cc7
       refine wc_true HF rfl ?_
       refine wp_skip ?_
       refine ex_then ?_
       refine wp_seq ?_
       refine wp_block ?_
       refine wp_seq ?_
       obtain ⟨g8, rfl, _, _, _, _⟩ := HS.out.rowOpen 0 rfl (by omega)
       refine wp_region_lit ?_
       refine zm HF ?_;clear HF a;intro a HF
       refine zy HF (yl_indexAddr (e := 41) (i := i) (size := 5) rfl (HF.ev rfl) (HF.ev rfl) (by kernel_rfl) rfl (by omega)) ?_;clear HF a;intro a HF
       refine zy HF (ylr (cs := [.int .i64 ((xs.getD i PtrD.zero).fAt), .int .i64 ((xs.getD i PtrD.zero).fBirth), .int .i64 ((xs.getD i PtrD.zero).fSize), .int .i64 ((xs.getD i PtrD.zero).fSum), .int .i64 ((xs.getD i PtrD.zero).fLevel)]) rfl (HF.ev rfl) (HS.out.elem PtrD.cells_len 0 rfl (get_getD (xs := xs) (j := i) (d := PtrD.zero) (by omega)))) ?_;clear HF a;intro a HF
       refine wl_alloc rfl HF rfl rfl rfl (Z := [.int .i64 0, .int .i64 0, .int .i64 0, .int .i64 0, .int .i64 0]) (by kernel_rfl) rfl HS.out ?_; clear HF HS a; intro a w14 b9 HF HS; replace HS := Bx.mk HS
       refine za HF ?_;clear HF a;intro a HF
       refine wl_storeBox rfl HF rfl rfl (HF.ev rfl) (HF.ev rfl) HS.out 0 rfl (cells_lit [.int .i64 ((xs.getD i PtrD.zero).fAt), .int .i64 ((xs.getD i PtrD.zero).fBirth), .int .i64 ((xs.getD i PtrD.zero).fSize), .int .i64 ((xs.getD i PtrD.zero).fSum), .int .i64 ((xs.getD i PtrD.zero).fLevel)] rfl rfl) (by kernel_rfl) ?_; clear HS; intro w15 HS; replace HS := Bx.mk HS
       have HS : Bx (St w0 ([boxA b9 5 41 (.agg #[.int .i64 ((xs.getD i PtrD.zero).fAt), .int .i64 ((xs.getD i PtrD.zero).fBirth), .int .i64 ((xs.getD i PtrD.zero).fSize), .int .i64 ((xs.getD i PtrD.zero).fSum), .int .i64 ((xs.getD i PtrD.zero).fLevel)]), rowA PtrD.cells 5 41 (.slice (some ⟨g8, 0, none⟩) xs.length cp) xs, boxA b1 7 43 (.agg #[.int .i64 t.fRoot.fAt, .int .i64 t.fRoot.fBirth, .int .i64 t.fRoot.fSize, .int .i64 t.fRoot.fSum, .int .i64 t.fRoot.fLevel, .int .i64 t.fDepth, .int .i64 t.fMany])]) _) := HS
       refine wl_ne ?_
       refine wp_sr ?_
       refine zm HF ?_;clear HF a;intro a HF
       refine zy HF (ylr (cs := [.int .i64 ((xs.getD i PtrD.zero).fAt), .int .i64 ((xs.getD i PtrD.zero).fBirth), .int .i64 ((xs.getD i PtrD.zero).fSize), .int .i64 ((xs.getD i PtrD.zero).fSum), .int .i64 ((xs.getD i PtrD.zero).fLevel)]) rfl (HF.ev rfl) ((HS.out.box 0 rfl).sub 0 5)) ?_;clear HF a;intro a HF
       refine wl_callB rfl HF rfl (enter_of Tryz.func79 (by kernel_rfl) rfl) (args := #[.pointer (some ⟨b, 0, none⟩), .agg #[.int .i64 ((xs.getD i PtrD.zero).fAt), .int .i64 ((xs.getD i PtrD.zero).fBirth), .int .i64 ((xs.getD i PtrD.zero).fSize), .int .i64 ((xs.getD i PtrD.zero).fSum), .int .i64 ((xs.getD i PtrD.zero).fLevel)]]) rfl (v := .tuple #[.string (readT st (xs.getD i PtrD.zero)), .bool (readB st (xs.getD i PtrD.zero))]) ((stRead_any a0 c0 a1 c1 a2 c2 a4 c4 a6 c6 st (xs.getD i PtrD.zero) b _ (HB.out.below HS.out.bel (Nat.le_refl _)) (HR.out.below HS.out.bel) hrow (hoks _ (getD_mem (by omega))))) rfl rfl HS.out ?_; clear HF HS a; intro w16 a HS HF; replace HS := Bx.mk HS
       refine zm HF ?_;clear HF a;intro a HF
       refine zy HF (yl_extract rfl (HF.ev rfl) rfl) ?_;clear HF a;intro a HF
       refine zy HF (yl_extract rfl (HF.ev rfl) rfl) ?_;clear HF a;intro a HF
       refine za HF ?_;clear HF a;intro a HF
       refine za HF ?_;clear HF a;intro a HF
       refine wl_ne ?_
       refine wp_sr ?_
       refine zm HF ?_;clear HF a;intro a HF
       refine zy HF (yl_not rfl (HF.ev rfl)) ?_;clear HF a;intro a HF
       refine zm HF ?_;clear HF a;intro a HF
       refine HF.cases 89 rfl (fun cc8 _ => ?_) fun cc8 _ => ?_
       ·clear HF;rename_i HF
        refine zk HF ?_;clear HF a;intro a HF
        refine zk HF ?_;clear HF a;intro a HF
        refine zk HF ?_;clear HF a;intro a HF
        refine zy HF (yl_pick_t rfl (HF.ev rfl) (HF.ev rfl)) ?_;clear HF a;intro a HF
        refine zm HF ?_;clear HF a;intro a HF
        refine zk HF ?_;clear HF a;intro a HF
        refine zk HF ?_;clear HF a;intro a HF
        refine zk HF ?_;clear HF a;intro a HF
        refine zk HF ?_;clear HF a;intro a HF
        refine zk HF ?_;clear HF a;intro a HF
        refine wl_skipU HF rfl rfl rfl rfl rfl ?_;clear HF a;intro a HF
        refine wl_skipU HF rfl rfl rfl rfl rfl ?_;clear HF a;intro a HF
        refine wl_skipU HF rfl rfl rfl rfl rfl ?_;clear HF a;intro a HF
        refine zk HF ?_;clear HF a;intro a HF
        refine zy HF (yl_pick_t rfl (HF.ev rfl) (HF.ev rfl)) ?_;clear HF a;intro a HF
        refine wl_ne ?_
        refine wc_true HF rfl ?_
        refine wp_sr ?_
        refine za HF ?_;clear HF a;intro a HF
        refine za HF ?_;clear HF a;intro a HF
        refine wl_ne ?_
        refine wp_ret ?_
        refine ex_block_ret ?_
        refine ex_then_ret ?_
        refine ex_then_ret ?_
        refine ex_block_ret ?_
        refine ex_then_ret ?_
        refine bp_ret2 HF Tryz.results73 (HF.res rfl) (HF.res rfl) ?_
        have hd0 : downL (kids st) (depthN t.fMany) [t.fRoot] = some xs := hd; have hst := leaves_step hlv (show i < xs.length by omega)
        rw [leafB_read (p := (xs.getD i PtrD.zero)) (by simpa using cc8)] at hst
        exact .inr ⟨leavesF_bad hd0 hst, rfl, HS.out.bel⟩
       ·clear HF;rename_i HF
        refine zg HF (yfa 4 rfl (HF.ev rfl)) ?_;clear HF a;intro a HF
        refine zg HF (ylo (v := .int .i64 ((xs.getD i PtrD.zero).fLevel)) rfl (HF.ev rfl) (((HS.out.box 0 rfl).cell 4).trans rfl)) ?_;clear HF a;intro a HF
        refine zg HF (yl_neqI rfl (HF.ev rfl) (HF.ev rfl)) ?_;clear HF a;intro a HF
        refine zy HF (yl_pick_f rfl (HF.ev rfl) (HF.ev rfl)) ?_;clear HF a;intro a HF
        refine zm HF ?_;clear HF a;intro a HF
        refine HF.cases 94 rfl (fun cc9 _ => ?_) fun cc9 _ => ?_
        ·clear HF;rename_i HF
         have dcc9 := bne_iff_ne.1 cc9
         refine zk HF ?_;clear HF a;intro a HF
         refine zk HF ?_;clear HF a;intro a HF
         refine zk HF ?_;clear HF a;intro a HF
         refine zk HF ?_;clear HF a;intro a HF
         refine zk HF ?_;clear HF a;intro a HF
         refine wl_skipU HF rfl rfl rfl rfl rfl ?_;clear HF a;intro a HF
         refine wl_skipU HF rfl rfl rfl rfl rfl ?_;clear HF a;intro a HF
         refine wl_skipU HF rfl rfl rfl rfl rfl ?_;clear HF a;intro a HF
         refine zk HF ?_;clear HF a;intro a HF
         refine zy HF (yl_pick_t rfl (HF.ev rfl) (HF.ev rfl)) ?_;clear HF a;intro a HF
         refine wl_ne ?_
         refine wc_true HF rfl ?_
         refine wp_sr ?_
         refine za HF ?_;clear HF a;intro a HF
         refine za HF ?_;clear HF a;intro a HF
         refine wl_ne ?_
         refine wp_ret ?_
         refine ex_block_ret ?_
         refine ex_then_ret ?_
         refine ex_then_ret ?_
         refine ex_block_ret ?_
         refine ex_then_ret ?_
         refine bp_ret2 HF Tryz.results73 (HF.res rfl) (HF.res rfl) ?_
         have hd0 : downL (kids st) (depthN t.fMany) [t.fRoot] = some xs := hd; have hst := leaves_step hlv (show i < xs.length by omega)
         rw [leafB_level (p := (xs.getD i PtrD.zero)) (by simpa using dcc9)] at hst
         exact .inr ⟨leavesF_bad hd0 hst, rfl, HS.out.bel⟩
        ·clear HF;rename_i HF
         have dcc9 := bne_eq_false_iff_eq.1 cc9
         refine zg HF (yl_move rfl (HF.ev rfl)) ?_;clear HF a;intro a HF
         refine zg HF (yfa 6 rfl (HF.ev rfl)) ?_;clear HF a;intro a HF
         refine zg HF (ylo (v := .int .i64 t.fMany) rfl (HF.ev rfl) (((HS.out.box 2 rfl).cell 6).trans rfl)) ?_;clear HF a;intro a HF
         refine zg HF (yl_geqI rfl (HF.ev rfl) (HF.ev rfl)) ?_;clear HF a;intro a HF
         refine zg HF (yl_move rfl (HF.ev rfl)) ?_;clear HF a;intro a HF
         refine HF.cases 99 rfl (fun cc10 _ => ?_) fun cc10 _ => ?_
         ·clear HF;rename_i HF
          have dcc10 := of_decide_eq_true cc10
          refine zg HF (ylr (cs := [.int .i64 ((xs.getD i PtrD.zero).fAt), .int .i64 ((xs.getD i PtrD.zero).fBirth), .int .i64 ((xs.getD i PtrD.zero).fSize), .int .i64 ((xs.getD i PtrD.zero).fSum), .int .i64 ((xs.getD i PtrD.zero).fLevel)]) rfl (HF.ev rfl) ((HS.out.box 0 rfl).sub 0 5)) ?_;clear HF a;intro a HF
          refine wl_callBg HF rfl rfl rfl rfl (enter_of Tryz.func89 (by kernel_rfl) rfl) (args := #[.agg #[.int .i64 ((xs.getD i PtrD.zero).fAt), .int .i64 ((xs.getD i PtrD.zero).fBirth), .int .i64 ((xs.getD i PtrD.zero).fSize), .int .i64 ((xs.getD i PtrD.zero).fSum), .int .i64 ((xs.getD i PtrD.zero).fLevel)]]) rfl (v := .bool ((xs.getD i PtrD.zero).hole)) (implHole_any (xs.getD i PtrD.zero) _) rfl rfl HS.out ?_; clear HF HS a; intro w17 a HS HF; replace HS := Bx.mk HS
          refine zg HF (yl_not rfl (HF.ev rfl)) ?_;clear HF a;intro a HF
          refine zg HF (yl_pick_t rfl (HF.ev rfl) (HF.ev rfl)) ?_;clear HF a;intro a HF
          refine zy HF (yl_pick_f rfl (HF.ev rfl) (HF.ev rfl)) ?_;clear HF a;intro a HF
          refine wl_ne ?_
          refine HF.cases 104 rfl (fun cc11 _ => ?_) fun cc11 _ => ?_
          ·clear HF;rename_i HF
           refine wc_true HF rfl ?_
           refine wp_sr ?_
           refine za HF ?_;clear HF a;intro a HF
           refine za HF ?_;clear HF a;intro a HF
           refine wl_ne ?_
           refine wp_ret ?_
           refine ex_block_ret ?_
           refine ex_then_ret ?_
           refine ex_then_ret ?_
           refine ex_block_ret ?_
           refine ex_then_ret ?_
           refine bp_ret2 HF Tryz.results73 (HF.res rfl) (HF.res rfl) ?_
           have hd0 : downL (kids st) (depthN t.fMany) [t.fRoot] = some xs := hd; have hst := leaves_step hlv (show i < xs.length by omega)
           rw [leafB_out (p := (xs.getD i PtrD.zero)) (by simpa using cc11) (by omega)] at hst
           exact .inr ⟨leavesF_bad hd0 hst, rfl, HS.out.bel⟩
          ·clear HF;rename_i HF
           refine wc_false HF rfl ?_
           refine wp_skip ?_
           refine ex_block ?_
           refine ex_then ?_
           refine wp_region_lit ?_
           refine zy HF (yl_addI rfl (HF.ev rfl) (HF.ev rfl) (i64w (by omega))) ?_;clear HF a;intro a HF
           refine zm HF ?_;clear HF a;intro a HF
           refine wl_ne ?_
           have hst := leaves_step hlv (show i < xs.length by omega)
           rw [leafB_yes (p := (xs.getD i PtrD.zero)) (by simpa using cc8) (by simpa using cc9) (.inl (by simpa using cc11)), Bool.true_and] at hst
           replace HS:=Bx.mk ((HS.out.pick 2 rfl).pick 2 rfl)
           exact ⟨i + 1, ⟨⟨by omega, hst⟩, HF.less _ ⟨rfl, rfl, rfl, rfl, rfl, rfl, rfl, rfl, rfl, trivial⟩, (HS.out.erase 2)⟩, (by omega)⟩
         ·clear HF;rename_i HF
          have dcc10 := of_decide_eq_false cc10
          refine zk HF ?_;clear HF a;intro a HF
          refine zk HF ?_;clear HF a;intro a HF
          refine zk HF ?_;clear HF a;intro a HF
          refine zg HF (yl_pick_f rfl (HF.ev rfl) (HF.ev rfl)) ?_;clear HF a;intro a HF
          refine zy HF (yl_pick_f rfl (HF.ev rfl) (HF.ev rfl)) ?_;clear HF a;intro a HF
          refine wl_ne ?_
          refine wc_false HF rfl ?_
          refine wp_skip ?_
          refine ex_block ?_
          refine ex_then ?_
          refine wp_region_lit ?_
          refine zy HF (yl_addI rfl (HF.ev rfl) (HF.ev rfl) (i64w (by omega))) ?_;clear HF a;intro a HF
          refine zm HF ?_;clear HF a;intro a HF
          refine wl_ne ?_
          have hst := leaves_step hlv (show i < xs.length by omega)
          rw [leafB_yes (p := (xs.getD i PtrD.zero)) (by simpa using cc8) (by simpa using cc9) (.inr (by omega)), Bool.true_and] at hst
          replace HS:=Bx.mk ((HS.out.pick 2 rfl).pick 2 rfl)
          exact ⟨i + 1, ⟨⟨by omega, hst⟩, HF.less _ ⟨rfl, rfl, rfl, rfl, rfl, rfl, rfl, rfl, rfl, trivial⟩, (HS.out.erase 2)⟩, (by omega)⟩
      ·clear HF;rename_i HF
       have dcc7 := of_decide_eq_false cc7
       refine wc_false HF rfl ?_
       refine wp_exit ?_
       refine ex_then_exit ?_
       refine ex_then_exit ?_
       refine ex_block_hit ?_
       refine ex_then ?_
       refine wp_seq ?_
       have hall := leaves_end hlv (by omega); have hd0 : downL (kids st) (depthN t.fMany) [t.fRoot] = some xs := hd; have hxl : xs.length = 4 ^ depthN t.fMany := by rw [downL_len (fun p n k => kids_len) hd0]; simp
       have hfan := depthN_fan hin.2; have htk : (xs.take t.fMany.toNat).length = t.fMany.toNat := by rw [List.length_take]; omega
       have hmle : t.fMany.toNat ≤ xs.length := by omega
       refine wp_region_lit ?_
       refine zm HF ?_;clear HF a;intro a HF
       refine zy HF (yfa 6 rfl (HF.ev rfl)) ?_;clear HF a;intro a HF
       refine zy HF (ylo (v := .int .i64 t.fMany) rfl (HF.ev rfl) (((HS.out.box 1 rfl).cell 6).trans rfl)) ?_;clear HF a;intro a HF
       refine zy HF (yfa 6 rfl (HF.ev rfl)) ?_;clear HF a;intro a HF
       refine zy HF (ylo (v := .int .i64 t.fMany) rfl (HF.ev rfl) (((HS.out.box 1 rfl).cell 6).trans rfl)) ?_;clear HF a;intro a HF
       refine zy HF (yl_sliceH3 (e := 41) (size := 5) (k := t.fMany.toNat) rfl (HF.ev rfl) (HF.ev rfl) (HF.ev rfl) (by kernel_rfl) (by omega) (by omega) (Nat.le_trans (by omega) (St.capLe HS.out 0 rfl))) ?_;clear HF a;intro a HF
       refine za HF ?_;clear HF a;intro a HF
       refine za HF ?_;clear HF a;intro a HF
       refine wl_ne ?_
       refine wp_ret ?_
       refine bp_ret2 HF Tryz.results73 (HF.res rfl) (HF.res rfl) ?_
       replace HS:=Bx.mk (HS.out.pick 0 rfl)
       have hh := HS.out.hold (P := fun w => Rd PtrD.cells 5 w ao (xs.take t.fMany.toNat).length (xs.take t.fMany.toNat)) (fun w f h => by rw [htk]; exact (row_reads PtrD.cells_len h).take hmle)
       exact .inl ⟨xs.take t.fMany.toNat, leavesF_yes htop hd0 hall, ao, by rw [htk], (hh.erase 1)⟩

theorem leavesF_16 {st : StoreD} {t : TreeD} {l : List PtrD} (h : leavesF st t = some l) : l.length ≤ 16 := by
  obtain ⟨x, ht, hd, _, rfl, hx, hn⟩ := leavesF_is h
  unfold topB at ht
  rw [Bool.and_eq_true] at ht
  have := inB_true ht.1
  omega
/-- The places of a valid tree in a valid store. -/
noncomputable def leavesT (st : StoreD) (t : TreeD) : Option (List PtrD) := bif st.ok then leavesF st t else none
theorem leavesT_ok {st : StoreD} {t : TreeD} (h : st.ok = true) : leavesT st t = leavesF st t := by unfold leavesT; rw [h]; rfl
theorem leavesT_no {st : StoreD} {t : TreeD} (h : st.ok = false) : leavesT st t = none := by unfold leavesT; rw [h]; rfl

theorem treeLeaves_any (a0 : Option Addr) (c0 : Nat) (a1 : Option Addr) (c1 : Nat) (a2 : Option Addr) (c2 : Nat) (a4 : Option Addr) (c4 : Nat) (a6 : Option Addr) (c6 : Nat) (st : StoreD) (t : TreeD) (w0 : World) (hT : TabP w0) (hM : MaxP w0) (hE : ErrP w0) (hV0 : StoreD.Reads w0 (.agg #[.slice a0 st.fRows.length c0, .slice a1 st.fSpace.fRefs.length c1, .slice a2 st.fSpace.fLast.length c2, .int .i64 st.fTxg, .slice a4 st.fGone.length c4, .int .i64 st.fKeep, .slice a6 st.fDead.length c6, .bool st.fSame]) st) (hf : st.Fit) : Calls Tryz.prog 60 #[.agg #[.slice a0 st.fRows.length c0, .slice a1 st.fSpace.fRefs.length c1, .slice a2 st.fSpace.fLast.length c2, .int .i64 st.fTxg, .slice a4 st.fGone.length c4, .int .i64 st.fKeep, .slice a6 st.fDead.length c6, .bool st.fSame], .agg #[.int .i64 t.fRoot.fAt, .int .i64 t.fRoot.fBirth, .int .i64 t.fRoot.fSize, .int .i64 t.fRoot.fSum, .int .i64 t.fRoot.fLevel, .int .i64 t.fDepth, .int .i64 t.fMany]] w0 fun e w' => (∃ l, leavesT st t = some l ∧ ∃ ao cp, e = .returned (.tuple #[.slice ao l.length cp, .bool true]) ∧ St w0 [rowA PtrD.cells 5 41 (.slice ao l.length cp) l] w') ∨ (leavesT st t = none ∧ ∃ ao cp, e = .returned (.tuple #[.slice ao 0 cp, .bool false]) ∧ Below w0.heap.size w0 w') := by
 have HT := Bx.mk hT; have HM := Bx.mk hM; have HE := Bx.mk hE; have hV := Bx.mk hV0; clear hT hM hE hV0
 have HS := Bx.mk (St.start w0)
 refine wc_enter Tryz.func60 rfl Tryz.ntmps60 [(0, .agg #[.slice a0 st.fRows.length c0, .slice a1 st.fSpace.fRefs.length c1, .slice a2 st.fSpace.fLast.length c2, .int .i64 st.fTxg, .slice a4 st.fGone.length c4, .int .i64 st.fKeep, .slice a6 st.fDead.length c6, .bool st.fSame]), (1, .agg #[.int .i64 t.fRoot.fAt, .int .i64 t.fRoot.fBirth, .int .i64 t.fRoot.fSize, .int .i64 t.fRoot.fSum, .int .i64 t.fRoot.fLevel, .int .i64 t.fDepth, .int .i64 t.fMany])] ⟨rfl, rfl, trivial⟩ rfl ?_; intro a HF
 refine wp_sr ?_
 refine wl_box rfl HF rfl (HF.ev rfl) (Z := [.slice a0 st.fRows.length c0, .slice a1 st.fSpace.fRefs.length c1, .slice a2 st.fSpace.fLast.length c2, .int .i64 st.fTxg, .slice a4 st.fGone.length c4, .int .i64 st.fKeep, .slice a6 st.fDead.length c6, .bool st.fSame]) rfl rfl rfl rfl HS.out ?_; clear HF HS a; intro a w1 b1 HF HS; replace HS := Bx.mk HS
 refine wl_box rfl HF rfl (HF.ev rfl) (Z := [.int .i64 t.fRoot.fAt, .int .i64 t.fRoot.fBirth, .int .i64 t.fRoot.fSize, .int .i64 t.fRoot.fSum, .int .i64 t.fRoot.fLevel, .int .i64 t.fDepth, .int .i64 t.fMany]) rfl rfl rfl rfl HS.out ?_; clear HF HS a; intro a w2 b2 HF HS; replace HS := Bx.mk HS
 refine za HF ?_;clear HF a;intro a HF
 refine za HF ?_;clear HF a;intro a HF
 refine wl_ne ?_
 refine wp_seq ?_
 refine wp_sr ?_
 refine zy HF (ylr (cs := [.slice a0 st.fRows.length c0, .slice a1 st.fSpace.fRefs.length c1, .slice a2 st.fSpace.fLast.length c2, .int .i64 st.fTxg, .slice a4 st.fGone.length c4, .int .i64 st.fKeep, .slice a6 st.fDead.length c6, .bool st.fSame]) rfl (HF.ev rfl) ((HS.out.box 1 rfl).sub 0 8)) ?_;clear HF a;intro a HF
 refine wl_callB rfl HF rfl (enter_of Tryz.func88 (by kernel_rfl) rfl) (args := #[.agg #[.slice a0 st.fRows.length c0, .slice a1 st.fSpace.fRefs.length c1, .slice a2 st.fSpace.fLast.length c2, .int .i64 st.fTxg, .slice a4 st.fGone.length c4, .int .i64 st.fKeep, .slice a6 st.fDead.length c6, .bool st.fSame]]) rfl (v := .bool st.ok) (implStoreOk_any _ st _ (hV.out.below HS.out.bel) hf) rfl rfl HS.out ?_; clear HF HS a; intro w3 a HS HF; replace HS := Bx.mk HS
 refine zy HF (yl_not rfl (HF.ev rfl)) ?_;clear HF a;intro a HF
 refine wl_ne ?_
 refine HF.cases 10 rfl (fun cc1 _ => ?_) fun cc1 _ => ?_
 ·clear HF;rename_i HF
  have hsok : st.ok = false := by simpa using cc1
  refine wc_true HF rfl ?_
  refine wp_sr ?_
  refine za HF ?_;clear HF a;intro a HF
  refine za HF ?_;clear HF a;intro a HF
  refine wl_ne ?_
  refine wp_ret ?_
  refine ex_then_ret ?_
  refine bp_ret2 HF Tryz.results60 (HF.res rfl) (HF.res rfl) ?_
  exact .inr ⟨leavesT_no hsok, none, 0, rfl, HS.out.bel⟩
 ·clear HF;rename_i HF
  have hsok : st.ok = true := by simpa using cc1
  refine wc_false HF rfl ?_
  refine wp_skip ?_
  refine ex_then ?_
  refine wp_sr ?_
  refine zy HF (ylr (cs := [.int .i64 t.fRoot.fAt, .int .i64 t.fRoot.fBirth, .int .i64 t.fRoot.fSize, .int .i64 t.fRoot.fSum, .int .i64 t.fRoot.fLevel, .int .i64 t.fDepth, .int .i64 t.fMany]) rfl (HF.ev rfl) ((HS.out.box 0 rfl).sub 0 7)) ?_;clear HF a;intro a HF
  refine wl_call rfl HF rfl (enter_of Tryz.func73 (by kernel_rfl) rfl) (args := #[.pointer (some ⟨b1, 0, none⟩), .agg #[.int .i64 t.fRoot.fAt, .int .i64 t.fRoot.fBirth, .int .i64 t.fRoot.fSize, .int .i64 t.fRoot.fSum, .int .i64 t.fRoot.fLevel, .int .i64 t.fDepth, .int .i64 t.fMany]]) rfl (leaves_any a0 c0 a1 c1 a2 c2 a4 c4 a6 c6 st t b1 _ (HT.out.below HS.out.bel) (HM.out.below HS.out.bel) (HE.out.below HS.out.bel) (HS.out.box 1 rfl) ((reads_rows hV.out).below HS.out.bel) (ok_rows hsok)) rfl rfl ?_
  rintro _ w4 (⟨l, hlf, ao, rfl, hs1⟩ | ⟨hlf, rfl, hb⟩)
  ·skip
   refine ⟨_, rfl, ?_⟩; replace HS := Bx.mk (HS.out.add hs1);clear hs1 HF a;intro a HF
   try dsimp only [List.eraseIdx] at HS
   refine zm HF ?_;clear HF a;intro a HF
   refine zy HF (yl_extract rfl (HF.ev rfl) rfl) ?_;clear HF a;intro a HF
   refine zy HF (yl_extract rfl (HF.ev rfl) rfl) ?_;clear HF a;intro a HF
   refine za HF ?_;clear HF a;intro a HF
   refine za HF ?_;clear HF a;intro a HF
   refine wl_ne ?_
   refine wp_sr ?_
   refine zm HF ?_;clear HF a;intro a HF
   refine wl_call rfl HF rfl (enter_of Tryz.func72 (by kernel_rfl) rfl) (args := #[.slice ao l.length l.length]) rfl (clonePtr_row ao _ l _ (by have := leavesF_16 hlf; omega) (HS.out.holds 0 rfl)) rfl rfl ?_
   rintro _ w5 ⟨ao3, cp3, rfl, hs⟩
   refine ⟨_, rfl, ?_⟩
   replace HS := Bx.mk (HS.out.add hs);clear hs HF a;intro a HF
   try dsimp only [List.eraseIdx] at HS
   refine zm HF ?_;clear HF a;intro a HF
   refine za HF ?_;clear HF a;intro a HF
   refine za HF ?_;clear HF a;intro a HF
   refine wl_ne ?_
   refine wp_ret ?_
   refine bp_ret2 HF Tryz.results60 (HF.res rfl) (HF.res rfl) ?_
   exact .inl ⟨l, (leavesT_ok hsok).trans hlf, _, _, rfl, (((HS.out.erase 3).erase 2).erase 1)⟩
  ·skip
   refine ⟨_, rfl, ?_⟩; replace HS := Bx.mk (HS.out.later hb);clear hb HF a;intro a HF
   refine zm HF ?_;clear HF a;intro a HF
   refine zy HF (yl_extract rfl (HF.ev rfl) rfl) ?_;clear HF a;intro a HF
   refine zy HF (yl_extract rfl (HF.ev rfl) rfl) ?_;clear HF a;intro a HF
   refine za HF ?_;clear HF a;intro a HF
   refine za HF ?_;clear HF a;intro a HF
   refine wl_ne ?_
   refine wp_sr ?_
   refine zm HF ?_;clear HF a;intro a HF
   refine wl_call rfl HF rfl (enter_of Tryz.func72 (by kernel_rfl) rfl) (args := #[.slice none 0 0]) rfl (clonePtr_row none 0 [] _ (by decide) (rd_of_nil _ _ _ _)) rfl rfl ?_
   rintro _ w6 ⟨ao4, cp4, rfl, hs⟩
   refine ⟨_, rfl, ?_⟩
   replace HS := Bx.mk (HS.out.add hs);clear hs HF a;intro a HF
   try dsimp only [List.eraseIdx] at HS
   refine zm HF ?_;clear HF a;intro a HF
   refine za HF ?_;clear HF a;intro a HF
   refine za HF ?_;clear HF a;intro a HF
   refine wl_ne ?_
   refine wp_ret ?_
   refine bp_ret2 HF Tryz.results60 (HF.res rfl) (HF.res rfl) ?_
   exact .inr ⟨(leavesT_ok hsok).trans hlf, _, _, rfl, HS.out.bel⟩

noncomputable def okT (st : StoreD) (t : TreeD) : Bool := (leavesT st t).isSome
theorem okT_no {st : StoreD} {t : TreeD} (h : st.ok = false) : okT st t = false := by unfold okT; rw [leavesT_no h]; rfl
theorem okT_ok {st : StoreD} {t : TreeD} (h : st.ok = true) : okT st t = okS st t := by
  have h0 := (StoreD.ok_spec h).txg
  unfold okT
  rw [leavesT_ok h, okS_eq (by omega)]; rfl

theorem implTreeOk_any (a0 : Option Addr) (c0 : Nat) (a1 : Option Addr) (c1 : Nat) (a2 : Option Addr) (c2 : Nat) (a4 : Option Addr) (c4 : Nat) (a6 : Option Addr) (c6 : Nat) (st : StoreD) (t : TreeD) (w0 : World) (hT : TabP w0) (hM : MaxP w0) (hE : ErrP w0) (hV0 : StoreD.Reads w0 (.agg #[.slice a0 st.fRows.length c0, .slice a1 st.fSpace.fRefs.length c1, .slice a2 st.fSpace.fLast.length c2, .int .i64 st.fTxg, .slice a4 st.fGone.length c4, .int .i64 st.fKeep, .slice a6 st.fDead.length c6, .bool st.fSame]) st) (hf : st.Fit) : Calls Tryz.prog 34 #[.agg #[.slice a0 st.fRows.length c0, .slice a1 st.fSpace.fRefs.length c1, .slice a2 st.fSpace.fLast.length c2, .int .i64 st.fTxg, .slice a4 st.fGone.length c4, .int .i64 st.fKeep, .slice a6 st.fDead.length c6, .bool st.fSame], .agg #[.int .i64 t.fRoot.fAt, .int .i64 t.fRoot.fBirth, .int .i64 t.fRoot.fSize, .int .i64 t.fRoot.fSum, .int .i64 t.fRoot.fLevel, .int .i64 t.fDepth, .int .i64 t.fMany]] w0 fun e w' => e = .returned (.bool (okT st t)) ∧ Below w0.heap.size w0 w' := by
 have HT := Bx.mk hT; have HM := Bx.mk hM; have HE := Bx.mk hE; have hV := Bx.mk hV0; clear hT hM hE hV0
 have HS := Bx.mk (St.start w0)
 refine wc_enter Tryz.func34 rfl Tryz.ntmps34 [(0, .agg #[.slice a0 st.fRows.length c0, .slice a1 st.fSpace.fRefs.length c1, .slice a2 st.fSpace.fLast.length c2, .int .i64 st.fTxg, .slice a4 st.fGone.length c4, .int .i64 st.fKeep, .slice a6 st.fDead.length c6, .bool st.fSame]), (1, .agg #[.int .i64 t.fRoot.fAt, .int .i64 t.fRoot.fBirth, .int .i64 t.fRoot.fSize, .int .i64 t.fRoot.fSum, .int .i64 t.fRoot.fLevel, .int .i64 t.fDepth, .int .i64 t.fMany])] ⟨rfl, rfl, trivial⟩ rfl ?_; intro a HF
 refine wp_sr ?_
 refine wl_box rfl HF rfl (HF.ev rfl) (Z := [.slice a0 st.fRows.length c0, .slice a1 st.fSpace.fRefs.length c1, .slice a2 st.fSpace.fLast.length c2, .int .i64 st.fTxg, .slice a4 st.fGone.length c4, .int .i64 st.fKeep, .slice a6 st.fDead.length c6, .bool st.fSame]) rfl rfl rfl rfl HS.out ?_; clear HF HS a; intro a w1 b1 HF HS; replace HS := Bx.mk HS
 refine wl_box rfl HF rfl (HF.ev rfl) (Z := [.int .i64 t.fRoot.fAt, .int .i64 t.fRoot.fBirth, .int .i64 t.fRoot.fSize, .int .i64 t.fRoot.fSum, .int .i64 t.fRoot.fLevel, .int .i64 t.fDepth, .int .i64 t.fMany]) rfl rfl rfl rfl HS.out ?_; clear HF HS a; intro a w2 b2 HF HS; replace HS := Bx.mk HS
 refine za HF ?_;clear HF a;intro a HF
 refine wl_ne ?_
 refine wp_sr ?_
 refine zy HF (ylr (cs := [.slice a0 st.fRows.length c0, .slice a1 st.fSpace.fRefs.length c1, .slice a2 st.fSpace.fLast.length c2, .int .i64 st.fTxg, .slice a4 st.fGone.length c4, .int .i64 st.fKeep, .slice a6 st.fDead.length c6, .bool st.fSame]) rfl (HF.ev rfl) ((HS.out.box 1 rfl).sub 0 8)) ?_;clear HF a;intro a HF
 refine zy HF (ylr (cs := [.int .i64 t.fRoot.fAt, .int .i64 t.fRoot.fBirth, .int .i64 t.fRoot.fSize, .int .i64 t.fRoot.fSum, .int .i64 t.fRoot.fLevel, .int .i64 t.fDepth, .int .i64 t.fMany]) rfl (HF.ev rfl) ((HS.out.box 0 rfl).sub 0 7)) ?_;clear HF a;intro a HF
 refine wl_call rfl HF rfl (enter_of Tryz.func60 (by kernel_rfl) rfl) (args := #[.agg #[.slice a0 st.fRows.length c0, .slice a1 st.fSpace.fRefs.length c1, .slice a2 st.fSpace.fLast.length c2, .int .i64 st.fTxg, .slice a4 st.fGone.length c4, .int .i64 st.fKeep, .slice a6 st.fDead.length c6, .bool st.fSame], .agg #[.int .i64 t.fRoot.fAt, .int .i64 t.fRoot.fBirth, .int .i64 t.fRoot.fSize, .int .i64 t.fRoot.fSum, .int .i64 t.fRoot.fLevel, .int .i64 t.fDepth, .int .i64 t.fMany]]) rfl (treeLeaves_any a0 c0 a1 c1 a2 c2 a4 c4 a6 c6 st t _ (HT.out.below HS.out.bel) (HM.out.below HS.out.bel) (HE.out.below HS.out.bel) (hV.out.below HS.out.bel) hf) rfl rfl ?_
 rintro _ w3 (⟨l, hlf, ao, cp, rfl, hs1⟩ | ⟨hlf, ao, cp, rfl, hb⟩)
 ·skip
  refine ⟨_, rfl, ?_⟩; replace HS := Bx.mk (HS.out.add hs1);clear hs1 HF a;intro a HF
  try dsimp only [List.eraseIdx] at HS
  refine zm HF ?_;clear HF a;intro a HF
  refine zy HF (yl_extract rfl (HF.ev rfl) rfl) ?_;clear HF a;intro a HF
  refine zy HF (yl_extract rfl (HF.ev rfl) rfl) ?_;clear HF a;intro a HF
  refine za HF ?_;clear HF a;intro a HF
  refine za HF ?_;clear HF a;intro a HF
  refine wl_ne ?_
  refine wp_sr ?_
  refine zm HF ?_;clear HF a;intro a HF
  refine za HF ?_;clear HF a;intro a HF
  refine wl_ne ?_
  refine wp_ret ?_
  refine bp_ret1 HF Tryz.results34 (HF.res rfl) ?_
  have h : okT st t = true := by unfold okT; rw [hlf]; rfl
  exact ⟨by rw [h] <;> rfl, HS.out.bel⟩
 ·skip
  refine ⟨_, rfl, ?_⟩; replace HS := Bx.mk (HS.out.later hb);clear hb HF a;intro a HF
  refine zm HF ?_;clear HF a;intro a HF
  refine zy HF (yl_extract rfl (HF.ev rfl) rfl) ?_;clear HF a;intro a HF
  refine zy HF (yl_extract rfl (HF.ev rfl) rfl) ?_;clear HF a;intro a HF
  refine za HF ?_;clear HF a;intro a HF
  refine za HF ?_;clear HF a;intro a HF
  refine wl_ne ?_
  refine wp_sr ?_
  refine zm HF ?_;clear HF a;intro a HF
  refine za HF ?_;clear HF a;intro a HF
  refine wl_ne ?_
  refine wp_ret ?_
  refine bp_ret1 HF Tryz.results34 (HF.res rfl) ?_
  have h : okT st t = false := by unfold okT; rw [hlf]; rfl
  exact ⟨by rw [h] <;> rfl, HS.out.bel⟩

theorem specTreeOk_any (a0 : Option Addr) (c0 : Nat) (a1 : Option Addr) (c1 : Nat) (a2 : Option Addr) (c2 : Nat) (a4 : Option Addr) (c4 : Nat) (a6 : Option Addr) (c6 : Nat) (st : StoreD) (t : TreeD) (w0 : World) (hV0 : StoreD.Reads w0 (.agg #[.slice a0 st.fRows.length c0, .slice a1 st.fSpace.fRefs.length c1, .slice a2 st.fSpace.fLast.length c2, .int .i64 st.fTxg, .slice a4 st.fGone.length c4, .int .i64 st.fKeep, .slice a6 st.fDead.length c6, .bool st.fSame]) st) (hf : st.Fit) (hi : -9223372036854775808 ≤ st.fTxg) : Calls Tryz.prog 28 #[.agg #[.slice a0 st.fRows.length c0, .slice a1 st.fSpace.fRefs.length c1, .slice a2 st.fSpace.fLast.length c2, .int .i64 st.fTxg, .slice a4 st.fGone.length c4, .int .i64 st.fKeep, .slice a6 st.fDead.length c6, .bool st.fSame], .agg #[.int .i64 t.fRoot.fAt, .int .i64 t.fRoot.fBirth, .int .i64 t.fRoot.fSize, .int .i64 t.fRoot.fSum, .int .i64 t.fRoot.fLevel, .int .i64 t.fDepth, .int .i64 t.fMany]] w0 fun e w' => e = .returned (.bool (okT st t)) ∧ Below w0.heap.size w0 w' := by
 have hV := Bx.mk hV0; clear hV0
 have HS := Bx.mk (St.start w0)
 refine wc_enter Tryz.func28 rfl Tryz.ntmps28 [(0, .agg #[.slice a0 st.fRows.length c0, .slice a1 st.fSpace.fRefs.length c1, .slice a2 st.fSpace.fLast.length c2, .int .i64 st.fTxg, .slice a4 st.fGone.length c4, .int .i64 st.fKeep, .slice a6 st.fDead.length c6, .bool st.fSame]), (1, .agg #[.int .i64 t.fRoot.fAt, .int .i64 t.fRoot.fBirth, .int .i64 t.fRoot.fSize, .int .i64 t.fRoot.fSum, .int .i64 t.fRoot.fLevel, .int .i64 t.fDepth, .int .i64 t.fMany])] ⟨rfl, rfl, trivial⟩ rfl ?_; intro a HF
 refine wp_sr ?_
 refine wl_box rfl HF rfl (HF.ev rfl) (Z := [.slice a0 st.fRows.length c0, .slice a1 st.fSpace.fRefs.length c1, .slice a2 st.fSpace.fLast.length c2, .int .i64 st.fTxg, .slice a4 st.fGone.length c4, .int .i64 st.fKeep, .slice a6 st.fDead.length c6, .bool st.fSame]) rfl rfl rfl rfl HS.out ?_; clear HF HS a; intro a w1 b1 HF HS; replace HS := Bx.mk HS
 refine wl_box rfl HF rfl (HF.ev rfl) (Z := [.int .i64 t.fRoot.fAt, .int .i64 t.fRoot.fBirth, .int .i64 t.fRoot.fSize, .int .i64 t.fRoot.fSum, .int .i64 t.fRoot.fLevel, .int .i64 t.fDepth, .int .i64 t.fMany]) rfl rfl rfl rfl HS.out ?_; clear HF HS a; intro a w2 b2 HF HS; replace HS := Bx.mk HS
 refine za HF ?_;clear HF a;intro a HF
 refine wl_ne ?_
 refine wp_sr ?_
 refine zy HF (ylr (cs := [.slice a0 st.fRows.length c0, .slice a1 st.fSpace.fRefs.length c1, .slice a2 st.fSpace.fLast.length c2, .int .i64 st.fTxg, .slice a4 st.fGone.length c4, .int .i64 st.fKeep, .slice a6 st.fDead.length c6, .bool st.fSame]) rfl (HF.ev rfl) ((HS.out.box 1 rfl).sub 0 8)) ?_;clear HF a;intro a HF
 refine wl_callB rfl HF rfl (enter_of Tryz.func55 (by kernel_rfl) rfl) (args := #[.agg #[.slice a0 st.fRows.length c0, .slice a1 st.fSpace.fRefs.length c1, .slice a2 st.fSpace.fLast.length c2, .int .i64 st.fTxg, .slice a4 st.fGone.length c4, .int .i64 st.fKeep, .slice a6 st.fDead.length c6, .bool st.fSame]]) rfl (v := .bool st.ok) (specStoreOk_any _ st _ (hV.out.below HS.out.bel) hf hi) rfl rfl HS.out ?_; clear HF HS a; intro w3 a HS HF; replace HS := Bx.mk HS
 refine zm HF ?_;clear HF a;intro a HF
 refine HF.cases 7 rfl (fun cc1 _ => ?_) fun cc1 _ => ?_
 ·clear HF;rename_i HF
  have hsok := cc1
  refine zg HF (ylr (cs := [.slice a0 st.fRows.length c0, .slice a1 st.fSpace.fRefs.length c1, .slice a2 st.fSpace.fLast.length c2, .int .i64 st.fTxg, .slice a4 st.fGone.length c4, .int .i64 st.fKeep, .slice a6 st.fDead.length c6, .bool st.fSame]) rfl (HF.ev rfl) ((HS.out.box 1 rfl).sub 0 8)) ?_;clear HF a;intro a HF
  refine zg HF (ylr (cs := [.int .i64 t.fRoot.fAt, .int .i64 t.fRoot.fBirth, .int .i64 t.fRoot.fSize, .int .i64 t.fRoot.fSum, .int .i64 t.fRoot.fLevel, .int .i64 t.fDepth, .int .i64 t.fMany]) rfl (HF.ev rfl) ((HS.out.box 0 rfl).sub 0 7)) ?_;clear HF a;intro a HF
  refine wl_callBg HF rfl rfl rfl rfl (enter_of Tryz.func56 (by kernel_rfl) rfl) (args := #[.agg #[.slice a0 st.fRows.length c0, .slice a1 st.fSpace.fRefs.length c1, .slice a2 st.fSpace.fLast.length c2, .int .i64 st.fTxg, .slice a4 st.fGone.length c4, .int .i64 st.fKeep, .slice a6 st.fDead.length c6, .bool st.fSame], .agg #[.int .i64 t.fRoot.fAt, .int .i64 t.fRoot.fBirth, .int .i64 t.fRoot.fSize, .int .i64 t.fRoot.fSum, .int .i64 t.fRoot.fLevel, .int .i64 t.fDepth, .int .i64 t.fMany]]) rfl (v := .bool (okS st t)) (l8Ok_any a0 c0 a1 c1 a2 c2 a4 c4 a6 c6 st t _ ((reads_rows hV.out).below HS.out.bel) (ok_rows hsok)) rfl rfl HS.out ?_; clear HF HS a; intro w4 a HS HF; replace HS := Bx.mk HS
  refine zy HF (yl_pick_t rfl (HF.ev rfl) (HF.ev rfl)) ?_;clear HF a;intro a HF
  refine za HF ?_;clear HF a;intro a HF
  refine wl_ne ?_
  refine wp_ret ?_
  refine bp_ret1 HF Tryz.results28 (HF.res rfl) ?_
  exact ⟨by rw [okT_ok hsok], HS.out.bel⟩
 ·clear HF;rename_i HF
  have hsok := cc1
  refine zk HF ?_;clear HF a;intro a HF
  refine zk HF ?_;clear HF a;intro a HF
  refine zk HF ?_;clear HF a;intro a HF
  refine zy HF (yl_pick_f rfl (HF.ev rfl) (HF.ev rfl)) ?_;clear HF a;intro a HF
  refine za HF ?_;clear HF a;intro a HF
  refine wl_ne ?_
  refine wp_ret ?_
  refine bp_ret1 HF Tryz.results28 (HF.res rfl) ?_
  exact ⟨by rw [okT_no hsok], HS.out.bel⟩

end Go.Proofs.YtebpodlkndnepaaGreatDoor

/- All pointers of a tree: walked. -/
namespace Go.Proofs.YtebpodlkndnepaaGreatDoor
set_option linter.unusedVariables false
set_option linter.unusedSimpArgs false
set_option maxHeartbeats 1000000
set_option maxRecDepth 100000
open Go.RowKit

/-- How many pointers there are at most at a level and below. -/
def wg : Nat → Nat
  | 0 => 1
  | n + 1 => 1 + 4 * wg n
theorem mul_room {k m : Nat} (h : k < 4) : k * m + m ≤ 4 * m := by
  have := Nat.mul_le_mul_right m (show k + 1 ≤ 4 by omega)
  rw [Nat.succ_mul] at this
  exact this
theorem flat_le {vis : PtrD → List PtrD} (h : ∀ p, (vis p).length ≤ 1) : ∀ l : List PtrD, (l.flatMap vis).length ≤ l.length
  | [] => Nat.le_refl _
  | p :: r => by
    rw [List.flatMap_cons, List.length_append, List.length_cons]
    have := flat_le h r
    have := h p
    omega
theorem flat_many {f : PtrD → List PtrD} {m : Nat} : ∀ {l : List PtrD}, (∀ p ∈ l, (f p).length ≤ m) → (l.flatMap f).length ≤ l.length * m
  | [], _ => by simp
  | p :: r, h => by
    rw [List.flatMap_cons, List.length_append, List.length_cons, Nat.succ_mul]
    have := flat_many fun q hq => h q (List.mem_cons_of_mem _ hq)
    have := h p (List.mem_cons_self ..)
    omega
theorem allL_len {st : StoreD} : ∀ {n : Nat} {p : PtrD}, Wf st n p → (allL st n p).length ≤ wg n
  | 0, p, _ => by
    cases hh : p.hole with
    | true => rw [allL_hole hh]; exact Nat.zero_le _
    | false => rw [allL_zero hh]; exact Nat.le_refl _
  | n + 1, p, ⟨_, _, l, hk, hw⟩ => by
    cases hh : p.hole with
    | true => rw [allL_hole hh]; exact Nat.zero_le _
    | false =>
      rw [allL_succ hh hk, List.length_cons]
      have h1 := flat_many (f := allL st n) (m := wg n) fun q hq => allL_len (hw q hq)
      rw [kids_len hk] at h1
      show _ ≤ 1 + 4 * wg n
      omega

theorem walk0_any (a0 : Option Addr) (c0 : Nat) (a1 : Option Addr) (c1 : Nat) (a2 : Option Addr) (c2 : Nat) (a4 : Option Addr) (c4 : Nat) (a6 : Option Addr) (c6 : Nat) (st : StoreD)  (w0 : World) (V : List PtrD → Asr) (vis : PtrD → List PtrD) (f : FuncId) (caps : Array Value) (HE0 : ∀ (args : Array Value) (w : World), (callFunc f args).run Tryz.prog w = .ok (.enter f args) w) (hvis : ∀ (p : PtrD) (xs : List PtrD) (F : List Asr) (w : World), xs.length ≤ 100 → St w0 (V xs :: F) w → Calls Tryz.prog f (#[] ++ #[.agg #[.int .i64 p.fAt, .int .i64 p.fBirth, .int .i64 p.fSize, .int .i64 p.fSum, .int .i64 p.fLevel]] ++ caps) w fun e w' => e = .returned (.tuple #[]) ∧ St w0 (V (xs ++ vis p) :: F) w') (hvl : ∀ p, (vis p).length ≤ 1) (hT : TabP w0) (hM : MaxP w0) (hE : ErrP w0) (hR : Rd encS 1 w0 a0 st.fRows.length st.fRows) (hrow : RowsOk st) (b : Nat) : ∀ (p : PtrD) (xs : List PtrD) (F : List Asr) (w : World), 0 ≤ 2 → xs.length + wg 0 ≤ 100 → Wf st 0 p → St w0 (V xs :: boxA b 8 39 (.agg #[.slice a0 st.fRows.length c0, .slice a1 st.fSpace.fRefs.length c1, .slice a2 st.fSpace.fLast.length c2, .int .i64 st.fTxg, .slice a4 st.fGone.length c4, .int .i64 st.fKeep, .slice a6 st.fDead.length c6, .bool st.fSame]) :: F) w → Calls Tryz.prog 61 #[.pointer (some ⟨b, 0, none⟩), .agg #[.int .i64 p.fAt, .int .i64 p.fBirth, .int .i64 p.fSize, .int .i64 p.fSum, .int .i64 p.fLevel], .int .i64 ((0 : Nat) : Int), .func (.func f) #[] caps] w fun e w' => e = .returned (.tuple #[]) ∧ St w0 (V (xs ++ (allL st 0 p).flatMap vis) :: boxA b 8 39 (.agg #[.slice a0 st.fRows.length c0, .slice a1 st.fSpace.fRefs.length c1, .slice a2 st.fSpace.fLast.length c2, .int .i64 st.fTxg, .slice a4 st.fGone.length c4, .int .i64 st.fKeep, .slice a6 st.fDead.length c6, .bool st.fSame]) :: F) w' := by
 have HT := Bx.mk hT; have HM := Bx.mk hM; have HE := Bx.mk hE; have HR := Bx.mk hR; have HVI := Bx.mk hvis; clear hT hM hE hR hvis
 intro p xs F w hn2 hwg hwf hS; have hwgn : wg 0 = 1 := rfl
 have HS := Bx.mk hS; clear hS
 refine wc_enter Tryz.func61 rfl Tryz.ntmps61 [(0, .pointer (some ⟨b, 0, none⟩)), (1, .agg #[.int .i64 p.fAt, .int .i64 p.fBirth, .int .i64 p.fSize, .int .i64 p.fSum, .int .i64 p.fLevel]), (2, .int .i64 ((0 : Nat) : Int)), (3, .func (.func f) #[] caps)] ⟨rfl, rfl, rfl, rfl, trivial⟩ rfl ?_; intro a HF
 refine wp_sr ?_
 refine wl_box rfl HF rfl (HF.ev rfl) (Z := [.int .i64 p.fAt, .int .i64 p.fBirth, .int .i64 p.fSize, .int .i64 p.fSum, .int .i64 p.fLevel]) rfl rfl rfl rfl HS.out ?_; clear HF HS a; intro a w1 b1 HF HS; replace HS := Bx.mk HS
 refine wl_ne ?_
 refine wp_seq ?_
 refine wp_sr ?_
 refine zy HF (ylr (cs := [.int .i64 p.fAt, .int .i64 p.fBirth, .int .i64 p.fSize, .int .i64 p.fSum, .int .i64 p.fLevel]) rfl (HF.ev rfl) ((HS.out.box 0 rfl).sub 0 5)) ?_;clear HF a;intro a HF
 refine wl_callB rfl HF rfl (enter_of Tryz.func89 (by kernel_rfl) rfl) (args := #[.agg #[.int .i64 p.fAt, .int .i64 p.fBirth, .int .i64 p.fSize, .int .i64 p.fSum, .int .i64 p.fLevel]]) rfl (v := .bool p.hole) (implHole_any p _) rfl rfl HS.out ?_; clear HF HS a; intro w2 a HS HF; replace HS := Bx.mk HS
 refine wl_ne ?_
 refine HF.cases 13 rfl (fun cc1 _ => ?_) fun cc1 _ => ?_
 ·clear HF;rename_i HF
  refine wc_true HF rfl ?_
  refine wp_ret ?_
  refine ex_then_ret ?_
  refine bp_ret0 HF Tryz.results61  ?_
  replace HS:=Bx.mk ((HS.out.pick 2 rfl).pick 2 rfl)
  exact ⟨rfl, by rw [allL_hole cc1, List.flatMap_nil, List.append_nil]; exact (HS.out.erase 2)⟩
 ·clear HF;rename_i HF
  refine wc_false HF rfl ?_
  refine wp_skip ?_
  refine ex_then ?_
  refine wp_sr ?_
  refine zm HF ?_;clear HF a;intro a HF
  refine zy HF (ylr (cs := [.int .i64 p.fAt, .int .i64 p.fBirth, .int .i64 p.fSize, .int .i64 p.fSum, .int .i64 p.fLevel]) rfl (HF.ev rfl) ((HS.out.box 0 rfl).sub 0 5)) ?_;clear HF a;intro a HF
  replace HS:=Bx.mk (HS.out.pick 1 rfl)
  refine wl_callv rfl HF rfl (HF.ev rfl) HE0 (args := #[.agg #[.int .i64 p.fAt, .int .i64 p.fBirth, .int .i64 p.fSize, .int .i64 p.fSum, .int .i64 p.fLevel]]) rfl (HVI.out p xs _ _ (by omega) HS.out) rfl rfl ?_
  rintro _ w3 ⟨rfl, hs1⟩
  refine ⟨_, rfl, ?_⟩; replace HS := Bx.mk hs1;clear hs1 HF a;intro a HF
  try dsimp only [List.eraseIdx] at HS
  refine wl_ne ?_
  refine wp_sr ?_
  refine zm HF ?_;clear HF a;intro a HF
  refine zy HF (yl_gtrI rfl (HF.ev rfl) (HF.ev rfl)) ?_;clear HF a;intro a HF
  refine wl_ne ?_
  refine HF.cases 18 rfl (fun cc2 _ => ?_) fun cc2 _ => ?_
  ·clear HF;rename_i HF
   have dcc2 := of_decide_eq_true cc2
   exact absurd dcc2 (by omega)
  ·clear HF;rename_i HF
   have dcc2 := of_decide_eq_false cc2
   refine wc_false HF rfl ?_
   refine wp_skip ?_
   refine bp_end0 HF Tryz.results61 ?_
   replace HS:=Bx.mk ((HS.out.pick 2 rfl).pick 1 rfl)
   exact ⟨rfl, by rw [allL_zero cc1, List.flatMap_cons, List.flatMap_nil, List.append_nil]; exact (HS.out.erase 2)⟩

theorem take_snocP {l : List PtrD} {k : Nat} (h : k < l.length) : l.take (k + 1) = l.take k ++ [l.getD k PtrD.zero] := by
  rw [List.take_succ_eq_append_getElem h, List.getD_eq_getElem?_getD, List.getElem?_eq_getElem h]; rfl

theorem walk1_any (a0 : Option Addr) (c0 : Nat) (a1 : Option Addr) (c1 : Nat) (a2 : Option Addr) (c2 : Nat) (a4 : Option Addr) (c4 : Nat) (a6 : Option Addr) (c6 : Nat) (st : StoreD)  (w0 : World) (V : List PtrD → Asr) (vis : PtrD → List PtrD) (f : FuncId) (caps : Array Value) (HE0 : ∀ (args : Array Value) (w : World), (callFunc f args).run Tryz.prog w = .ok (.enter f args) w) (hvis : ∀ (p : PtrD) (xs : List PtrD) (F : List Asr) (w : World), xs.length ≤ 100 → St w0 (V xs :: F) w → Calls Tryz.prog f (#[] ++ #[.agg #[.int .i64 p.fAt, .int .i64 p.fBirth, .int .i64 p.fSize, .int .i64 p.fSum, .int .i64 p.fLevel]] ++ caps) w fun e w' => e = .returned (.tuple #[]) ∧ St w0 (V (xs ++ vis p) :: F) w') (hvl : ∀ p, (vis p).length ≤ 1) (hT : TabP w0) (hM : MaxP w0) (hE : ErrP w0) (hR : Rd encS 1 w0 a0 st.fRows.length st.fRows) (hrow : RowsOk st) (b : Nat) (n : Nat) (ih : ∀ (p : PtrD) (xs : List PtrD) (F : List Asr) (w : World), n ≤ 2 → xs.length + wg n ≤ 100 → Wf st n p → St w0 (V xs :: boxA b 8 39 (.agg #[.slice a0 st.fRows.length c0, .slice a1 st.fSpace.fRefs.length c1, .slice a2 st.fSpace.fLast.length c2, .int .i64 st.fTxg, .slice a4 st.fGone.length c4, .int .i64 st.fKeep, .slice a6 st.fDead.length c6, .bool st.fSame]) :: F) w → Calls Tryz.prog 61 #[.pointer (some ⟨b, 0, none⟩), .agg #[.int .i64 p.fAt, .int .i64 p.fBirth, .int .i64 p.fSize, .int .i64 p.fSum, .int .i64 p.fLevel], .int .i64 ((n : Nat) : Int), .func (.func f) #[] caps] w fun e w' => e = .returned (.tuple #[]) ∧ St w0 (V (xs ++ (allL st n p).flatMap vis) :: boxA b 8 39 (.agg #[.slice a0 st.fRows.length c0, .slice a1 st.fSpace.fRefs.length c1, .slice a2 st.fSpace.fLast.length c2, .int .i64 st.fTxg, .slice a4 st.fGone.length c4, .int .i64 st.fKeep, .slice a6 st.fDead.length c6, .bool st.fSame]) :: F) w') : ∀ (p : PtrD) (xs : List PtrD) (F : List Asr) (w : World), (n + 1) ≤ 2 → xs.length + wg (n + 1) ≤ 100 → Wf st (n + 1) p → St w0 (V xs :: boxA b 8 39 (.agg #[.slice a0 st.fRows.length c0, .slice a1 st.fSpace.fRefs.length c1, .slice a2 st.fSpace.fLast.length c2, .int .i64 st.fTxg, .slice a4 st.fGone.length c4, .int .i64 st.fKeep, .slice a6 st.fDead.length c6, .bool st.fSame]) :: F) w → Calls Tryz.prog 61 #[.pointer (some ⟨b, 0, none⟩), .agg #[.int .i64 p.fAt, .int .i64 p.fBirth, .int .i64 p.fSize, .int .i64 p.fSum, .int .i64 p.fLevel], .int .i64 (((n + 1) : Nat) : Int), .func (.func f) #[] caps] w fun e w' => e = .returned (.tuple #[]) ∧ St w0 (V (xs ++ (allL st (n + 1) p).flatMap vis) :: boxA b 8 39 (.agg #[.slice a0 st.fRows.length c0, .slice a1 st.fSpace.fRefs.length c1, .slice a2 st.fSpace.fLast.length c2, .int .i64 st.fTxg, .slice a4 st.fGone.length c4, .int .i64 st.fKeep, .slice a6 st.fDead.length c6, .bool st.fSame]) :: F) w' := by
 have HT := Bx.mk hT; have HM := Bx.mk hM; have HE := Bx.mk hE; have HR := Bx.mk hR; have HVI := Bx.mk hvis; clear hT hM hE hR hvis
 intro p xs F w hn2 hwg hwf hS; have hwgn : wg 0 = 1 := rfl
 have HS := Bx.mk hS; clear hS
 refine wc_enter Tryz.func61 rfl Tryz.ntmps61 [(0, .pointer (some ⟨b, 0, none⟩)), (1, .agg #[.int .i64 p.fAt, .int .i64 p.fBirth, .int .i64 p.fSize, .int .i64 p.fSum, .int .i64 p.fLevel]), (2, .int .i64 ((n + 1 : Nat) : Int)), (3, .func (.func f) #[] caps)] ⟨rfl, rfl, rfl, rfl, trivial⟩ rfl ?_; intro a HF
 refine wp_sr ?_
 refine wl_box rfl HF rfl (HF.ev rfl) (Z := [.int .i64 p.fAt, .int .i64 p.fBirth, .int .i64 p.fSize, .int .i64 p.fSum, .int .i64 p.fLevel]) rfl rfl rfl rfl HS.out ?_; clear HF HS a; intro a w1 b1 HF HS; replace HS := Bx.mk HS
 refine wl_ne ?_
 refine wp_seq ?_
 refine wp_sr ?_
 refine zy HF (ylr (cs := [.int .i64 p.fAt, .int .i64 p.fBirth, .int .i64 p.fSize, .int .i64 p.fSum, .int .i64 p.fLevel]) rfl (HF.ev rfl) ((HS.out.box 0 rfl).sub 0 5)) ?_;clear HF a;intro a HF
 refine wl_callB rfl HF rfl (enter_of Tryz.func89 (by kernel_rfl) rfl) (args := #[.agg #[.int .i64 p.fAt, .int .i64 p.fBirth, .int .i64 p.fSize, .int .i64 p.fSum, .int .i64 p.fLevel]]) rfl (v := .bool p.hole) (implHole_any p _) rfl rfl HS.out ?_; clear HF HS a; intro w2 a HS HF; replace HS := Bx.mk HS
 refine wl_ne ?_
 refine HF.cases 13 rfl (fun cc1 _ => ?_) fun cc1 _ => ?_
 ·clear HF;rename_i HF
  refine wc_true HF rfl ?_
  refine wp_ret ?_
  refine ex_then_ret ?_
  refine bp_ret0 HF Tryz.results61  ?_
  replace HS:=Bx.mk ((HS.out.pick 2 rfl).pick 2 rfl)
  exact ⟨rfl, by rw [allL_hole cc1, List.flatMap_nil, List.append_nil]; exact (HS.out.erase 2)⟩
 ·clear HF;rename_i HF
  refine wc_false HF rfl ?_
  refine wp_skip ?_
  refine ex_then ?_
  refine wp_sr ?_
  refine zm HF ?_;clear HF a;intro a HF
  refine zy HF (ylr (cs := [.int .i64 p.fAt, .int .i64 p.fBirth, .int .i64 p.fSize, .int .i64 p.fSum, .int .i64 p.fLevel]) rfl (HF.ev rfl) ((HS.out.box 0 rfl).sub 0 5)) ?_;clear HF a;intro a HF
  replace HS:=Bx.mk (HS.out.pick 1 rfl)
  refine wl_callv rfl HF rfl (HF.ev rfl) HE0 (args := #[.agg #[.int .i64 p.fAt, .int .i64 p.fBirth, .int .i64 p.fSize, .int .i64 p.fSum, .int .i64 p.fLevel]]) rfl (HVI.out p xs _ _ (by omega) HS.out) rfl rfl ?_
  rintro _ w3 ⟨rfl, hs1⟩
  refine ⟨_, rfl, ?_⟩; replace HS := Bx.mk hs1;clear hs1 HF a;intro a HF
  try dsimp only [List.eraseIdx] at HS
  refine wl_ne ?_
  refine wp_sr ?_
  refine zm HF ?_;clear HF a;intro a HF
  refine zy HF (yl_gtrI rfl (HF.ev rfl) (HF.ev rfl)) ?_;clear HF a;intro a HF
  refine wl_ne ?_
  refine HF.cases 18 rfl (fun cc2 _ => ?_) fun cc2 _ => ?_
  ·clear HF;rename_i HF
   have dcc2 := of_decide_eq_true cc2
   refine wc_true HF rfl ?_
   refine wp_sr ?_
   refine zm HF ?_;clear HF a;intro a HF
   refine zy HF (ylr (cs := [.int .i64 p.fAt, .int .i64 p.fBirth, .int .i64 p.fSize, .int .i64 p.fSum, .int .i64 p.fLevel]) rfl (HF.ev rfl) ((HS.out.box 1 rfl).sub 0 5)) ?_;clear HF a;intro a HF
   refine zm HF ?_;clear HF a;intro a HF
   refine wl_call rfl HF rfl (enter_of Tryz.func90 (by kernel_rfl) rfl) (args := #[.pointer (some ⟨b, 0, none⟩), .agg #[.int .i64 p.fAt, .int .i64 p.fBirth, .int .i64 p.fSize, .int .i64 p.fSum, .int .i64 p.fLevel], .int .i64 ((n + 1 : Nat) : Int)]) rfl (fanOf_any a0 c0 a1 c1 a2 c2 a4 c4 a6 c6 st p ((n + 1 : Nat) : Int) b _ (HT.out.below HS.out.bel) (HM.out.below HS.out.bel) (HE.out.below HS.out.bel) (HS.out.box 2 rfl) (HR.out.below HS.out.bel) hrow hwf.ok.1) rfl rfl ?_
   rintro _ w4 (⟨l2, hk2, ao2, cp2, rfl, hs1⟩ | ⟨hk2, ao2, nn2, cp2, rfl, hb⟩)
   ·skip
    have hll2 := kids_len hk2
    refine ⟨_, rfl, ?_⟩; replace HS := Bx.mk (HS.out.add hs1);clear hs1 HF a;intro a HF
    try dsimp only [List.eraseIdx] at HS
    refine zm HF ?_;clear HF a;intro a HF
    refine zy HF (yl_extract rfl (HF.ev rfl) rfl) ?_;clear HF a;intro a HF
    refine zy HF (yl_extract rfl (HF.ev rfl) rfl) ?_;clear HF a;intro a HF
    refine za HF ?_;clear HF a;intro a HF
    refine za HF ?_;clear HF a;intro a HF
    refine wl_ne ?_
    refine wp_seq ?_
    have hwg1 : wg (n + 1) = 1 + 4 * wg n := rfl; have hkw : ∀ q ∈ l2, Wf st n q := by obtain ⟨_, _, l, hkl, hw⟩ := hwf; rw [hkl] at hk2; obtain rfl := Option.some.inj hk2; exact hw
    refine wp_region_lit ?_
    refine zm HF ?_;clear HF a;intro a HF
    refine zy HF (yl_lenL (e := 41) (size := 5) rfl (HF.ev rfl) (by kernel_rfl)) ?_;clear HF a;intro a HF
    refine zm HF ?_;clear HF a;intro a HF
    refine wl_ne ?_
    refine wp_block ?_
    refine wc_loop (ι := Nat) (fun k a w => ∃ (zs : List PtrD), (k ≤ l2.length ∧ zs = xs ++ (p :: (l2.take k).flatMap (allL st n)).flatMap vis ∧ zs.length ≤ xs.length + 1 + k * wg n) ∧ Fr 39 a [(0, .pointer (some ⟨b, 0, none⟩)), (2, .int .i64 ((n + 1 : Nat) : Int)), (3, .func (.func f) #[] caps), (5, .pointer (some ⟨b1, 0, none⟩)), (26, .slice ao2 l2.length cp2), (27, .int .i64 (l2.length : Int)), (28, .int .i64 (k : Int))] ∧ St w0 (rowA PtrD.cells 5 41 (.slice ao2 l2.length cp2) l2 :: V zs :: boxA b1 5 41 (.agg #[.int .i64 p.fAt, .int .i64 p.fBirth, .int .i64 p.fSize, .int .i64 p.fSum, .int .i64 p.fLevel]) :: boxA b 8 39 (.agg #[.slice a0 st.fRows.length c0, .slice a1 st.fSpace.fRefs.length c1, .slice a2 st.fSpace.fLast.length c2, .int .i64 st.fTxg, .slice a4 st.fGone.length c4, .int .i64 st.fKeep, .slice a6 st.fDead.length c6, .bool st.fSame]) :: F) w) (fun k => l2.length - k) 0 ⟨xs ++ vis p, ⟨Nat.zero_le _, by simp, by have := hvl p; rw [List.length_append]; omega⟩, HF.less _ ⟨rfl, rfl, rfl, rfl, rfl, rfl, rfl, trivial⟩, HS.out⟩ ?_
    clear HF HS; clear a
    rintro k a w5 ⟨zs, ⟨hk, hz, hzl⟩, HF, HS⟩
    replace HS := Bx.mk HS
    refine wp_sr ?_
    refine zy HF (yl_lssI rfl (HF.ev rfl) (HF.ev rfl)) ?_;clear HF a;intro a HF
    refine wl_ne ?_
    refine wp_seq ?_
    refine HF.cases 29 rfl (fun cc3 _ => ?_) fun cc3 _ => ?_
    ·clear HF;rename_i HF
     have dcc3 := of_decide_eq_true cc3
     refine wc_true HF rfl ?_
     refine wp_skip ?_
     refine ex_then ?_
     refine wp_seq ?_
     refine wp_block ?_
     refine wp_seq ?_
     obtain ⟨g3, rfl, _, _, _, _⟩ := HS.out.rowOpen 0 rfl (by omega)
     refine wp_region_lit ?_
     refine zy HF (yl_indexAddr (e := 41) (i := k) (size := 5) rfl (HF.ev rfl) (HF.ev rfl) (by kernel_rfl) rfl (by omega)) ?_;clear HF a;intro a HF
     refine zy HF (ylr (cs := [.int .i64 ((l2.getD k PtrD.zero).fAt), .int .i64 ((l2.getD k PtrD.zero).fBirth), .int .i64 ((l2.getD k PtrD.zero).fSize), .int .i64 ((l2.getD k PtrD.zero).fSum), .int .i64 ((l2.getD k PtrD.zero).fLevel)]) rfl (HF.ev rfl) (HS.out.elem PtrD.cells_len 0 rfl (get_getD (xs := l2) (j := k) (d := PtrD.zero) (by omega)))) ?_;clear HF a;intro a HF
     refine wl_alloc rfl HF rfl rfl rfl (Z := [.int .i64 0, .int .i64 0, .int .i64 0, .int .i64 0, .int .i64 0]) (by kernel_rfl) rfl HS.out ?_; clear HF HS a; intro a w6 b4 HF HS; replace HS := Bx.mk HS
     refine wl_storeBox rfl HF rfl rfl (HF.ev rfl) (HF.ev rfl) HS.out 0 rfl (cells_lit [.int .i64 ((l2.getD k PtrD.zero).fAt), .int .i64 ((l2.getD k PtrD.zero).fBirth), .int .i64 ((l2.getD k PtrD.zero).fSize), .int .i64 ((l2.getD k PtrD.zero).fSum), .int .i64 ((l2.getD k PtrD.zero).fLevel)] rfl rfl) (by kernel_rfl) ?_; clear HS; intro w7 HS; replace HS := Bx.mk HS
     have HS : Bx (St w0 (boxA b4 5 41 (.agg #[.int .i64 ((l2.getD k PtrD.zero).fAt), .int .i64 ((l2.getD k PtrD.zero).fBirth), .int .i64 ((l2.getD k PtrD.zero).fSize), .int .i64 ((l2.getD k PtrD.zero).fSum), .int .i64 ((l2.getD k PtrD.zero).fLevel)]) :: rowA PtrD.cells 5 41 (.slice (some ⟨g3, 0, none⟩) l2.length cp2) l2 :: V zs :: boxA b1 5 41 (.agg #[.int .i64 p.fAt, .int .i64 p.fBirth, .int .i64 p.fSize, .int .i64 p.fSum, .int .i64 p.fLevel]) :: boxA b 8 39 (.agg #[.slice a0 st.fRows.length c0, .slice a1 st.fSpace.fRefs.length c1, .slice a2 st.fSpace.fLast.length c2, .int .i64 st.fTxg, .slice a4 st.fGone.length c4, .int .i64 st.fKeep, .slice a6 st.fDead.length c6, .bool st.fSame]) :: F) _) := HS
     refine wl_ne ?_
     refine wp_region_lit ?_
     refine zm HF ?_;clear HF a;intro a HF
     refine zy HF (ylr (cs := [.int .i64 ((l2.getD k PtrD.zero).fAt), .int .i64 ((l2.getD k PtrD.zero).fBirth), .int .i64 ((l2.getD k PtrD.zero).fSize), .int .i64 ((l2.getD k PtrD.zero).fSum), .int .i64 ((l2.getD k PtrD.zero).fLevel)]) rfl (HF.ev rfl) ((HS.out.box 0 rfl).sub 0 5)) ?_;clear HF a;intro a HF
     refine zm HF ?_;clear HF a;intro a HF
     refine zy HF (yl_subI (r := ((n : Nat) : Int)) rfl (HF.ev rfl) (HF.ev rfl) ((i64w (by omega)).trans (by omega))) ?_;clear HF a;intro a HF
     refine zm HF ?_;clear HF a;intro a HF
     replace HS:=Bx.mk ((HS.out.pick 4 rfl).pick 3 rfl)
     refine wl_call rfl HF rfl (enter_of Tryz.func61 (by kernel_rfl) rfl) (args := #[.pointer (some ⟨b, 0, none⟩), .agg #[.int .i64 ((l2.getD k PtrD.zero).fAt), .int .i64 ((l2.getD k PtrD.zero).fBirth), .int .i64 ((l2.getD k PtrD.zero).fSize), .int .i64 ((l2.getD k PtrD.zero).fSum), .int .i64 ((l2.getD k PtrD.zero).fLevel)], .int .i64 ((n : Nat) : Int), .func (.func f) #[] caps]) rfl (ih (l2.getD k PtrD.zero) zs _ _ (by omega) (by have := mul_room (m := wg n) (show k < 4 by omega); omega) (hkw _ (getD_mem (by omega))) HS.out) rfl rfl ?_
     rintro _ w8 ⟨rfl, hs1⟩
     refine ⟨_, rfl, ?_⟩; replace HS := Bx.mk hs1;clear hs1 HF a;intro a HF
     try dsimp only [List.eraseIdx] at HS
     refine wpList_nil ?_
     refine ex_block ?_
     refine ex_then ?_
     refine wp_region_lit ?_
     refine zy HF (yl_addI rfl (HF.ev rfl) (HF.ev rfl) (i64w (by omega))) ?_;clear HF a;intro a HF
     refine zm HF ?_;clear HF a;intro a HF
     refine wl_ne ?_
     have hz2 : zs ++ (allL st n (l2.getD k PtrD.zero)).flatMap vis = xs ++ (p :: (l2.take (k + 1)).flatMap (allL st n)).flatMap vis := by rw [hz, take_snocP (show k < l2.length by omega), List.flatMap_append]; simp [List.flatMap_cons, List.flatMap_append, List.append_assoc]
     have hzl2 : (zs ++ (allL st n (l2.getD k PtrD.zero)).flatMap vis).length ≤ xs.length + 1 + (k + 1) * wg n := by have h1 := flat_le hvl (allL st n (l2.getD k PtrD.zero)); have h2 := allL_len (hkw _ (getD_mem (show k < l2.length by omega))); rw [List.length_append, Nat.succ_mul]; omega
     replace HS:=Bx.mk ((((HS.out.pick 1 rfl).pick 4 rfl).pick 2 rfl).pick 4 rfl)
     exact ⟨k + 1, ⟨_, ⟨by omega, hz2, hzl2⟩, HF.less _ ⟨rfl, rfl, rfl, rfl, rfl, rfl, rfl, trivial⟩, (HS.out.erase 4)⟩, (by omega)⟩
    ·clear HF;rename_i HF
     have dcc3 := of_decide_eq_false cc3
     refine wc_false HF rfl ?_
     refine wp_exit ?_
     refine ex_then_exit ?_
     refine ex_then_exit ?_
     refine ex_block_hit ?_
     refine bp_end0 HF Tryz.results61 ?_
     replace HS:=Bx.mk ((HS.out.pick 3 rfl).pick 2 rfl)
     have hkl : k = l2.length := by omega
     have hfin : zs = xs ++ (allL st (n + 1) p).flatMap vis := by rw [hz, allL_succ cc1 hk2, hkl, List.take_length]
     rw [← hfin]; exact ⟨rfl, ((HS.out.erase 3).erase 2)⟩
   ·skip
    refine ⟨_, rfl, ?_⟩; replace HS := Bx.mk (HS.out.later hb);clear hb HF a;intro a HF
    obtain ⟨_, _, l, hkl, _⟩ := hwf; rw [hkl] at hk2; cases hk2
  ·clear HF;rename_i HF
   have dcc2 := of_decide_eq_false cc2
   exact absurd dcc2 (by omega)

theorem walk_any (a0 : Option Addr) (c0 : Nat) (a1 : Option Addr) (c1 : Nat) (a2 : Option Addr) (c2 : Nat) (a4 : Option Addr) (c4 : Nat) (a6 : Option Addr) (c6 : Nat) (st : StoreD)  (w0 : World) (V : List PtrD → Asr) (vis : PtrD → List PtrD) (f : FuncId) (caps : Array Value) (HE0 : ∀ (args : Array Value) (w : World), (callFunc f args).run Tryz.prog w = .ok (.enter f args) w) (hvis : ∀ (p : PtrD) (xs : List PtrD) (F : List Asr) (w : World), xs.length ≤ 100 → St w0 (V xs :: F) w → Calls Tryz.prog f (#[] ++ #[.agg #[.int .i64 p.fAt, .int .i64 p.fBirth, .int .i64 p.fSize, .int .i64 p.fSum, .int .i64 p.fLevel]] ++ caps) w fun e w' => e = .returned (.tuple #[]) ∧ St w0 (V (xs ++ vis p) :: F) w') (hvl : ∀ p, (vis p).length ≤ 1) (hT : TabP w0) (hM : MaxP w0) (hE : ErrP w0) (hR : Rd encS 1 w0 a0 st.fRows.length st.fRows) (hrow : RowsOk st) (b : Nat) : ∀ n : Nat, ∀ (p : PtrD) (xs : List PtrD) (F : List Asr) (w : World), n ≤ 2 → xs.length + wg n ≤ 100 → Wf st n p → St w0 (V xs :: boxA b 8 39 (.agg #[.slice a0 st.fRows.length c0, .slice a1 st.fSpace.fRefs.length c1, .slice a2 st.fSpace.fLast.length c2, .int .i64 st.fTxg, .slice a4 st.fGone.length c4, .int .i64 st.fKeep, .slice a6 st.fDead.length c6, .bool st.fSame]) :: F) w → Calls Tryz.prog 61 #[.pointer (some ⟨b, 0, none⟩), .agg #[.int .i64 p.fAt, .int .i64 p.fBirth, .int .i64 p.fSize, .int .i64 p.fSum, .int .i64 p.fLevel], .int .i64 ((n : Nat) : Int), .func (.func f) #[] caps] w fun e w' => e = .returned (.tuple #[]) ∧ St w0 (V (xs ++ (allL st n p).flatMap vis) :: boxA b 8 39 (.agg #[.slice a0 st.fRows.length c0, .slice a1 st.fSpace.fRefs.length c1, .slice a2 st.fSpace.fLast.length c2, .int .i64 st.fTxg, .slice a4 st.fGone.length c4, .int .i64 st.fKeep, .slice a6 st.fDead.length c6, .bool st.fSame]) :: F) w'
  | 0 => walk0_any a0 c0 a1 c1 a2 c2 a4 c4 a6 c6 st w0 V vis f caps HE0 hvis hvl hT hM hE hR hrow b
  | n + 1 => walk1_any a0 c0 a1 c1 a2 c2 a4 c4 a6 c6 st w0 V vis f caps HE0 hvis hvl hT hM hE hR hrow b n (fun p xs F w hn => walk_any a0 c0 a1 c1 a2 c2 a4 c4 a6 c6 st w0 V vis f caps HE0 hvis hvl hT hM hE hR hrow b n p xs F w hn)

/-- A list in a variable: its box and its row. -/
def accA (b : Nat) (xs : List PtrD) : Asr := exA fun (q : Option Addr × Nat) => sepA [boxA b 1 34 (.agg #[.slice q.1 xs.length q.2]), rowA PtrD.cells 5 41 (.slice q.1 xs.length q.2) xs]
theorem St.accOut {W w : World} {b : Nat} {xs : List PtrD} {F : List Asr} (h : St W (accA b xs :: F) w) : ∃ ao cp, St W (boxA b 1 34 (.agg #[.slice ao xs.length cp]) :: rowA PtrD.cells 5 41 (.slice ao xs.length cp) xs :: F) w := by
  obtain ⟨⟨ao, cp⟩, h⟩ := h.ex
  exact ⟨ao, cp, (St.join (r := [_, _])).2 h⟩
theorem St.accIn {W w : World} {b : Nat} {xs : List PtrD} {F : List Asr} {ao : Option Addr} {cp : Nat} (h : St W (boxA b 1 34 (.agg #[.slice ao xs.length cp]) :: rowA PtrD.cells 5 41 (.slice ao xs.length cp) xs :: F) w) : St W (accA b xs :: F) w := St.exI (A := fun (q : Option Addr × Nat) => sepA [boxA b 1 34 (.agg #[.slice q.1 xs.length q.2]), rowA PtrD.cells 5 41 (.slice q.1 xs.length q.2) xs]) (ao, cp) ((St.join (r := [_, _])).1 h)

theorem all1_any (p : PtrD) (b : Nat) (xs : List PtrD) (hxs : xs.length ≤ 100) (F : List Asr) (w0 w : World) (hS : St w0 (accA b xs :: F) w) : Calls Tryz.prog 62 #[.agg #[.int .i64 p.fAt, .int .i64 p.fBirth, .int .i64 p.fSize, .int .i64 p.fSum, .int .i64 p.fLevel], .pointer (some ⟨b, 0, none⟩)] w fun e w' => e = .returned (.tuple #[]) ∧ St w0 (accA b (xs ++ [p]) :: F) w' := by
 obtain ⟨ao, cp, hS⟩ := hS.accOut
 have HS := Bx.mk hS; clear hS
 refine wc_enter Tryz.func62 rfl Tryz.ntmps62 [(0, .agg #[.int .i64 p.fAt, .int .i64 p.fBirth, .int .i64 p.fSize, .int .i64 p.fSum, .int .i64 p.fLevel]), (1, .pointer (some ⟨b, 0, none⟩))] ⟨rfl, rfl, trivial⟩ rfl ?_; intro a HF
 refine wp_sr ?_
 refine wl_box rfl HF rfl (HF.ev rfl) (Z := [.int .i64 p.fAt, .int .i64 p.fBirth, .int .i64 p.fSize, .int .i64 p.fSum, .int .i64 p.fLevel]) rfl rfl rfl rfl HS.out ?_; clear HF HS a; intro a w1 b1 HF HS; replace HS := Bx.mk HS
 refine wl_ne ?_
 refine wp_region_lit ?_
 refine zy HF (ylo (v := .slice ao xs.length cp) rfl (HF.ev rfl) (((HS.out.box 1 rfl).cell 0).trans rfl)) ?_;clear HF a;intro a HF
 refine zy HF (ylr (cs := [.int .i64 p.fAt, .int .i64 p.fBirth, .int .i64 p.fSize, .int .i64 p.fSum, .int .i64 p.fLevel]) rfl (HF.ev rfl) ((HS.out.box 0 rfl).sub 0 5)) ?_;clear HF a;intro a HF
 refine wl_buildS (enc := PtrD.cells) (e := 41) (size := 5) rfl HF rfl rfl rfl (ps := [(0, .agg #[.int .i64 p.fAt, .int .i64 p.fBirth, .int .i64 p.fSize, .int .i64 p.fSum, .int .i64 p.fLevel])]) rfl (cells := [.int .i64 p.fAt, .int .i64 p.fBirth, .int .i64 p.fSize, .int .i64 p.fSum, .int .i64 p.fLevel]) (by kernel_rfl) [p] rfl rfl (by unfold maxLen; omega) rfl HS.out ?_; clear HF HS a; intro b2 a w2 HF HS; replace HS := Bx.mk HS
 refine wl_appL rfl HF rfl rfl rfl (HF.ev rfl) (HF.ev rfl) elemQ PtrD.cells_len HS.out 3 (xs := xs) rfl (ys := [p]) (St.rdN HS.out PtrD.cells_len 0 rfl) (cells_one_Q _) (by unfold maxLen; (try simp only [List.length_append, List.length_cons, List.length_nil, List.nil_append, List.length_map]); omega) (by (try simp only [List.length_append, List.length_cons, List.length_nil, List.nil_append, List.length_map]); omega) ?_; clear HF HS a; intro ao3 cp4 w3 a HF HS; replace HS := Bx.mk HS
 try dsimp only [List.eraseIdx] at HS
 refine wl_storeF rfl rfl rfl (HF.ev rfl) (HF.ev rfl) (by kernel_rfl) HS.out 2 rfl rfl rfl ?_; clear HS; intro w4 HS; replace HS := Bx.mk HS
 have HS : Bx (St w0 (rowA PtrD.cells 5 41 (.slice (some ⟨b2, 0, none⟩) 1 1) ([p]) :: boxA b1 5 41 (.agg #[.int .i64 p.fAt, .int .i64 p.fBirth, .int .i64 p.fSize, .int .i64 p.fSum, .int .i64 p.fLevel]) :: boxA b 1 34 (.agg #[.slice ao3 (xs.length + ([p]).length) cp4]) :: rowA PtrD.cells 5 41 (.slice ao3 (xs.length + ([p]).length) cp4) (xs ++ ([p])) :: F) _) := HS
 refine wpList_nil ?_
 refine bp_end0 HF Tryz.results62 ?_
 replace HS:=Bx.mk ((HS.out.pick 3 rfl).pick 3 rfl)
 have hz : xs.length + ([p]).length = (xs ++ ([p])).length := (List.length_append ..).symm
 rw [hz] at HS
 exact ⟨rfl, St.accIn ((HS.out.erase 3).erase 2)⟩

theorem flat_self (l : List PtrD) : l.flatMap (fun p => [p]) = l := by induction l with
  | nil => rfl
  | cons p r ih => rw [List.flatMap_cons, ih]; rfl
theorem allWalk_any (a0 : Option Addr) (c0 : Nat) (a1 : Option Addr) (c1 : Nat) (a2 : Option Addr) (c2 : Nat) (a4 : Option Addr) (c4 : Nat) (a6 : Option Addr) (c6 : Nat) (st : StoreD) (w0 : World) (hT : TabP w0) (hM : MaxP w0) (hE : ErrP w0) (hR : Rd encS 1 w0 a0 st.fRows.length st.fRows) (hrow : RowsOk st) (b c : Nat) (t : TreeD) (hdep : t.fDepth = ((depthN t.fMany : Nat) : Int)) (hwf : Wf st (depthN t.fMany) t.fRoot) (F : List Asr) (w : World) (hS : St w0 (accA c [] :: boxA b 8 39 (.agg #[.slice a0 st.fRows.length c0, .slice a1 st.fSpace.fRefs.length c1, .slice a2 st.fSpace.fLast.length c2, .int .i64 st.fTxg, .slice a4 st.fGone.length c4, .int .i64 st.fKeep, .slice a6 st.fDead.length c6, .bool st.fSame]) :: F) w) : Calls Tryz.prog 61 #[.pointer (some ⟨b, 0, none⟩), .agg #[.int .i64 t.fRoot.fAt, .int .i64 t.fRoot.fBirth, .int .i64 t.fRoot.fSize, .int .i64 t.fRoot.fSum, .int .i64 t.fRoot.fLevel], .int .i64 t.fDepth, .func (.func 62) #[] #[.pointer (some ⟨c, 0, none⟩)]] w fun e w' => e = .returned (.tuple #[]) ∧ St w0 (accA c (allL st (depthN t.fMany) t.fRoot) :: boxA b 8 39 (.agg #[.slice a0 st.fRows.length c0, .slice a1 st.fSpace.fRefs.length c1, .slice a2 st.fSpace.fLast.length c2, .int .i64 st.fTxg, .slice a4 st.fGone.length c4, .int .i64 st.fKeep, .slice a6 st.fDead.length c6, .bool st.fSame]) :: F) w' := by
  have h := walk_any a0 c0 a1 c1 a2 c2 a4 c4 a6 c6 st w0 (accA c) (fun p => [p]) 62 #[.pointer (some ⟨c, 0, none⟩)] (enter_of Tryz.func62 (by kernel_rfl) rfl) (fun p xs F w hx hS => all1_any p c xs hx F w0 w hS) (fun _ => Nat.le_refl _) hT hM hE hR hrow b (depthN t.fMany) t.fRoot [] F w (depthN_le _) (by
    have := depthN_le t.fMany
    rcases (by omega : depthN t.fMany = 0 ∨ depthN t.fMany = 1 ∨ depthN t.fMany = 2) with e | e | e <;> rw [e] <;> decide) hwf hS
  rw [← hdep, flat_self, List.nil_append] at h
  exact h

theorem all_any (a0 : Option Addr) (c0 : Nat) (a1 : Option Addr) (c1 : Nat) (a2 : Option Addr) (c2 : Nat) (a4 : Option Addr) (c4 : Nat) (a6 : Option Addr) (c6 : Nat) (st : StoreD) (t : TreeD) (b : Nat) (w0 w : World) (hT : TabP w0) (hM : MaxP w0) (hE : ErrP w0) (hV0 : StoreD.Reads w0 (.agg #[.slice a0 st.fRows.length c0, .slice a1 st.fSpace.fRefs.length c1, .slice a2 st.fSpace.fLast.length c2, .int .i64 st.fTxg, .slice a4 st.fGone.length c4, .int .i64 st.fKeep, .slice a6 st.fDead.length c6, .bool st.fSame]) st) (hf : st.Fit) (hsok : st.ok = true) (hwf : t.fDepth = ((depthN t.fMany : Nat) : Int) ∧ Wf st (depthN t.fMany) t.fRoot) (F : List Asr) (hS : St w0 (boxA b 8 39 (.agg #[.slice a0 st.fRows.length c0, .slice a1 st.fSpace.fRefs.length c1, .slice a2 st.fSpace.fLast.length c2, .int .i64 st.fTxg, .slice a4 st.fGone.length c4, .int .i64 st.fKeep, .slice a6 st.fDead.length c6, .bool st.fSame]) :: F) w) : Calls Tryz.prog 35 #[.pointer (some ⟨b, 0, none⟩), .agg #[.int .i64 t.fRoot.fAt, .int .i64 t.fRoot.fBirth, .int .i64 t.fRoot.fSize, .int .i64 t.fRoot.fSum, .int .i64 t.fRoot.fLevel, .int .i64 t.fDepth, .int .i64 t.fMany]] w fun e w' => ∃ ao cp, e = .returned (.slice ao (allL st (depthN t.fMany) t.fRoot).length cp) ∧ St w0 (rowA PtrD.cells 5 41 (.slice ao (allL st (depthN t.fMany) t.fRoot).length cp) (allL st (depthN t.fMany) t.fRoot) :: boxA b 8 39 (.agg #[.slice a0 st.fRows.length c0, .slice a1 st.fSpace.fRefs.length c1, .slice a2 st.fSpace.fLast.length c2, .int .i64 st.fTxg, .slice a4 st.fGone.length c4, .int .i64 st.fKeep, .slice a6 st.fDead.length c6, .bool st.fSame]) :: F) w' := by
 have HT := Bx.mk hT; have HM := Bx.mk hM; have HE := Bx.mk hE; have hV := Bx.mk hV0; clear hT hM hE hV0
 have HS := Bx.mk hS; clear hS
 refine wc_enter Tryz.func35 rfl Tryz.ntmps35 [(0, .pointer (some ⟨b, 0, none⟩)), (1, .agg #[.int .i64 t.fRoot.fAt, .int .i64 t.fRoot.fBirth, .int .i64 t.fRoot.fSize, .int .i64 t.fRoot.fSum, .int .i64 t.fRoot.fLevel, .int .i64 t.fDepth, .int .i64 t.fMany])] ⟨rfl, rfl, trivial⟩ rfl ?_; intro a HF
 refine wp_sr ?_
 refine wl_box rfl HF rfl (HF.ev rfl) (Z := [.int .i64 t.fRoot.fAt, .int .i64 t.fRoot.fBirth, .int .i64 t.fRoot.fSize, .int .i64 t.fRoot.fSum, .int .i64 t.fRoot.fLevel, .int .i64 t.fDepth, .int .i64 t.fMany]) rfl rfl rfl rfl HS.out ?_; clear HF HS a; intro a w1 b1 HF HS; replace HS := Bx.mk HS
 refine za HF ?_;clear HF a;intro a HF
 refine wl_ne ?_
 refine wp_sr ?_
 refine wl_alloc rfl HF rfl rfl rfl (Z := [.slice none 0 0]) (by kernel_rfl) rfl HS.out ?_; clear HF HS a; intro a w2 b2 HF HS; replace HS := Bx.mk HS
 refine wl_ne ?_
 refine wp_sr ?_
 refine zm HF ?_;clear HF a;intro a HF
 refine zy HF (yfa 0 rfl (HF.ev rfl)) ?_;clear HF a;intro a HF
 refine zy HF (ylr (cs := [.int .i64 t.fRoot.fAt, .int .i64 t.fRoot.fBirth, .int .i64 t.fRoot.fSize, .int .i64 t.fRoot.fSum, .int .i64 t.fRoot.fLevel]) rfl (HF.ev rfl) ((HS.out.box 1 rfl).sub 0 5)) ?_;clear HF a;intro a HF
 refine zy HF (yfa 5 rfl (HF.ev rfl)) ?_;clear HF a;intro a HF
 refine zy HF (ylo (v := .int .i64 t.fDepth) rfl (HF.ev rfl) (((HS.out.box 1 rfl).cell 5).trans rfl)) ?_;clear HF a;intro a HF
 refine zy HF (yl_makeFunc HF rfl (cs := #[.pointer (some ⟨b2, 0, none⟩)]) rfl) ?_;clear HF a;intro a HF
 replace HS:=Bx.mk (HS.out.pick 0 rfl)
 replace HS := Bx.mk ((HS.out.nilRow PtrD.cells 5 41 none).pick 1 rfl)
 replace HS := Bx.mk (St.accIn (xs := []) HS.out)
 try dsimp only [List.eraseIdx] at HS
 replace HS:=Bx.mk ((HS.out.pick 2 rfl).pick 1 rfl)
 refine wl_call rfl HF rfl (enter_of Tryz.func61 (by kernel_rfl) rfl) (args := #[.pointer (some ⟨b, 0, none⟩), .agg #[.int .i64 t.fRoot.fAt, .int .i64 t.fRoot.fBirth, .int .i64 t.fRoot.fSize, .int .i64 t.fRoot.fSum, .int .i64 t.fRoot.fLevel], .int .i64 t.fDepth, .func (.func 62) #[] #[.pointer (some ⟨b2, 0, none⟩)]]) rfl (allWalk_any a0 c0 a1 c1 a2 c2 a4 c4 a6 c6 st w0 (HT.out) (HM.out) (HE.out) (reads_rows hV.out) (ok_rows hsok) b b2 t hwf.1 hwf.2 _ _ HS.out) rfl rfl ?_
 rintro _ w3 ⟨rfl, hs1⟩
 refine ⟨_, rfl, ?_⟩; replace HS := Bx.mk hs1;clear hs1 HF a;intro a HF
 try dsimp only [List.eraseIdx] at HS
 obtain ⟨aoA, cpA, hA⟩ := HS.out.accOut; replace HS := Bx.mk hA; clear hA
 try dsimp only [List.eraseIdx] at HS
 refine wl_ne ?_
 refine wp_sr ?_
 refine zy HF (ylo (v := .slice aoA ((allL st (depthN t.fMany) t.fRoot).length) cpA) rfl (HF.ev rfl) (((HS.out.box 0 rfl).cell 0).trans rfl)) ?_;clear HF a;intro a HF
 refine za HF ?_;clear HF a;intro a HF
 refine wl_ne ?_
 refine wp_ret ?_
 refine bp_ret1 HF Tryz.results35 (HF.res rfl) ?_
 replace HS:=Bx.mk ((HS.out.pick 2 rfl).pick 2 rfl)
 exact ⟨_, _, rfl, ((HS.out.erase 3).erase 2)⟩

/-- All pointers of a valid tree in a valid store. -/
noncomputable def treeAllF (st : StoreD) (t : TreeD) : List PtrD := bif okT st t then allL st (depthN t.fMany) t.fRoot else []
theorem treeAllF_no {st : StoreD} {t : TreeD} (h : okT st t = false) : treeAllF st t = [] := by unfold treeAllF; rw [h]; rfl
theorem treeAllF_yes {st : StoreD} {t : TreeD} (h : okT st t = true) : treeAllF st t = allL st (depthN t.fMany) t.fRoot := by unfold treeAllF; rw [h]; rfl
theorem okT_parts {st : StoreD} {t : TreeD} (h : okT st t = true) : st.ok = true ∧ t.fDepth = ((depthN t.fMany : Nat) : Int) ∧ Wf st (depthN t.fMany) t.fRoot := by
  cases hs : st.ok with
  | false => rw [okT_no hs] at h; cases h
  | true =>
    unfold okT at h
    rw [leavesT_ok hs] at h
    obtain ⟨r, hr⟩ := Option.isSome_iff_exists.1 h
    have h0 := (StoreD.ok_spec hs).txg
    exact ⟨rfl, tree_wf hr (by omega)⟩

theorem implTreeAll_any (a0 : Option Addr) (c0 : Nat) (a1 : Option Addr) (c1 : Nat) (a2 : Option Addr) (c2 : Nat) (a4 : Option Addr) (c4 : Nat) (a6 : Option Addr) (c6 : Nat) (st : StoreD) (t : TreeD) (w0 : World) (hT : TabP w0) (hM : MaxP w0) (hE : ErrP w0) (hV0 : StoreD.Reads w0 (.agg #[.slice a0 st.fRows.length c0, .slice a1 st.fSpace.fRefs.length c1, .slice a2 st.fSpace.fLast.length c2, .int .i64 st.fTxg, .slice a4 st.fGone.length c4, .int .i64 st.fKeep, .slice a6 st.fDead.length c6, .bool st.fSame]) st) (hf : st.Fit) : Calls Tryz.prog 11 #[.agg #[.slice a0 st.fRows.length c0, .slice a1 st.fSpace.fRefs.length c1, .slice a2 st.fSpace.fLast.length c2, .int .i64 st.fTxg, .slice a4 st.fGone.length c4, .int .i64 st.fKeep, .slice a6 st.fDead.length c6, .bool st.fSame], .agg #[.int .i64 t.fRoot.fAt, .int .i64 t.fRoot.fBirth, .int .i64 t.fRoot.fSize, .int .i64 t.fRoot.fSum, .int .i64 t.fRoot.fLevel, .int .i64 t.fDepth, .int .i64 t.fMany]] w0 fun e w' => ∃ ao cp, e = .returned (.tuple #[.slice ao (treeAllF st t).length cp, .bool (okT st t)]) ∧ St w0 [rowA PtrD.cells 5 41 (.slice ao (treeAllF st t).length cp) (treeAllF st t)] w' := by
 have HT := Bx.mk hT; have HM := Bx.mk hM; have HE := Bx.mk hE; have hV := Bx.mk hV0; clear hT hM hE hV0
 have HS := Bx.mk (St.start w0)
 refine wc_enter Tryz.func11 rfl Tryz.ntmps11 [(0, .agg #[.slice a0 st.fRows.length c0, .slice a1 st.fSpace.fRefs.length c1, .slice a2 st.fSpace.fLast.length c2, .int .i64 st.fTxg, .slice a4 st.fGone.length c4, .int .i64 st.fKeep, .slice a6 st.fDead.length c6, .bool st.fSame]), (1, .agg #[.int .i64 t.fRoot.fAt, .int .i64 t.fRoot.fBirth, .int .i64 t.fRoot.fSize, .int .i64 t.fRoot.fSum, .int .i64 t.fRoot.fLevel, .int .i64 t.fDepth, .int .i64 t.fMany])] ⟨rfl, rfl, trivial⟩ rfl ?_; intro a HF
 refine wp_sr ?_
 refine wl_box rfl HF rfl (HF.ev rfl) (Z := [.slice a0 st.fRows.length c0, .slice a1 st.fSpace.fRefs.length c1, .slice a2 st.fSpace.fLast.length c2, .int .i64 st.fTxg, .slice a4 st.fGone.length c4, .int .i64 st.fKeep, .slice a6 st.fDead.length c6, .bool st.fSame]) rfl rfl rfl rfl HS.out ?_; clear HF HS a; intro a w1 b1 HF HS; replace HS := Bx.mk HS
 refine wl_box rfl HF rfl (HF.ev rfl) (Z := [.int .i64 t.fRoot.fAt, .int .i64 t.fRoot.fBirth, .int .i64 t.fRoot.fSize, .int .i64 t.fRoot.fSum, .int .i64 t.fRoot.fLevel, .int .i64 t.fDepth, .int .i64 t.fMany]) rfl rfl rfl rfl HS.out ?_; clear HF HS a; intro a w2 b2 HF HS; replace HS := Bx.mk HS
 refine za HF ?_;clear HF a;intro a HF
 refine za HF ?_;clear HF a;intro a HF
 refine wl_ne ?_
 refine wp_seq ?_
 refine wp_sr ?_
 refine zy HF (ylr (cs := [.slice a0 st.fRows.length c0, .slice a1 st.fSpace.fRefs.length c1, .slice a2 st.fSpace.fLast.length c2, .int .i64 st.fTxg, .slice a4 st.fGone.length c4, .int .i64 st.fKeep, .slice a6 st.fDead.length c6, .bool st.fSame]) rfl (HF.ev rfl) ((HS.out.box 1 rfl).sub 0 8)) ?_;clear HF a;intro a HF
 refine zy HF (ylr (cs := [.int .i64 t.fRoot.fAt, .int .i64 t.fRoot.fBirth, .int .i64 t.fRoot.fSize, .int .i64 t.fRoot.fSum, .int .i64 t.fRoot.fLevel, .int .i64 t.fDepth, .int .i64 t.fMany]) rfl (HF.ev rfl) ((HS.out.box 0 rfl).sub 0 7)) ?_;clear HF a;intro a HF
 refine wl_callB rfl HF rfl (enter_of Tryz.func34 (by kernel_rfl) rfl) (args := #[.agg #[.slice a0 st.fRows.length c0, .slice a1 st.fSpace.fRefs.length c1, .slice a2 st.fSpace.fLast.length c2, .int .i64 st.fTxg, .slice a4 st.fGone.length c4, .int .i64 st.fKeep, .slice a6 st.fDead.length c6, .bool st.fSame], .agg #[.int .i64 t.fRoot.fAt, .int .i64 t.fRoot.fBirth, .int .i64 t.fRoot.fSize, .int .i64 t.fRoot.fSum, .int .i64 t.fRoot.fLevel, .int .i64 t.fDepth, .int .i64 t.fMany]]) rfl (v := .bool (okT st t)) (implTreeOk_any a0 c0 a1 c1 a2 c2 a4 c4 a6 c6 st t _ (HT.out.below HS.out.bel) (HM.out.below HS.out.bel) (HE.out.below HS.out.bel) (hV.out.below HS.out.bel) hf) rfl rfl HS.out ?_; clear HF HS a; intro w3 a HS HF; replace HS := Bx.mk HS
 refine zy HF (yl_not rfl (HF.ev rfl)) ?_;clear HF a;intro a HF
 refine wl_ne ?_
 refine HF.cases 9 rfl (fun cc1 _ => ?_) fun cc1 _ => ?_
 ·clear HF;rename_i HF
  have hokt : okT st t = false := by simpa using cc1
  refine wc_true HF rfl ?_
  refine wp_sr ?_
  refine za HF ?_;clear HF a;intro a HF
  refine za HF ?_;clear HF a;intro a HF
  refine wl_ne ?_
  refine wp_ret ?_
  refine ex_then_ret ?_
  refine bp_ret2 HF Tryz.results11 (HF.res rfl) (HF.res rfl) ?_
  have h := treeAllF_no hokt; exact ⟨none, 0, by rw [h, hokt] <;> rfl, by rw [h]; exact ((((HS.out).nilRow PtrD.cells 5 41 none).erase 2).erase 1)⟩
 ·clear HF;rename_i HF
  have hokt : okT st t = true := by simpa using cc1
  refine wc_false HF rfl ?_
  refine wp_skip ?_
  refine ex_then ?_
  refine wp_sr ?_
  refine zy HF (ylr (cs := [.int .i64 t.fRoot.fAt, .int .i64 t.fRoot.fBirth, .int .i64 t.fRoot.fSize, .int .i64 t.fRoot.fSum, .int .i64 t.fRoot.fLevel, .int .i64 t.fDepth, .int .i64 t.fMany]) rfl (HF.ev rfl) ((HS.out.box 0 rfl).sub 0 7)) ?_;clear HF a;intro a HF
  replace HS:=Bx.mk (HS.out.pick 1 rfl)
  obtain ⟨hsok, hwf⟩ := okT_parts hokt
  refine wl_call rfl HF rfl (enter_of Tryz.func35 (by kernel_rfl) rfl) (args := #[.pointer (some ⟨b1, 0, none⟩), .agg #[.int .i64 t.fRoot.fAt, .int .i64 t.fRoot.fBirth, .int .i64 t.fRoot.fSize, .int .i64 t.fRoot.fSum, .int .i64 t.fRoot.fLevel, .int .i64 t.fDepth, .int .i64 t.fMany]]) rfl (all_any a0 c0 a1 c1 a2 c2 a4 c4 a6 c6 st t b1 w0 _ HT.out HM.out HE.out hV.out hf hsok hwf _ HS.out) rfl rfl ?_
  rintro _ w4 ⟨aoB, cpB, rfl, hs1⟩
  refine ⟨_, rfl, ?_⟩; replace HS := Bx.mk hs1;clear hs1 HF a;intro a HF
  try dsimp only [List.eraseIdx] at HS
  refine za HF ?_;clear HF a;intro a HF
  refine za HF ?_;clear HF a;intro a HF
  refine wl_ne ?_
  refine wp_ret ?_
  refine bp_ret2 HF Tryz.results11 (HF.res rfl) (HF.res rfl) ?_
  have h := treeAllF_yes hokt; exact ⟨_, _, by rw [h, hokt] <;> rfl, by rw [h]; exact ((HS.out.erase 2).erase 1)⟩

end Go.Proofs.YtebpodlkndnepaaGreatDoor

/- All pointers of a tree, by the reference: walked. -/
namespace Go.Proofs.YtebpodlkndnepaaGreatDoor
set_option linter.unusedVariables false
set_option linter.unusedSimpArgs false
set_option maxHeartbeats 1000000
set_option maxRecDepth 100000
open Go.RowKit

theorem flatMap_congr {f g : PtrD → List PtrD} : ∀ {l : List PtrD}, (∀ q ∈ l, f q = g q) → l.flatMap f = l.flatMap g
  | [], _ => rfl
  | p :: r, h => by rw [List.flatMap_cons, List.flatMap_cons, h p (List.mem_cons_self ..), flatMap_congr fun q hq => h q (List.mem_cons_of_mem _ hq)]
theorem Rd.dropP {α : Type} {enc : α → List Value} {size : Nat} {w : World} {g off n : Nat} {xs : List α} (h : Rd enc size w (some ⟨g, off, none⟩) n xs) {k : Nat} (hk : k ≤ n) : Rd enc size w (some ⟨g, off + k * size, none⟩) (n - k) (xs.drop k) := by
  have hl := h.len
  refine ⟨by rw [List.length_drop]; omega, fun i hi => ?_⟩
  rw [List.length_drop] at hi
  obtain ⟨b, o, x, hx, ha, hb, hr⟩ := h.at_ (k + i) (by omega)
  simp only [Option.some.injEq, Addr.mk.injEq, and_true] at ha
  obtain ⟨rfl, rfl⟩ := ha
  refine ⟨g, off + k * size, x, by rw [List.getElem?_drop]; exact hx, rfl, hb, ?_⟩
  rw [Nat.add_assoc, ← Nat.add_mul]
  exact hr

/-- All below a pointer, by its own level. -/
noncomputable def allO (st : StoreD) (p : PtrD) : List PtrD := allL st p.fLevel.toNat p
theorem allO_wf {st : StoreD} {n : Nat} {p : PtrD} (h : Wf st n p) : allO st p = allL st n p := by
  unfold allO
  cases hh : p.hole with
  | true => rw [allL_hole hh, allL_hole hh]
  | false => rw [h.level hh]; rfl
def mz : List PtrD → Nat
  | [] => 0
  | p :: r => (bif p.hole then 1 else wg p.fLevel.toNat) + mz r
theorem wg_pos : ∀ n, 1 ≤ wg n
  | 0 => Nat.le_refl _
  | n + 1 => by show 1 ≤ 1 + 4 * wg n; omega
theorem mz_app : ∀ a b : List PtrD, mz (a ++ b) = mz a + mz b
  | [], b => by simp [mz]
  | p :: r, b => by
    show _ + mz (r ++ b) = _ + mz r + mz b
    rw [mz_app r b]; omega
theorem mz_kids {st : StoreD} {n : Nat} : ∀ {l : List PtrD}, (∀ q ∈ l, Wf st n q) → mz l ≤ l.length * wg n
  | [], _ => Nat.zero_le _
  | p :: r, h => by
    have ih := mz_kids fun q hq => h q (List.mem_cons_of_mem _ hq)
    have hw := h p (List.mem_cons_self ..)
    have h1 : (bif p.hole then 1 else wg p.fLevel.toNat) ≤ wg n := by
      cases hh : p.hole with
      | true => exact wg_pos n
      | false => rw [hw.level hh]; exact Nat.le_refl _
    show (bif p.hole then 1 else wg p.fLevel.toNat) + mz r ≤ (r.length + 1) * wg n
    rw [Nat.succ_mul]; omega
theorem mz_len : ∀ l : List PtrD, l.length ≤ mz l
  | [] => Nat.le_refl _
  | p :: r => by
    have := mz_len r
    have h1 : 1 ≤ (bif p.hole then 1 else wg p.fLevel.toNat) := by
      cases p.hole
      · exact wg_pos _
      · exact Nat.le_refl _
    show r.length + 1 ≤ _ + mz r
    omega
/-- What is told, and what is to do. -/
structure AllTo (st : StoreD) (A os ts : List PtrD) : Prop where
  sum : os ++ ts.flatMap (allO st) = A
  wf : ∀ p ∈ ts, ∃ n, n ≤ 2 ∧ Wf st n p
  room : os.length + mz ts ≤ 21
theorem AllTo.start {st : StoreD} {n : Nat} {p : PtrD} (hn : n ≤ 2) (h : Wf st n p) : AllTo st (allL st n p) [] [p] := by
  refine ⟨?_, fun q hq => ⟨n, hn, by rw [List.mem_singleton.1 hq]; exact h⟩, ?_⟩
  · rw [List.nil_append, List.flatMap_cons, List.flatMap_nil, List.append_nil, allO_wf h]
  · have h1 := mz_kids (l := [p]) (n := n) fun q hq => by rw [List.mem_singleton.1 hq]; exact h
    have h2 : wg n ≤ 21 := by rcases (by omega : n = 0 ∨ n = 1 ∨ n = 2) with e | e | e <;> rw [e] <;> decide
    rw [List.length_singleton, Nat.one_mul] at h1
    show 0 + mz [p] ≤ 21
    omega
theorem AllTo.done {st : StoreD} {A os : List PtrD} (h : AllTo st A os []) : os = A := by
  have := h.sum
  rwa [List.flatMap_nil, List.append_nil] at this
section
variable {st : StoreD} {A os r : List PtrD} {p : PtrD}
theorem AllTo.tail (h : AllTo st A os (p :: r)) : ∀ q ∈ ([] ++ r : List PtrD), ∃ n, n ≤ 2 ∧ Wf st n q := fun q hq => h.wf q (List.mem_cons_of_mem _ (by simpa using hq))
theorem AllTo.hole (h : AllTo st A os (p :: r)) (hh : p.hole = true) : AllTo st A os ([] ++ r) ∧ mz ([] ++ r) < mz (p :: r) := by
  have h1 := h.sum
  have h2 := h.room
  have e : mz (p :: r) = 1 + mz r := by show (bif p.hole then 1 else wg p.fLevel.toNat) + mz r = _; rw [hh]; rfl
  refine ⟨⟨?_, h.tail, ?_⟩, ?_⟩
  · rw [List.nil_append, ← h1, List.flatMap_cons, show allO st p = [] from allL_hole hh _, List.nil_append]
  · rw [List.nil_append]; omega
  · rw [List.nil_append]; omega
theorem AllTo.leaf (h : AllTo st A os (p :: r)) (hh : p.hole = false) (hl : ¬ 0 < p.fLevel) : AllTo st A (os ++ [p]) ([] ++ r) ∧ mz ([] ++ r) < mz (p :: r) := by
  have h1 := h.sum
  have h2 := h.room
  obtain ⟨n, hn, hw⟩ := h.wf p (List.mem_cons_self ..)
  have hl2 := hw.level hh
  obtain rfl : n = 0 := by omega
  have e : mz (p :: r) = 1 + mz r := by show (bif p.hole then 1 else wg p.fLevel.toNat) + mz r = _; rw [hh, hl2]; rfl
  refine ⟨⟨?_, h.tail, ?_⟩, ?_⟩
  · rw [List.nil_append, ← h1, List.flatMap_cons, allO_wf hw, allL_zero hh, List.append_assoc]
  · rw [List.nil_append, List.length_append, List.length_singleton]; omega
  · rw [List.nil_append]; omega
theorem AllTo.below (h : AllTo st A os (p :: r)) (hh : p.hole = false) (hl : 0 < p.fLevel) : ∃ n l, n + 1 ≤ 2 ∧ p.fLevel = ((n + 1 : Nat) : Int) ∧ kidsS st p p.fLevel = some l ∧ kids st p ((n + 1 : Nat) : Int) = some l ∧ ∀ q ∈ l, Wf st n q := by
  obtain ⟨n, hn, hw⟩ := h.wf p (List.mem_cons_self ..)
  have hl2 := hw.level hh
  match n, hw, hl2, hn with
  | 0, _, hl2, _ => omega
  | n + 1, hw, hl2, hn =>
    obtain ⟨hp, hb, l, hk, hq⟩ := hw
    exact ⟨n, l, hn, hl2, by rw [kidsS_eq hp hb, hl2]; exact hk, hk, hq⟩
theorem AllTo.kids (h : AllTo st A os (p :: r)) (hh : p.hole = false) (hl : 0 < p.fLevel) {l : List PtrD} (hk : kidsS st p p.fLevel = some l) : AllTo st A (os ++ [p]) (([] ++ l) ++ ([] ++ r)) ∧ mz (([] ++ l) ++ ([] ++ r)) < mz (p :: r) := by
  obtain ⟨n, m, hn, hl2, hk2, hk3, hq⟩ := h.below hh hl
  rw [hk] at hk2
  obtain rfl := Option.some.inj hk2
  have h1 := h.sum
  have h2 := h.room
  have hw : Wf st (n + 1) p := by
    obtain ⟨k, _, hw⟩ := h.wf p (List.mem_cons_self ..)
    have := hw.level hh
    obtain rfl : k = n + 1 := by omega
    exact hw
  have e : mz (p :: r) = (1 + 4 * wg n) + mz r := by show (bif p.hole then 1 else wg p.fLevel.toNat) + mz r = _; rw [hh, hl2]; rfl
  have hm := mz_kids hq
  rw [kids_len hk3] at hm
  refine ⟨⟨?_, fun q hx => ?_, ?_⟩, ?_⟩
  · have e2 : l.flatMap (allO st) = l.flatMap (allL st n) := flatMap_congr fun q hx => allO_wf (hq q hx)
    rw [← h1, List.flatMap_cons, allO_wf hw, allL_succ hh hk3]
    simp [List.flatMap_append, e2]
  · rw [List.nil_append, List.nil_append] at hx
    rcases List.mem_append.1 hx with hx | hx
    · exact ⟨n, by omega, hq q hx⟩
    · exact h.wf q (List.mem_cons_of_mem _ hx)
  · rw [List.nil_append, List.nil_append, mz_app, List.length_append, List.length_singleton]; omega
  · rw [List.nil_append, List.nil_append, mz_app]; omega
end
section
variable {P : Program} {o : Oper} {a : Act} {w : World} {e : TypeId}
/-- Where a slice without its head begins. -/
def loA (g off k size cap : Nat) : Option Addr := some ⟨g, if cap = k then off else off + k * size, none⟩
theorem yl_sliceLoA {t : TypeId} {x y : Operand} (ho : o.op = .slice t x (some y) none none) {g off n cap : Nat} (hx : a.eval x = .slice (some ⟨g, off, none⟩) n cap) {kk : IntKind} {m : Int} (hy : a.eval y = .int kk m) {size : Nat} (hu : elemOf? P t = some (e, size)) {k : Nat} (hm : m = (k : Int)) (hk : k ≤ n) (hc : n ≤ cap) : Yl P w o a (.slice (loA g off k size cap) (n - k) (cap - k)) := by
  by_cases h : k < cap
  · have e1 : loA g off k size cap = some ⟨g, off + k * size, none⟩ := by unfold loA; rw [if_neg (by omega)]
    rw [e1]
    exact yl_sliceLo ho hx hy hu hm hk h
  · have e1 : loA g off k size cap = some ⟨g, off, none⟩ := by unfold loA; rw [if_pos (by omega)]
    rw [e1]
    unfold elemOf? at hu
    split at hu
    · rename_i e' hu'
      split at hu
      · rename_i inf hq
        subst hm
        obtain rfl : cap = k := by omega
        obtain rfl : n = cap := by omega
        unfold Yl execOp
        simp only [ho, hx, hy, Option.map_some, Option.map_none, Instr.sliceAt, Instr.slice, Sem.run_bind, run_underlying hu' w, Result.andThen_ok]
        simp [Instr.slice, Instr.sliceBounds, Instr.sliceBound, asIntOf, go_sem, run_underlying hu' w, sizeOf, typeInfo, hq]
      · cases hu
    · cases hu
theorem rd_loA {α : Type} {enc : α → List Value} {size g off n k cap : Nat} {xs : List α} (h : Rd enc size w (some ⟨g, off, none⟩) n xs) (hk : k ≤ n) (hc : n ≤ cap) : Rd enc size w (loA g off k size cap) (n - k) (xs.drop k) := by
  have hl := h.len
  by_cases e : k < cap
  · rw [show loA g off k size cap = some ⟨g, off + k * size, none⟩ by unfold loA; rw [if_neg (by omega)]]
    exact h.dropP hk
  · rw [List.drop_eq_nil_of_le (by omega), show n - k = 0 by omega]
    exact rd_of_nil _ _ _ _
end

theorem l8All_any (a0 : Option Addr) (c0 : Nat) (a1 : Option Addr) (c1 : Nat) (a2 : Option Addr) (c2 : Nat) (a4 : Option Addr) (c4 : Nat) (a6 : Option Addr) (c6 : Nat) (st : StoreD) (t : TreeD) (w0 : World) (hR : Rd encS 1 w0 a0 st.fRows.length st.fRows) (hrow : RowsOk st) (hwf : Wf st (depthN t.fMany) t.fRoot) : Calls Tryz.prog 29 #[.agg #[.slice a0 st.fRows.length c0, .slice a1 st.fSpace.fRefs.length c1, .slice a2 st.fSpace.fLast.length c2, .int .i64 st.fTxg, .slice a4 st.fGone.length c4, .int .i64 st.fKeep, .slice a6 st.fDead.length c6, .bool st.fSame], .agg #[.int .i64 t.fRoot.fAt, .int .i64 t.fRoot.fBirth, .int .i64 t.fRoot.fSize, .int .i64 t.fRoot.fSum, .int .i64 t.fRoot.fLevel, .int .i64 t.fDepth, .int .i64 t.fMany]] w0 fun e w' => ∃ ao cp, e = .returned (.slice ao (allL st (depthN t.fMany) t.fRoot).length cp) ∧ St w0 [rowA PtrD.cells 5 41 (.slice ao (allL st (depthN t.fMany) t.fRoot).length cp) (allL st (depthN t.fMany) t.fRoot)] w' := by
 have HR := Bx.mk hR; clear hR
 have HS := Bx.mk (St.start w0)
 refine wc_enter Tryz.func29 rfl Tryz.ntmps29 [(0, .agg #[.slice a0 st.fRows.length c0, .slice a1 st.fSpace.fRefs.length c1, .slice a2 st.fSpace.fLast.length c2, .int .i64 st.fTxg, .slice a4 st.fGone.length c4, .int .i64 st.fKeep, .slice a6 st.fDead.length c6, .bool st.fSame]), (1, .agg #[.int .i64 t.fRoot.fAt, .int .i64 t.fRoot.fBirth, .int .i64 t.fRoot.fSize, .int .i64 t.fRoot.fSum, .int .i64 t.fRoot.fLevel, .int .i64 t.fDepth, .int .i64 t.fMany])] ⟨rfl, rfl, trivial⟩ rfl ?_; intro a HF
 refine wp_sr ?_
 refine wl_box rfl HF rfl (HF.ev rfl) (Z := [.slice a0 st.fRows.length c0, .slice a1 st.fSpace.fRefs.length c1, .slice a2 st.fSpace.fLast.length c2, .int .i64 st.fTxg, .slice a4 st.fGone.length c4, .int .i64 st.fKeep, .slice a6 st.fDead.length c6, .bool st.fSame]) rfl rfl rfl rfl HS.out ?_; clear HF HS a; intro a w1 b1 HF HS; replace HS := Bx.mk HS
 refine wl_box rfl HF rfl (HF.ev rfl) (Z := [.int .i64 t.fRoot.fAt, .int .i64 t.fRoot.fBirth, .int .i64 t.fRoot.fSize, .int .i64 t.fRoot.fSum, .int .i64 t.fRoot.fLevel, .int .i64 t.fDepth, .int .i64 t.fMany]) rfl rfl rfl rfl HS.out ?_; clear HF HS a; intro a w2 b2 HF HS; replace HS := Bx.mk HS
 refine za HF ?_;clear HF a;intro a HF
 refine wl_ne ?_
 refine wp_sr ?_
 refine wl_empty (e := 41) (size := 5) rfl HF rfl rfl rfl (by kernel_rfl) HS.out ?_; clear HF HS a; intro a w3 b3 HF HS; replace HS := Bx.mk HS
 refine za HF ?_;clear HF a;intro a HF
 refine wl_ne ?_
 refine wp_sr ?_
 refine zy HF (yfa 0 rfl (HF.ev rfl)) ?_;clear HF a;intro a HF
 refine zy HF (ylr (cs := [.int .i64 t.fRoot.fAt, .int .i64 t.fRoot.fBirth, .int .i64 t.fRoot.fSize, .int .i64 t.fRoot.fSum, .int .i64 t.fRoot.fLevel]) rfl (HF.ev rfl) ((HS.out.box 0 rfl).sub 0 5)) ?_;clear HF a;intro a HF
 refine wl_buildS (enc := PtrD.cells) (e := 41) (size := 5) rfl HF rfl rfl rfl (ps := [(0, .agg #[.int .i64 t.fRoot.fAt, .int .i64 t.fRoot.fBirth, .int .i64 t.fRoot.fSize, .int .i64 t.fRoot.fSum, .int .i64 t.fRoot.fLevel])]) rfl (cells := [.int .i64 t.fRoot.fAt, .int .i64 t.fRoot.fBirth, .int .i64 t.fRoot.fSize, .int .i64 t.fRoot.fSum, .int .i64 t.fRoot.fLevel]) (by kernel_rfl) [t.fRoot] rfl rfl (by unfold maxLen; omega) rfl HS.out ?_; clear HF HS a; intro b4 a w4 HF HS; replace HS := Bx.mk HS
 refine za HF ?_;clear HF a;intro a HF
 refine wl_ne ?_
 refine wp_seq ?_
 refine wp_block ?_
 replace HS := Bx.mk (HS.out.nilRow PtrD.cells 5 41 (some ⟨b3, 0, none⟩))
 replace HS:=Bx.mk ((HS.out.pick 1 rfl).pick 1 rfl)
 refine wc_loop (ι := Nat) (fun n a w => ∃ (ao : Option Addr) (cp : Nat) (os : List PtrD) (at_ : Option Addr) (ct : Nat) (ts : List PtrD), (AllTo st (allL st (depthN t.fMany) t.fRoot) os ts ∧ mz ts = n) ∧ Fr 47 a [(0, .agg #[.slice a0 st.fRows.length c0, .slice a1 st.fSpace.fRefs.length c1, .slice a2 st.fSpace.fLast.length c2, .int .i64 st.fTxg, .slice a4 st.fGone.length c4, .int .i64 st.fKeep, .slice a6 st.fDead.length c6, .bool st.fSame]), (1, .agg #[.int .i64 t.fRoot.fAt, .int .i64 t.fRoot.fBirth, .int .i64 t.fRoot.fSize, .int .i64 t.fRoot.fSum, .int .i64 t.fRoot.fLevel, .int .i64 t.fDepth, .int .i64 t.fMany]), (2, .pointer (some ⟨b1, 0, none⟩)), (3, .pointer (some ⟨b2, 0, none⟩)), (4, .slice none 0 0), (5, .slice ao os.length cp), (6, .slice at_ ts.length ct)] ∧ St w0 ([rowA PtrD.cells 5 41 (.slice ao os.length cp) os, rowA PtrD.cells 5 41 (.slice at_ ts.length ct) ts, boxA b2 7 43 (.agg #[.int .i64 t.fRoot.fAt, .int .i64 t.fRoot.fBirth, .int .i64 t.fRoot.fSize, .int .i64 t.fRoot.fSum, .int .i64 t.fRoot.fLevel, .int .i64 t.fDepth, .int .i64 t.fMany]), boxA b1 8 39 (.agg #[.slice a0 st.fRows.length c0, .slice a1 st.fSpace.fRefs.length c1, .slice a2 st.fSpace.fLast.length c2, .int .i64 st.fTxg, .slice a4 st.fGone.length c4, .int .i64 st.fKeep, .slice a6 st.fDead.length c6, .bool st.fSame])]) w) (fun n => n) (mz [t.fRoot]) ⟨_, _, [], _, _, [t.fRoot], ⟨AllTo.start (depthN_le _) hwf, rfl⟩, HF.less _ ⟨rfl, rfl, rfl, rfl, rfl, rfl, rfl, trivial⟩, HS.out⟩ ?_
 clear HF HS; clear a
 rintro n a w5 ⟨ao, cp, os, at_, ct, ts, ⟨hall, hmz⟩, HF, HS⟩
 replace HS := Bx.mk HS
 have hroom := hall.room; have htl := mz_len ts
 refine wp_seq ?_
 refine wp_sr ?_
 refine zm HF ?_;clear HF a;intro a HF
 refine zy HF (yl_lenL (e := 41) (size := 5) rfl (HF.ev rfl) (by kernel_rfl)) ?_;clear HF a;intro a HF
 refine zy HF (yl_gtrI rfl (HF.ev rfl) (HF.ev rfl)) ?_;clear HF a;intro a HF
 refine wl_ne ?_
 refine HF.cases 16 rfl (fun cc1 _ => ?_) fun cc1 _ => ?_
 ·clear HF;rename_i HF
  have dcc1 := of_decide_eq_true cc1
  refine wc_true HF rfl ?_
  refine wp_skip ?_
  refine ex_then ?_
  refine wp_block ?_
  refine wp_seq ?_
  obtain ⟨p, r, rfl⟩ : ∃ p r, ts = p :: r := by cases ts with | nil => exact absurd (by assumption : (0 : Int) < ((([] : List PtrD).length : Nat) : Int)) (by simp) | cons p r => exact ⟨p, r, rfl⟩
  have hrl : (p :: r).length = r.length + 1 := rfl
  obtain ⟨g5, rfl, _, _, _, _⟩ := HS.out.rowOpen 1 rfl (by omega)
  have hcap := HS.out.capLe 1 rfl
  refine wp_region_lit ?_
  refine zm HF ?_;clear HF a;intro a HF
  refine zy HF (yl_indexAddr (e := 41) (i := 0) (size := 5) rfl (HF.ev rfl) (HF.ev rfl) (by kernel_rfl) rfl (by omega)) ?_;clear HF a;intro a HF
  refine zy HF (ylr (cs := [.int .i64 p.fAt, .int .i64 p.fBirth, .int .i64 p.fSize, .int .i64 p.fSum, .int .i64 p.fLevel]) rfl (HF.ev rfl) (HS.out.elem PtrD.cells_len 1 rfl (show (p :: r)[0]? = some _ from rfl))) ?_;clear HF a;intro a HF
  refine wl_alloc rfl HF rfl rfl rfl (Z := [.int .i64 0, .int .i64 0, .int .i64 0, .int .i64 0, .int .i64 0]) (by kernel_rfl) rfl HS.out ?_; clear HF HS a; intro a w6 b6 HF HS; replace HS := Bx.mk HS
  refine wl_storeBox rfl HF rfl rfl (HF.ev rfl) (HF.ev rfl) HS.out 0 rfl (cells_lit [.int .i64 p.fAt, .int .i64 p.fBirth, .int .i64 p.fSize, .int .i64 p.fSum, .int .i64 p.fLevel] rfl rfl) (by kernel_rfl) ?_; clear HS; intro w7 HS; replace HS := Bx.mk HS
  have HS : Bx (St w0 ([boxA b6 5 41 (.agg #[.int .i64 p.fAt, .int .i64 p.fBirth, .int .i64 p.fSize, .int .i64 p.fSum, .int .i64 p.fLevel]), rowA PtrD.cells 5 41 (.slice ao os.length cp) os, rowA PtrD.cells 5 41 (.slice (some ⟨g5, 0, none⟩) ((p :: r).length) ct) (p :: r), boxA b2 7 43 (.agg #[.int .i64 t.fRoot.fAt, .int .i64 t.fRoot.fBirth, .int .i64 t.fRoot.fSize, .int .i64 t.fRoot.fSum, .int .i64 t.fRoot.fLevel, .int .i64 t.fDepth, .int .i64 t.fMany]), boxA b1 8 39 (.agg #[.slice a0 st.fRows.length c0, .slice a1 st.fSpace.fRefs.length c1, .slice a2 st.fSpace.fLast.length c2, .int .i64 st.fTxg, .slice a4 st.fGone.length c4, .int .i64 st.fKeep, .slice a6 st.fDead.length c6, .bool st.fSame])]) _) := HS
  refine wl_ne ?_
  refine wp_sr ?_
  refine wl_empty (e := 41) (size := 5) rfl HF rfl rfl rfl (by kernel_rfl) HS.out ?_; clear HF HS a; intro a w8 b7 HF HS; replace HS := Bx.mk HS
  refine zm HF ?_;clear HF a;intro a HF
  refine zy HF (yl_sliceLoA (e := 41) (size := 5) (k := 1) rfl (HF.ev rfl) (HF.ev rfl) (by kernel_rfl) rfl (by omega) hcap) ?_;clear HF a;intro a HF
  replace HS := Bx.mk (HS.out.nilRow PtrD.cells 5 41 (some ⟨b7, 0, none⟩))
  refine wl_appL rfl HF rfl rfl rfl (HF.ev rfl) (HF.ev rfl) elemQ PtrD.cells_len HS.out 0 (xs := []) rfl (ys := r) (rd_loA (k := 1) (St.rdOf HS.out PtrD.cells_len 3 rfl) (by omega) hcap) (cells_one_Q _) (by unfold maxLen; (try simp only [List.length_append, List.length_cons, List.length_nil, List.nil_append, List.length_map]); omega) (by (try simp only [List.length_append, List.length_cons, List.length_nil, List.nil_append, List.length_map]); omega) ?_; clear HF HS a; intro ao9 cp10 w9 a HF HS; replace HS := Bx.mk HS
  try dsimp only [List.eraseIdx] at HS
  refine za HF ?_;clear HF a;intro a HF
  refine wl_ne ?_
  refine wp_seq ?_
  refine wp_sr ?_
  refine zy HF (ylr (cs := [.int .i64 p.fAt, .int .i64 p.fBirth, .int .i64 p.fSize, .int .i64 p.fSum, .int .i64 p.fLevel]) rfl (HF.ev rfl) ((HS.out.box 1 rfl).sub 0 5)) ?_;clear HF a;intro a HF
  refine wl_callB rfl HF rfl (enter_of Tryz.func57 (by kernel_rfl) rfl) (args := #[.agg #[.int .i64 p.fAt, .int .i64 p.fBirth, .int .i64 p.fSize, .int .i64 p.fSum, .int .i64 p.fLevel]]) rfl (v := .bool p.hole) (specHole_any p _) rfl rfl HS.out ?_; clear HF HS a; intro w10 a HS HF; replace HS := Bx.mk HS
  refine wl_ne ?_
  refine HF.cases 25 rfl (fun cc2 _ => ?_) fun cc2 _ => ?_
  ·clear HF;rename_i HF
   have hph := cc2
   refine wc_true HF rfl ?_
   refine wp_exit ?_
   refine ex_then_exit ?_
   refine ex_block_hit ?_
   refine ex_then ?_
   have hz11 : ([] : List PtrD).length + r.length = (([]) ++ r).length := by simp only [List.length_append, List.length_nil, List.length_cons]
   rw [hz11] at HS HF
   obtain ⟨hnew, hlt⟩ := hall.hole hph
   replace HS:=Bx.mk ((((HS.out.pick 5 rfl).pick 5 rfl).pick 2 rfl).pick 4 rfl)
   exact ⟨_, ⟨_, _, _, _, _, _, ⟨hnew, rfl⟩, HF.less _ ⟨rfl, rfl, rfl, rfl, rfl, rfl, rfl, trivial⟩, ((HS.out.erase 5).erase 4)⟩, (by omega)⟩
  ·clear HF;rename_i HF
   have hph := cc2
   refine wc_false HF rfl ?_
   refine wp_skip ?_
   refine ex_then ?_
   refine wp_sr ?_
   refine zm HF ?_;clear HF a;intro a HF
   refine zy HF (ylr (cs := [.int .i64 p.fAt, .int .i64 p.fBirth, .int .i64 p.fSize, .int .i64 p.fSum, .int .i64 p.fLevel]) rfl (HF.ev rfl) ((HS.out.box 1 rfl).sub 0 5)) ?_;clear HF a;intro a HF
   refine wl_buildS (enc := PtrD.cells) (e := 41) (size := 5) rfl HF rfl rfl rfl (ps := [(0, .agg #[.int .i64 p.fAt, .int .i64 p.fBirth, .int .i64 p.fSize, .int .i64 p.fSum, .int .i64 p.fLevel])]) rfl (cells := [.int .i64 p.fAt, .int .i64 p.fBirth, .int .i64 p.fSize, .int .i64 p.fSum, .int .i64 p.fLevel]) (by kernel_rfl) [p] rfl rfl (by unfold maxLen; omega) rfl HS.out ?_; clear HF HS a; intro b12 a w11 HF HS; replace HS := Bx.mk HS
   refine wl_appL rfl HF rfl rfl rfl (HF.ev rfl) (HF.ev rfl) elemQ PtrD.cells_len HS.out 3 (xs := os) rfl (ys := [p]) (St.rdN HS.out PtrD.cells_len 0 rfl) (cells_one_Q _) (by unfold maxLen; (try simp only [List.length_append, List.length_cons, List.length_nil, List.nil_append, List.length_map]); omega) (by (try simp only [List.length_append, List.length_cons, List.length_nil, List.nil_append, List.length_map]); omega) ?_; clear HF HS a; intro ao13 cp14 w12 a HF HS; replace HS := Bx.mk HS
   try dsimp only [List.eraseIdx] at HS
   refine za HF ?_;clear HF a;intro a HF
   refine wl_ne ?_
   refine wp_sr ?_
   refine zy HF (yfa 4 rfl (HF.ev rfl)) ?_;clear HF a;intro a HF
   refine zy HF (ylo (v := .int .i64 p.fLevel) rfl (HF.ev rfl) (((HS.out.box 2 rfl).cell 4).trans rfl)) ?_;clear HF a;intro a HF
   refine zy HF (yl_gtrI rfl (HF.ev rfl) (HF.ev rfl)) ?_;clear HF a;intro a HF
   refine wl_ne ?_
   refine HF.cases 32 rfl (fun cc3 _ => ?_) fun cc3 _ => ?_
   ·clear HF;rename_i HF
    have dcc3 := of_decide_eq_true cc3
    refine wc_true HF rfl ?_
    refine wp_sr ?_
    refine zy HF (ylr (cs := [.slice a0 st.fRows.length c0, .slice a1 st.fSpace.fRefs.length c1, .slice a2 st.fSpace.fLast.length c2, .int .i64 st.fTxg, .slice a4 st.fGone.length c4, .int .i64 st.fKeep, .slice a6 st.fDead.length c6, .bool st.fSame]) rfl (HF.ev rfl) ((HS.out.box 6 rfl).sub 0 8)) ?_;clear HF a;intro a HF
    refine zy HF (ylr (cs := [.int .i64 p.fAt, .int .i64 p.fBirth, .int .i64 p.fSize, .int .i64 p.fSum, .int .i64 p.fLevel]) rfl (HF.ev rfl) ((HS.out.box 2 rfl).sub 0 5)) ?_;clear HF a;intro a HF
    refine zy HF (yfa 4 rfl (HF.ev rfl)) ?_;clear HF a;intro a HF
    refine zy HF (ylo (v := .int .i64 p.fLevel) rfl (HF.ev rfl) (((HS.out.box 2 rfl).cell 4).trans rfl)) ?_;clear HF a;intro a HF
    refine wl_call rfl HF rfl (enter_of Tryz.func58 (by kernel_rfl) rfl) (args := #[.agg #[.slice a0 st.fRows.length c0, .slice a1 st.fSpace.fRefs.length c1, .slice a2 st.fSpace.fLast.length c2, .int .i64 st.fTxg, .slice a4 st.fGone.length c4, .int .i64 st.fKeep, .slice a6 st.fDead.length c6, .bool st.fSame], .agg #[.int .i64 p.fAt, .int .i64 p.fBirth, .int .i64 p.fSize, .int .i64 p.fSum, .int .i64 p.fLevel], .int .i64 p.fLevel]) rfl (l8Below_any a0 c0 a1 c1 a2 c2 a4 c4 a6 c6 st p p.fLevel _ (HR.out.below HS.out.bel) hrow) rfl rfl ?_
    rintro _ w13 (⟨l15, hk15, ao15, cp15, rfl, hs1⟩ | ⟨hk15, ao15, nn15, cp15, rfl, hb⟩)
    ·skip
     have hll15 := kidsS_len hk15
     refine ⟨_, rfl, ?_⟩; replace HS := Bx.mk (HS.out.add hs1);clear hs1 HF a;intro a HF
     try dsimp only [List.eraseIdx] at HS
     refine zm HF ?_;clear HF a;intro a HF
     refine zy HF (yl_extract rfl (HF.ev rfl) rfl) ?_;clear HF a;intro a HF
     refine zy HF (yl_extract rfl (HF.ev rfl) rfl) ?_;clear HF a;intro a HF
     refine za HF ?_;clear HF a;intro a HF
     refine za HF ?_;clear HF a;intro a HF
     refine wl_ne ?_
     refine wp_region_lit ?_
     refine wl_empty (e := 41) (size := 5) rfl HF rfl rfl rfl (by kernel_rfl) HS.out ?_; clear HF HS a; intro a w14 b16 HF HS; replace HS := Bx.mk HS
     refine zm HF ?_;clear HF a;intro a HF
     replace HS := Bx.mk (HS.out.nilRow PtrD.cells 5 41 (some ⟨b16, 0, none⟩))
     refine wl_appL rfl HF rfl rfl rfl (HF.ev rfl) (HF.ev rfl) elemQ PtrD.cells_len HS.out 0 (xs := []) rfl (ys := l15) (St.rdOf HS.out PtrD.cells_len 1 rfl) (cells_one_Q _) (by unfold maxLen; (try simp only [List.length_append, List.length_cons, List.length_nil, List.nil_append, List.length_map]); omega) (by (try simp only [List.length_append, List.length_cons, List.length_nil, List.nil_append, List.length_map]); omega) ?_; clear HF HS a; intro ao18 cp19 w15 a HF HS; replace HS := Bx.mk HS
     try dsimp only [List.eraseIdx] at HS
     refine zm HF ?_;clear HF a;intro a HF
     refine wl_appL rfl HF rfl rfl rfl (HF.ev rfl) (HF.ev rfl) elemQ PtrD.cells_len HS.out 0 (xs := ([]) ++ l15) rfl (ys := ([]) ++ r) (St.rdN HS.out PtrD.cells_len 3 rfl) (cells_one_Q _) (by unfold maxLen; (try simp only [List.length_append, List.length_cons, List.length_nil, List.nil_append, List.length_map]); omega) (by (try simp only [List.length_append, List.length_cons, List.length_nil, List.nil_append, List.length_map]); omega) ?_; clear HF HS a; intro ao20 cp21 w16 a HF HS; replace HS := Bx.mk HS
     try dsimp only [List.eraseIdx] at HS
     refine za HF ?_;clear HF a;intro a HF
     refine wpList_nil ?_
     refine ex_block ?_
     refine ex_then ?_
     have hz22 : os.length + ([p]).length = (os ++ ([p])).length := by simp only [List.length_append, List.length_nil, List.length_cons]
     rw [hz22] at HS HF
     have hz23 : (([] : List PtrD) ++ l15).length + (([] : List PtrD) ++ r).length = ((([]) ++ l15) ++ (([]) ++ r)).length := by simp only [List.length_append, List.length_nil, List.length_cons]
     rw [hz23] at HS HF
     obtain ⟨hnew, hlt⟩ := hall.kids hph (by omega) hk15
     replace HS:=Bx.mk ((((HS.out.pick 8 rfl).pick 8 rfl).pick 2 rfl).pick 7 rfl)
     exact ⟨_, ⟨_, _, _, _, _, _, ⟨hnew, rfl⟩, HF.less _ ⟨rfl, rfl, rfl, rfl, rfl, rfl, rfl, trivial⟩, (((((HS.out.erase 8).erase 7).erase 6).erase 5).erase 4)⟩, (by omega)⟩
    ·skip
     obtain ⟨_, _, _, _, hks, _⟩ := hall.below hph (by omega); rw [hks] at hk15; cases hk15
   ·clear HF;rename_i HF
    have dcc3 := of_decide_eq_false cc3
    refine wc_false HF rfl ?_
    refine wp_skip ?_
    refine ex_block ?_
    refine ex_then ?_
    have hz24 : os.length + ([p]).length = (os ++ ([p])).length := by simp only [List.length_append, List.length_nil, List.length_cons]
    rw [hz24] at HS HF
    have hz25 : ([] : List PtrD).length + r.length = (([]) ++ r).length := by simp only [List.length_append, List.length_nil, List.length_cons]
    rw [hz25] at HS HF
    obtain ⟨hnew, hlt⟩ := hall.leaf hph (by omega)
    replace HS:=Bx.mk ((((HS.out.pick 6 rfl).pick 6 rfl).pick 3 rfl).pick 5 rfl)
    exact ⟨_, ⟨_, _, _, _, _, _, ⟨hnew, rfl⟩, HF.less _ ⟨rfl, rfl, rfl, rfl, rfl, rfl, rfl, trivial⟩, (((HS.out.erase 6).erase 5).erase 4)⟩, (by omega)⟩
 ·clear HF;rename_i HF
  have dcc1 := of_decide_eq_false cc1
  refine wc_false HF rfl ?_
  refine wp_exit ?_
  refine ex_then_exit ?_
  refine ex_then_exit ?_
  refine ex_block_hit ?_
  refine ex_then ?_
  refine wp_sr ?_
  refine zm HF ?_;clear HF a;intro a HF
  refine za HF ?_;clear HF a;intro a HF
  refine wl_ne ?_
  refine wp_ret ?_
  refine bp_ret1 HF Tryz.results29 (HF.res rfl) ?_
  obtain rfl : ts = [] := by cases ts with | nil => rfl | cons p r => exact absurd (by assumption : ¬ (0 : Int) < (((p :: r).length : Nat) : Int)) (by simp)
  have hA := hall.done; subst hA
  exact ⟨_, _, rfl, (((HS.out.erase 3).erase 2).erase 1)⟩

theorem specTreeAll_any (a0 : Option Addr) (c0 : Nat) (a1 : Option Addr) (c1 : Nat) (a2 : Option Addr) (c2 : Nat) (a4 : Option Addr) (c4 : Nat) (a6 : Option Addr) (c6 : Nat) (st : StoreD) (t : TreeD) (w0 : World) (hV0 : StoreD.Reads w0 (.agg #[.slice a0 st.fRows.length c0, .slice a1 st.fSpace.fRefs.length c1, .slice a2 st.fSpace.fLast.length c2, .int .i64 st.fTxg, .slice a4 st.fGone.length c4, .int .i64 st.fKeep, .slice a6 st.fDead.length c6, .bool st.fSame]) st) (hf : st.Fit) (hi : -9223372036854775808 ≤ st.fTxg) : Calls Tryz.prog 8 #[.agg #[.slice a0 st.fRows.length c0, .slice a1 st.fSpace.fRefs.length c1, .slice a2 st.fSpace.fLast.length c2, .int .i64 st.fTxg, .slice a4 st.fGone.length c4, .int .i64 st.fKeep, .slice a6 st.fDead.length c6, .bool st.fSame], .agg #[.int .i64 t.fRoot.fAt, .int .i64 t.fRoot.fBirth, .int .i64 t.fRoot.fSize, .int .i64 t.fRoot.fSum, .int .i64 t.fRoot.fLevel, .int .i64 t.fDepth, .int .i64 t.fMany]] w0 fun e w' => ∃ ao cp, e = .returned (.tuple #[.slice ao (treeAllF st t).length cp, .bool (okT st t)]) ∧ St w0 [rowA PtrD.cells 5 41 (.slice ao (treeAllF st t).length cp) (treeAllF st t)] w' := by
 have hV := Bx.mk hV0; clear hV0
 have HS := Bx.mk (St.start w0)
 refine wc_enter Tryz.func8 rfl Tryz.ntmps8 [(0, .agg #[.slice a0 st.fRows.length c0, .slice a1 st.fSpace.fRefs.length c1, .slice a2 st.fSpace.fLast.length c2, .int .i64 st.fTxg, .slice a4 st.fGone.length c4, .int .i64 st.fKeep, .slice a6 st.fDead.length c6, .bool st.fSame]), (1, .agg #[.int .i64 t.fRoot.fAt, .int .i64 t.fRoot.fBirth, .int .i64 t.fRoot.fSize, .int .i64 t.fRoot.fSum, .int .i64 t.fRoot.fLevel, .int .i64 t.fDepth, .int .i64 t.fMany])] ⟨rfl, rfl, trivial⟩ rfl ?_; intro a HF
 refine wp_sr ?_
 refine wl_box rfl HF rfl (HF.ev rfl) (Z := [.slice a0 st.fRows.length c0, .slice a1 st.fSpace.fRefs.length c1, .slice a2 st.fSpace.fLast.length c2, .int .i64 st.fTxg, .slice a4 st.fGone.length c4, .int .i64 st.fKeep, .slice a6 st.fDead.length c6, .bool st.fSame]) rfl rfl rfl rfl HS.out ?_; clear HF HS a; intro a w1 b1 HF HS; replace HS := Bx.mk HS
 refine wl_box rfl HF rfl (HF.ev rfl) (Z := [.int .i64 t.fRoot.fAt, .int .i64 t.fRoot.fBirth, .int .i64 t.fRoot.fSize, .int .i64 t.fRoot.fSum, .int .i64 t.fRoot.fLevel, .int .i64 t.fDepth, .int .i64 t.fMany]) rfl rfl rfl rfl HS.out ?_; clear HF HS a; intro a w2 b2 HF HS; replace HS := Bx.mk HS
 refine za HF ?_;clear HF a;intro a HF
 refine za HF ?_;clear HF a;intro a HF
 refine wl_ne ?_
 refine wp_seq ?_
 refine wp_sr ?_
 refine zy HF (ylr (cs := [.slice a0 st.fRows.length c0, .slice a1 st.fSpace.fRefs.length c1, .slice a2 st.fSpace.fLast.length c2, .int .i64 st.fTxg, .slice a4 st.fGone.length c4, .int .i64 st.fKeep, .slice a6 st.fDead.length c6, .bool st.fSame]) rfl (HF.ev rfl) ((HS.out.box 1 rfl).sub 0 8)) ?_;clear HF a;intro a HF
 refine zy HF (ylr (cs := [.int .i64 t.fRoot.fAt, .int .i64 t.fRoot.fBirth, .int .i64 t.fRoot.fSize, .int .i64 t.fRoot.fSum, .int .i64 t.fRoot.fLevel, .int .i64 t.fDepth, .int .i64 t.fMany]) rfl (HF.ev rfl) ((HS.out.box 0 rfl).sub 0 7)) ?_;clear HF a;intro a HF
 refine wl_callB rfl HF rfl (enter_of Tryz.func28 (by kernel_rfl) rfl) (args := #[.agg #[.slice a0 st.fRows.length c0, .slice a1 st.fSpace.fRefs.length c1, .slice a2 st.fSpace.fLast.length c2, .int .i64 st.fTxg, .slice a4 st.fGone.length c4, .int .i64 st.fKeep, .slice a6 st.fDead.length c6, .bool st.fSame], .agg #[.int .i64 t.fRoot.fAt, .int .i64 t.fRoot.fBirth, .int .i64 t.fRoot.fSize, .int .i64 t.fRoot.fSum, .int .i64 t.fRoot.fLevel, .int .i64 t.fDepth, .int .i64 t.fMany]]) rfl (v := .bool (okT st t)) (specTreeOk_any a0 c0 a1 c1 a2 c2 a4 c4 a6 c6 st t _ (hV.out.below HS.out.bel) hf hi) rfl rfl HS.out ?_; clear HF HS a; intro w3 a HS HF; replace HS := Bx.mk HS
 refine zy HF (yl_not rfl (HF.ev rfl)) ?_;clear HF a;intro a HF
 refine wl_ne ?_
 refine HF.cases 9 rfl (fun cc1 _ => ?_) fun cc1 _ => ?_
 ·clear HF;rename_i HF
  have hokt : okT st t = false := by simpa using cc1
  refine wc_true HF rfl ?_
  refine wp_sr ?_
  refine wl_empty (e := 41) (size := 5) rfl HF rfl rfl rfl (by kernel_rfl) HS.out ?_; clear HF HS a; intro a w4 b3 HF HS; replace HS := Bx.mk HS
  refine za HF ?_;clear HF a;intro a HF
  refine za HF ?_;clear HF a;intro a HF
  refine wl_ne ?_
  refine wp_ret ?_
  refine ex_then_ret ?_
  refine bp_ret2 HF Tryz.results8 (HF.res rfl) (HF.res rfl) ?_
  have h := treeAllF_no hokt; exact ⟨(some ⟨b3, 0, none⟩), 0, by rw [h, hokt] <;> rfl, by rw [h]; exact ((((HS.out).nilRow PtrD.cells 5 41 (some ⟨b3, 0, none⟩)).erase 2).erase 1)⟩
 ·clear HF;rename_i HF
  have hokt : okT st t = true := by simpa using cc1
  refine wc_false HF rfl ?_
  refine wp_skip ?_
  refine ex_then ?_
  refine wp_sr ?_
  refine zy HF (ylr (cs := [.slice a0 st.fRows.length c0, .slice a1 st.fSpace.fRefs.length c1, .slice a2 st.fSpace.fLast.length c2, .int .i64 st.fTxg, .slice a4 st.fGone.length c4, .int .i64 st.fKeep, .slice a6 st.fDead.length c6, .bool st.fSame]) rfl (HF.ev rfl) ((HS.out.box 1 rfl).sub 0 8)) ?_;clear HF a;intro a HF
  refine zy HF (ylr (cs := [.int .i64 t.fRoot.fAt, .int .i64 t.fRoot.fBirth, .int .i64 t.fRoot.fSize, .int .i64 t.fRoot.fSum, .int .i64 t.fRoot.fLevel, .int .i64 t.fDepth, .int .i64 t.fMany]) rfl (HF.ev rfl) ((HS.out.box 0 rfl).sub 0 7)) ?_;clear HF a;intro a HF
  refine wl_call rfl HF rfl (enter_of Tryz.func29 (by kernel_rfl) rfl) (args := #[.agg #[.slice a0 st.fRows.length c0, .slice a1 st.fSpace.fRefs.length c1, .slice a2 st.fSpace.fLast.length c2, .int .i64 st.fTxg, .slice a4 st.fGone.length c4, .int .i64 st.fKeep, .slice a6 st.fDead.length c6, .bool st.fSame], .agg #[.int .i64 t.fRoot.fAt, .int .i64 t.fRoot.fBirth, .int .i64 t.fRoot.fSize, .int .i64 t.fRoot.fSum, .int .i64 t.fRoot.fLevel, .int .i64 t.fDepth, .int .i64 t.fMany]]) rfl (l8All_any a0 c0 a1 c1 a2 c2 a4 c4 a6 c6 st t _ ((reads_rows hV.out).below HS.out.bel) (ok_rows (okT_parts hokt).1) (okT_parts hokt).2.2) rfl rfl ?_
  rintro _ w5 ⟨ao4, cp4, rfl, hs⟩
  refine ⟨_, rfl, ?_⟩
  replace HS := Bx.mk (HS.out.add hs);clear hs HF a;intro a HF
  try dsimp only [List.eraseIdx] at HS
  refine za HF ?_;clear HF a;intro a HF
  refine za HF ?_;clear HF a;intro a HF
  refine wl_ne ?_
  refine wp_ret ?_
  refine bp_ret2 HF Tryz.results8 (HF.res rfl) (HF.res rfl) ?_
  have h := treeAllF_yes hokt; exact ⟨_, _, by rw [h, hokt] <;> rfl, by rw [h]; exact ((HS.out.erase 2).erase 1)⟩

end Go.Proofs.YtebpodlkndnepaaGreatDoor

/- A part of a box is written as a whole. -/
namespace Go.Proofs.YtebpodlkndnepaaGreatDoor
set_option linter.unusedVariables false
set_option linter.unusedSimpArgs false
set_option maxHeartbeats 1000000
set_option maxRecDepth 100000
open Go.RowKit

theorem Box.putAt {w : World} {b n : Nat} {t : TypeId} {cs : List Value} (h : Box w b n t (.agg cs.toArray)) (k : Nat) (ds : List Value) (hk : k + ds.length ≤ cs.length) (g1 : ∀ u ∈ ds, u.oneCell' = true) :
    w.there b k ds.length ∧ Box (w.setCells b k ds) b n t (.agg (splice cs k ds).toArray) ∧ Outside b (b + 1) w (w.setCells b k ds) := by
  obtain ⟨cs', e, hl, h1, hh⟩ := h
  obtain rfl : cs = cs' := by simpa using e
  obtain ⟨k1, k2, k3⟩ := blk_setCells ds k w cs hh hk
  refine ⟨fun j hj => ⟨by rw [blk_cell hh]; simp; omega, blk_frozen hh _⟩, ⟨_, rfl, ?_, ?_, k1⟩, k2⟩
  · unfold splice; simp; omega
  · intro u hu
    unfold splice at hu
    rcases List.mem_append.1 hu with hu | hu
    · rcases List.mem_append.1 hu with hu | hu
      · exact h1 u (List.mem_of_mem_take hu)
      · exact g1 u hu
    · exact h1 u (List.mem_of_mem_drop hu)
section
variable {P : Program} {ops : Array Oper} {Q : Exit → Act → World → Prop} {rest : List Oper} {o : Oper} {a : Act} {W w : World} {s : List Asr}
theorem wl_storeSub (hg : o.guard = none) {t : TypeId} {x y : Operand} (ho : o.op = .store t x y) (hd : o.dst = none) {b n k : Nat} {T : TypeId} {cs ds rs : List Value} (hx : a.eval x = .pointer (some ⟨b, k, none⟩)) (hy : a.eval y = .agg ds.toArray) (hS : St W s w) (i : Nat) (hi : s[i]? = some (boxA b n T (.agg cs.toArray))) (hk : Nat.ble (k + ds.length) cs.length = true) (hv : (ds.all fun u => u.oneCell') = true) (hn : rowOf? P t ds.length = true) (hr : splice cs k ds = rs)
    (h : ∀ w', St W (s.set i (boxA b n T (.agg rs.toArray))) w' → wpList P ops Q rest a w') : wpList P ops Q (o :: rest) a w := by
  obtain ⟨k1, k2, k3⟩ := (hS.box i hi).putAt k ds (Nat.le_of_ble_eq_true hk) (List.all_eq_true.1 hv)
  refine wpList_plain hg fun K hK => wp_store_mid t x y ho b k ds.toArray hx hy (by simpa using k1) (by rw [(rowOf_spec hn).2]; simp) (by simpa using hv) ?_
  rw [hd]
  exact hK _ _ (h _ (by rw [← hr]; exact hS.putBox i hi k2 k3))
end
end Go.Proofs.YtebpodlkndnepaaGreatDoor

/- Trees handed in; TreeAll over stores handed in. -/
namespace Go.Proofs.YtebpodlkndnepaaGreatDoor
set_option linter.unusedVariables false
set_option linter.unusedSimpArgs false
set_option maxHeartbeats 1000000
set_option maxRecDepth 100000
open Go.RowKit

theorem toTree2_any (t : TreeD) (w0 : World) : Calls Tryz.prog 10 #[.agg #[.int .i64 t.fRoot.fAt, .int .i64 t.fRoot.fBirth, .int .i64 t.fRoot.fSize, .int .i64 t.fRoot.fSum, .int .i64 t.fRoot.fLevel, .int .i64 t.fDepth, .int .i64 t.fMany]] w0 fun e w' => e = .returned (.agg #[.int .i64 t.fRoot.fAt, .int .i64 t.fRoot.fBirth, .int .i64 t.fRoot.fSize, .int .i64 t.fRoot.fSum, .int .i64 t.fRoot.fLevel, .int .i64 t.fDepth, .int .i64 t.fMany]) ∧ Below w0.heap.size w0 w' := by
 have HS := Bx.mk (St.start w0)
 refine wc_enter Tryz.func10 rfl Tryz.ntmps10 [(0, .agg #[.int .i64 t.fRoot.fAt, .int .i64 t.fRoot.fBirth, .int .i64 t.fRoot.fSize, .int .i64 t.fRoot.fSum, .int .i64 t.fRoot.fLevel, .int .i64 t.fDepth, .int .i64 t.fMany])] ⟨rfl, trivial⟩ rfl ?_; intro a HF
 refine wp_sr ?_
 refine wl_box rfl HF rfl (HF.ev rfl) (Z := [.int .i64 t.fRoot.fAt, .int .i64 t.fRoot.fBirth, .int .i64 t.fRoot.fSize, .int .i64 t.fRoot.fSum, .int .i64 t.fRoot.fLevel, .int .i64 t.fDepth, .int .i64 t.fMany]) rfl rfl rfl rfl HS.out ?_; clear HF HS a; intro a w1 b1 HF HS; replace HS := Bx.mk HS
 refine wl_alloc rfl HF rfl rfl rfl (Z := [.int .i64 0, .int .i64 0, .int .i64 0, .int .i64 0, .int .i64 0, .int .i64 0, .int .i64 0]) (by kernel_rfl) rfl HS.out ?_; clear HF HS a; intro a w2 b2 HF HS; replace HS := Bx.mk HS
 refine wl_ne ?_
 refine wp_sr ?_
 refine wl_alloc rfl HF rfl rfl rfl (Z := [.int .i64 0, .int .i64 0, .int .i64 0, .int .i64 0, .int .i64 0, .int .i64 0, .int .i64 0]) (by kernel_rfl) rfl HS.out ?_; clear HF HS a; intro a w3 b3 HF HS; replace HS := Bx.mk HS
 refine wl_ne ?_
 refine wp_sr ?_
 refine zy HF (yfa 0 rfl (HF.ev rfl)) ?_;clear HF a;intro a HF
 refine zy HF (ylr (cs := [.int .i64 t.fRoot.fAt, .int .i64 t.fRoot.fBirth, .int .i64 t.fRoot.fSize, .int .i64 t.fRoot.fSum, .int .i64 t.fRoot.fLevel]) rfl (HF.ev rfl) ((HS.out.box 2 rfl).sub 0 5)) ?_;clear HF a;intro a HF
 refine wl_callB rfl HF rfl (enter_of Tryz.func33 (by kernel_rfl) rfl) (args := #[.agg #[.int .i64 t.fRoot.fAt, .int .i64 t.fRoot.fBirth, .int .i64 t.fRoot.fSize, .int .i64 t.fRoot.fSum, .int .i64 t.fRoot.fLevel]]) rfl (v := .agg #[.int .i64 t.fRoot.fAt, .int .i64 t.fRoot.fBirth, .int .i64 t.fRoot.fSize, .int .i64 t.fRoot.fSum, .int .i64 t.fRoot.fLevel]) (toPtr_any t.fRoot _) rfl rfl HS.out ?_; clear HF HS a; intro w4 a HS HF; replace HS := Bx.mk HS
 refine zy HF (yfa 0 rfl (HF.ev rfl)) ?_;clear HF a;intro a HF
 refine wl_storeSub rfl rfl rfl (HF.ev rfl) (HF.ev rfl) HS.out 0 rfl (by kernel_rfl) rfl (by kernel_rfl) (rs := [.int .i64 t.fRoot.fAt, .int .i64 t.fRoot.fBirth, .int .i64 t.fRoot.fSize, .int .i64 t.fRoot.fSum, .int .i64 t.fRoot.fLevel, .int .i64 0, .int .i64 0]) rfl ?_; clear HS; intro w5 HS; replace HS := Bx.mk HS
 have HS : Bx (St w0 ([boxA b3 7 43 (.agg #[.int .i64 t.fRoot.fAt, .int .i64 t.fRoot.fBirth, .int .i64 t.fRoot.fSize, .int .i64 t.fRoot.fSum, .int .i64 t.fRoot.fLevel, .int .i64 0, .int .i64 0]), boxA b2 7 43 (.agg #[.int .i64 0, .int .i64 0, .int .i64 0, .int .i64 0, .int .i64 0, .int .i64 0, .int .i64 0]), boxA b1 7 32 (.agg #[.int .i64 t.fRoot.fAt, .int .i64 t.fRoot.fBirth, .int .i64 t.fRoot.fSize, .int .i64 t.fRoot.fSum, .int .i64 t.fRoot.fLevel, .int .i64 t.fDepth, .int .i64 t.fMany])]) _) := HS
 refine wl_ne ?_
 refine wp_sr ?_
 refine zy HF (yfa 5 rfl (HF.ev rfl)) ?_;clear HF a;intro a HF
 refine zy HF (ylo (v := .int .i64 t.fDepth) rfl (HF.ev rfl) (((HS.out.box 2 rfl).cell 5).trans rfl)) ?_;clear HF a;intro a HF
 refine zy HF (yfa 5 rfl (HF.ev rfl)) ?_;clear HF a;intro a HF
 refine wl_storeF rfl rfl rfl (HF.ev rfl) (HF.ev rfl) (by kernel_rfl) HS.out 0 rfl rfl rfl ?_; clear HS; intro w6 HS; replace HS := Bx.mk HS
 have HS : Bx (St w0 ([boxA b3 7 43 (.agg #[.int .i64 t.fRoot.fAt, .int .i64 t.fRoot.fBirth, .int .i64 t.fRoot.fSize, .int .i64 t.fRoot.fSum, .int .i64 t.fRoot.fLevel, .int .i64 t.fDepth, .int .i64 0]), boxA b2 7 43 (.agg #[.int .i64 0, .int .i64 0, .int .i64 0, .int .i64 0, .int .i64 0, .int .i64 0, .int .i64 0]), boxA b1 7 32 (.agg #[.int .i64 t.fRoot.fAt, .int .i64 t.fRoot.fBirth, .int .i64 t.fRoot.fSize, .int .i64 t.fRoot.fSum, .int .i64 t.fRoot.fLevel, .int .i64 t.fDepth, .int .i64 t.fMany])]) _) := HS
 refine wl_ne ?_
 refine wp_sr ?_
 refine zy HF (yfa 6 rfl (HF.ev rfl)) ?_;clear HF a;intro a HF
 refine zy HF (ylo (v := .int .i64 t.fMany) rfl (HF.ev rfl) (((HS.out.box 2 rfl).cell 6).trans rfl)) ?_;clear HF a;intro a HF
 refine zy HF (yfa 6 rfl (HF.ev rfl)) ?_;clear HF a;intro a HF
 refine wl_storeF rfl rfl rfl (HF.ev rfl) (HF.ev rfl) (by kernel_rfl) HS.out 0 rfl rfl rfl ?_; clear HS; intro w7 HS; replace HS := Bx.mk HS
 have HS : Bx (St w0 ([boxA b3 7 43 (.agg #[.int .i64 t.fRoot.fAt, .int .i64 t.fRoot.fBirth, .int .i64 t.fRoot.fSize, .int .i64 t.fRoot.fSum, .int .i64 t.fRoot.fLevel, .int .i64 t.fDepth, .int .i64 t.fMany]), boxA b2 7 43 (.agg #[.int .i64 0, .int .i64 0, .int .i64 0, .int .i64 0, .int .i64 0, .int .i64 0, .int .i64 0]), boxA b1 7 32 (.agg #[.int .i64 t.fRoot.fAt, .int .i64 t.fRoot.fBirth, .int .i64 t.fRoot.fSize, .int .i64 t.fRoot.fSum, .int .i64 t.fRoot.fLevel, .int .i64 t.fDepth, .int .i64 t.fMany])]) _) := HS
 refine wl_ne ?_
 refine wp_sr ?_
 refine zy HF (ylr (cs := [.int .i64 t.fRoot.fAt, .int .i64 t.fRoot.fBirth, .int .i64 t.fRoot.fSize, .int .i64 t.fRoot.fSum, .int .i64 t.fRoot.fLevel, .int .i64 t.fDepth, .int .i64 t.fMany]) rfl (HF.ev rfl) ((HS.out.box 0 rfl).sub 0 7)) ?_;clear HF a;intro a HF
 refine wl_storeBox rfl HF rfl rfl (HF.ev rfl) (HF.ev rfl) HS.out 1 rfl (cells_lit [.int .i64 t.fRoot.fAt, .int .i64 t.fRoot.fBirth, .int .i64 t.fRoot.fSize, .int .i64 t.fRoot.fSum, .int .i64 t.fRoot.fLevel, .int .i64 t.fDepth, .int .i64 t.fMany] rfl rfl) (by kernel_rfl) ?_; clear HS; intro w8 HS; replace HS := Bx.mk HS
 have HS : Bx (St w0 ([boxA b3 7 43 (.agg #[.int .i64 t.fRoot.fAt, .int .i64 t.fRoot.fBirth, .int .i64 t.fRoot.fSize, .int .i64 t.fRoot.fSum, .int .i64 t.fRoot.fLevel, .int .i64 t.fDepth, .int .i64 t.fMany]), boxA b2 7 43 (.agg #[.int .i64 t.fRoot.fAt, .int .i64 t.fRoot.fBirth, .int .i64 t.fRoot.fSize, .int .i64 t.fRoot.fSum, .int .i64 t.fRoot.fLevel, .int .i64 t.fDepth, .int .i64 t.fMany]), boxA b1 7 32 (.agg #[.int .i64 t.fRoot.fAt, .int .i64 t.fRoot.fBirth, .int .i64 t.fRoot.fSize, .int .i64 t.fRoot.fSum, .int .i64 t.fRoot.fLevel, .int .i64 t.fDepth, .int .i64 t.fMany])]) _) := HS
 refine wl_ne ?_
 refine wp_ret ?_
 refine bp_ret1 HF Tryz.results10 (HF.resBox rfl (HS.out.box 1 rfl) (by kernel_rfl)) ?_
 exact ⟨rfl, HS.out.bel⟩

theorem implTreeAll_v (v : Value) (st : StoreD) (t : TreeD) (w0 : World) (hT : TabP w0) (hM : MaxP w0) (hE : ErrP w0) (hr : StoreD.Reads w0 v st) (hf : st.Fit) : Calls Tryz.prog 11 #[v, .agg #[.int .i64 t.fRoot.fAt, .int .i64 t.fRoot.fBirth, .int .i64 t.fRoot.fSize, .int .i64 t.fRoot.fSum, .int .i64 t.fRoot.fLevel, .int .i64 t.fDepth, .int .i64 t.fMany]] w0 fun e w' => ∃ ao cp, e = .returned (.tuple #[.slice ao (treeAllF st t).length cp, .bool (okT st t)]) ∧ St w0 [rowA PtrD.cells 5 41 (.slice ao (treeAllF st t).length cp) (treeAllF st t)] w' := by
  have hr2 := hr
  obtain ⟨a0, c0, a1, c1, a2, c2, a4, c4, a6, c6, rfl, _⟩ := hr
  exact implTreeAll_any a0 c0 a1 c1 a2 c2 a4 c4 a6 c6 st t w0 hT hM hE hr2 hf

theorem specTreeAll_v (v : Value) (st : StoreD) (t : TreeD) (w0 : World) (hr : StoreD.Reads w0 v st) (hf : st.Fit) (hi : -9223372036854775808 ≤ st.fTxg) : Calls Tryz.prog 8 #[v, .agg #[.int .i64 t.fRoot.fAt, .int .i64 t.fRoot.fBirth, .int .i64 t.fRoot.fSize, .int .i64 t.fRoot.fSum, .int .i64 t.fRoot.fLevel, .int .i64 t.fDepth, .int .i64 t.fMany]] w0 fun e w' => ∃ ao cp, e = .returned (.tuple #[.slice ao (treeAllF st t).length cp, .bool (okT st t)]) ∧ St w0 [rowA PtrD.cells 5 41 (.slice ao (treeAllF st t).length cp) (treeAllF st t)] w' := by
  have hr2 := hr
  obtain ⟨a0, c0, a1, c1, a2, c2, a4, c4, a6, c6, rfl, _⟩ := hr
  exact specTreeAll_any a0 c0 a1 c1 a2 c2 a4 c4 a6 c6 st t w0 hr2 hf hi

theorem treeAllF_21 (st : StoreD) (t : TreeD) : (treeAllF st t).length ≤ 21 := by
  cases h : okT st t with
  | false => rw [treeAllF_no h]; decide
  | true =>
    rw [treeAllF_yes h]
    have h1 := allL_len (okT_parts h).2.2
    have h2 := depthN_le t.fMany
    rcases (by omega : depthN t.fMany = 0 ∨ depthN t.fMany = 1 ∨ depthN t.fMany = 2) with e | e | e <;> rw [e] at h1 ⊢ <;> exact Nat.le_trans h1 (by decide)

end Go.Proofs.YtebpodlkndnepaaGreatDoor

/- StoreD: how it is owned, thing by thing. -/
namespace Go.Proofs.YtebpodlkndnepaaGreatDoor
set_option linter.unusedVariables false
set_option linter.unusedSimpArgs false
set_option maxHeartbeats 1000000
set_option maxRecDepth 100000
open Go.RowKit

theorem StoreD.Own.loc (w w' : World) (B B1 : Nat) (v : Value) (x : StoreD) (hb : ∀ b, B ≤ b → b < B1 → w'.heap[b]? = w.heap[b]?) (h : StoreD.Own w B B1 v x) : StoreD.Own w' B B1 v x := by
  obtain ⟨a0, c0, a1, c1, a2, c2, a4, c4, a6, c6, rfl, r0, r1, r2, r4, r6, p0_1, p0_2, p0_4, p0_6, p1_2, p1_4, p1_6, p2_4, p2_6, p4_6⟩ := h
  exact ⟨a0, c0, a1, c1, a2, c2, a4, c4, a6, c6, rfl, r0.loc hb, r1.loc hb, r2.loc hb, r4.loc hb, r6.loc hb, p0_1, p0_2, p0_4, p0_6, p1_2, p1_4, p1_6, p2_4, p2_6, p4_6⟩
end Go.Proofs.YtebpodlkndnepaaGreatDoor

/- FnExactTreeAll: the law's walk. -/
namespace Go.Proofs.YtebpodlkndnepaaGreatDoor
set_option linter.unusedVariables false
set_option linter.unusedSimpArgs false
set_option maxHeartbeats 1000000
set_option maxRecDepth 100000
open Go.RowKit

theorem StoreD.past_pos2 (x : StoreD) : 0 < x.past 1 := by unfold StoreD.past; omega
set_option maxHeartbeats 4000000 in
theorem lawTreeAll_any (va : Value) (st : StoreD) (t : TreeD) (w0 : World) (hT : TabP w0) (hM : MaxP w0) (hE : ErrP w0) (hr : StoreD.Reads w0 va st) (hsm : st.Small) (hi : -9223372036854775808 ≤ st.fTxg) : Calls Tryz.prog 3 #[va, .agg #[.int .i64 t.fRoot.fAt, .int .i64 t.fRoot.fBirth, .int .i64 t.fRoot.fSize, .int .i64 t.fRoot.fSum, .int .i64 t.fRoot.fLevel, .int .i64 t.fDepth, .int .i64 t.fMany]] w0 fun e w' => e = .returned (.bool true) ∧ Below w0.heap.size w0 w' := by
 have HT := Bx.mk hT; have HM := Bx.mk hM; have HE := Bx.mk hE; clear hT hM hE
 have HR := Bx.mk hr
 obtain ⟨a0, c0, a1, c1, a2, c2, a4, c4, a6, c6, rfl, _⟩ := hr
 have HS := Bx.mk (St.start w0)
 refine wc_enter Tryz.func3 rfl Tryz.ntmps3 [(0, .agg #[.slice a0 st.fRows.length c0, .slice a1 st.fSpace.fRefs.length c1, .slice a2 st.fSpace.fLast.length c2, .int .i64 st.fTxg, .slice a4 st.fGone.length c4, .int .i64 st.fKeep, .slice a6 st.fDead.length c6, .bool st.fSame]), (1, .agg #[.int .i64 t.fRoot.fAt, .int .i64 t.fRoot.fBirth, .int .i64 t.fRoot.fSize, .int .i64 t.fRoot.fSum, .int .i64 t.fRoot.fLevel, .int .i64 t.fDepth, .int .i64 t.fMany])] ⟨rfl, rfl, trivial⟩ rfl ?_; intro a HF
 refine wp_sr ?_
 refine wl_box rfl HF rfl (HF.ev rfl) (Z := [.slice a0 st.fRows.length c0, .slice a1 st.fSpace.fRefs.length c1, .slice a2 st.fSpace.fLast.length c2, .int .i64 st.fTxg, .slice a4 st.fGone.length c4, .int .i64 st.fKeep, .slice a6 st.fDead.length c6, .bool st.fSame]) rfl rfl rfl rfl HS.out ?_; clear HF HS a; intro a w1 b1 HF HS; replace HS := Bx.mk HS
 refine wl_box rfl HF rfl (HF.ev rfl) (Z := [.int .i64 t.fRoot.fAt, .int .i64 t.fRoot.fBirth, .int .i64 t.fRoot.fSize, .int .i64 t.fRoot.fSum, .int .i64 t.fRoot.fLevel, .int .i64 t.fDepth, .int .i64 t.fMany]) rfl rfl rfl rfl HS.out ?_; clear HF HS a; intro a w2 b2 HF HS; replace HS := Bx.mk HS
 refine za HF ?_;clear HF a;intro a HF
 refine wl_ne ?_
 refine wp_sr ?_
 refine za HF ?_;clear HF a;intro a HF
 refine wl_ne ?_
 refine wp_sr ?_
 refine zy HF (ylr (cs := [.slice a0 st.fRows.length c0, .slice a1 st.fSpace.fRefs.length c1, .slice a2 st.fSpace.fLast.length c2, .int .i64 st.fTxg, .slice a4 st.fGone.length c4, .int .i64 st.fKeep, .slice a6 st.fDead.length c6, .bool st.fSame]) rfl (HF.ev rfl) ((HS.out.box 1 rfl).sub 0 8)) ?_;clear HF a;intro a HF
 refine zm HF ?_;clear HF a;intro a HF
 refine wl_callB rfl HF rfl (enter_of Tryz.func7 (by kernel_rfl) rfl) (args := #[.agg #[.slice a0 st.fRows.length c0, .slice a1 st.fSpace.fRefs.length c1, .slice a2 st.fSpace.fLast.length c2, .int .i64 st.fTxg, .slice a4 st.fGone.length c4, .int .i64 st.fKeep, .slice a6 st.fDead.length c6, .bool st.fSame], .int .i64 1048576]) rfl (v := .int .i64 (leftOf 1048576 st.bulk)) (szStore_any _ st 1048576 _ (by omega) (by omega) (HR.out.below HS.out.bel) hsm) rfl rfl HS.out ?_; clear HF HS a; intro w3 a HS HF; replace HS := Bx.mk HS
 refine za HF ?_;clear HF a;intro a HF
 refine wl_ne ?_
 refine wp_seq ?_
 refine wp_sr ?_
 refine zm HF ?_;clear HF a;intro a HF
 refine zy HF (yl_lssI rfl (HF.ev rfl) (HF.ev rfl)) ?_;clear HF a;intro a HF
 refine wl_ne ?_
 refine HF.cases 20 rfl (fun cc1 _ => ?_) fun cc1 _ => ?_
 ·clear HF;rename_i HF
  refine wc_true HF rfl ?_
  refine wp_sr ?_
  refine za HF ?_;clear HF a;intro a HF
  refine wl_ne ?_
  refine wp_ret ?_
  refine ex_then_ret ?_
  refine bp_ret1 HF Tryz.results3 (HF.res rfl) ?_
  exact ⟨rfl, HS.out.bel⟩
 ·clear HF;rename_i HF
  have hbk : st.bulk ≤ 1048576 := by have := of_decide_eq_false cc1; unfold leftOf at this; split at this <;> omega
  have hf := StoreD.fit hbk; have h21 := treeAllF_21 st t
  refine wc_false HF rfl ?_
  refine wp_skip ?_
  refine ex_then ?_
  refine wp_seq ?_
  refine wr_heldS (s := [boxA b2 7 32 (.agg #[.int .i64 t.fRoot.fAt, .int .i64 t.fRoot.fBirth, .int .i64 t.fRoot.fSize, .int .i64 t.fRoot.fSum, .int .i64 t.fRoot.fLevel, .int .i64 t.fDepth, .int .i64 t.fMany]), boxA b1 8 28 (.agg #[.slice a0 st.fRows.length c0, .slice a1 st.fSpace.fRefs.length c1, .slice a2 st.fSpace.fLast.length c2, .int .i64 st.fTxg, .slice a4 st.fGone.length c4, .int .i64 st.fKeep, .slice a6 st.fDead.length c6, .bool st.fSame])]) (by kernel_rfl) (St.drew (HS.out)) ?_
  have HS2 := Bx.mk HS.out.drew; replace HS := Bx.mk (show St w0 ([boxA b2 7 32 (.agg #[.int .i64 t.fRoot.fAt, .int .i64 t.fRoot.fBirth, .int .i64 t.fRoot.fSize, .int .i64 t.fRoot.fSum, .int .i64 t.fRoot.fLevel, .int .i64 t.fDepth, .int .i64 t.fMany]), boxA b1 8 28 (.agg #[.slice a0 st.fRows.length c0, .slice a1 st.fSpace.fRefs.length c1, .slice a2 st.fSpace.fLast.length c2, .int .i64 st.fTxg, .slice a4 st.fGone.length c4, .int .i64 st.fKeep, .slice a6 st.fDead.length c6, .bool st.fSame])]) _ from HS.out.drew)
  generalize World.drew _ = w4 at HS HS2 ⊢
  refine zh 0 rfl HF (fun _ HS => (ylr (cs := [.slice a0 st.fRows.length c0, .slice a1 st.fSpace.fRefs.length c1, .slice a2 st.fSpace.fLast.length c2, .int .i64 st.fTxg, .slice a4 st.fGone.length c4, .int .i64 st.fKeep, .slice a6 st.fDead.length c6, .bool st.fSame]) rfl (HF.ev rfl) ((HS.box 1 rfl).sub 0 8))) HS.out ?_;clear HF a;intro a HF
  refine zh 2 rfl HF (fun _ HS => (ylr (cs := [.int .i64 t.fRoot.fAt, .int .i64 t.fRoot.fBirth, .int .i64 t.fRoot.fSize, .int .i64 t.fRoot.fSum, .int .i64 t.fRoot.fLevel, .int .i64 t.fDepth, .int .i64 t.fMany]) rfl (HF.ev rfl) ((HS.box 0 rfl).sub 0 7))) HS.out ?_;clear HF a;intro a HF
  refine wh_one 1 (by kernel_rfl) ?_
  refine wo_call rfl rfl HF rfl (enter_of Tryz.func9 (by kernel_rfl) rfl) (args := #[.agg #[.slice a0 st.fRows.length c0, .slice a1 st.fSpace.fRefs.length c1, .slice a2 st.fSpace.fLast.length c2, .int .i64 st.fTxg, .slice a4 st.fGone.length c4, .int .i64 st.fKeep, .slice a6 st.fDead.length c6, .bool st.fSame]]) rfl (toStore_any _ st _ hf (HR.out.below HS.out.bel)) rfl rfl ?_
  rintro _ w6 ⟨u3, rfl, ho, hb⟩
  refine ⟨_, rfl, ?_⟩; replace HS := Bx.mk (HS.out.later hb); replace HS2 := Bx.mk (HS2.out.add (St.ivNew (loc := StoreD.Own.loc) ho hb)); clear ho hb HF; clear a; intro a HF; refine ⟨HS.out, ?_⟩
  obtain ⟨B4, C5, hh⟩ : ∃ B B1, St w0 ([ivA StoreD.Own StoreD.Own.loc B B1 u3 st, boxA b2 7 32 (.agg #[.int .i64 t.fRoot.fAt, .int .i64 t.fRoot.fBirth, .int .i64 t.fRoot.fSize, .int .i64 t.fRoot.fSum, .int .i64 t.fRoot.fLevel, .int .i64 t.fDepth, .int .i64 t.fMany]), boxA b1 8 28 (.agg #[.slice a0 st.fRows.length c0, .slice a1 st.fSpace.fRefs.length c1, .slice a2 st.fSpace.fLast.length c2, .int .i64 st.fTxg, .slice a4 st.fGone.length c4, .int .i64 st.fKeep, .slice a6 st.fDead.length c6, .bool st.fSame])]) w6 := ⟨_, _, HS2.out⟩; replace HS2 := Bx.mk hh; clear hh
  refine wh_one 3 (by kernel_rfl) ?_
  refine wo_callB rfl rfl HF rfl (enter_of Tryz.func10 (by kernel_rfl) rfl) (args := #[.agg #[.int .i64 t.fRoot.fAt, .int .i64 t.fRoot.fBirth, .int .i64 t.fRoot.fSize, .int .i64 t.fRoot.fSum, .int .i64 t.fRoot.fLevel, .int .i64 t.fDepth, .int .i64 t.fMany]]) rfl (v := .agg #[.int .i64 t.fRoot.fAt, .int .i64 t.fRoot.fBirth, .int .i64 t.fRoot.fSize, .int .i64 t.fRoot.fSum, .int .i64 t.fRoot.fLevel, .int .i64 t.fDepth, .int .i64 t.fMany]) (toTree2_any t _) rfl rfl ?_
  intro w7 hb; replace HS := Bx.mk (HS.out.later hb); replace HS2 := Bx.mk (HS2.out.later hb);clear hb HF a;intro a HF; refine ⟨HS.out, ?_⟩
  refine wh_one 4 (by kernel_rfl) ?_
  refine wo_call rfl rfl HF rfl (enter_of Tryz.func8 (by kernel_rfl) rfl) (args := #[u3, .agg #[.int .i64 t.fRoot.fAt, .int .i64 t.fRoot.fBirth, .int .i64 t.fRoot.fSize, .int .i64 t.fRoot.fSum, .int .i64 t.fRoot.fLevel, .int .i64 t.fDepth, .int .i64 t.fMany]]) rfl (specTreeAll_v _ st t _ (StoreD.Own.rd (HS2.out.iv 0 rfl)) hf hi) rfl rfl ?_
  rintro _ w9 ⟨ao7, cp7, rfl, hs⟩
  refine ⟨_, rfl, ?_⟩
  replace HS := Bx.mk (HS.out.later hs.bel); replace HS2 := Bx.mk (HS2.out.add hs);clear hs HF a;intro a HF
  replace HS2 : Bx (St w0 ([rowA PtrD.cells 5 41 (.slice ao7 ((treeAllF st t).length) cp7) (treeAllF st t), ivA StoreD.Own StoreD.Own.loc B4 C5 u3 st, boxA b2 7 32 (.agg #[.int .i64 t.fRoot.fAt, .int .i64 t.fRoot.fBirth, .int .i64 t.fRoot.fSize, .int .i64 t.fRoot.fSum, .int .i64 t.fRoot.fLevel, .int .i64 t.fDepth, .int .i64 t.fMany]), boxA b1 8 28 (.agg #[.slice a0 st.fRows.length c0, .slice a1 st.fSpace.fRefs.length c1, .slice a2 st.fSpace.fLast.length c2, .int .i64 st.fTxg, .slice a4 st.fGone.length c4, .int .i64 st.fKeep, .slice a6 st.fDead.length c6, .bool st.fSame])]) _) := ⟨HS2.out⟩
  refine ⟨HS.out, ?_⟩
  refine zh 5 rfl HF (fun _ HS => (yl_move rfl (HF.ev rfl))) HS.out ?_;clear HF a;intro a HF
  refine zh 6 rfl HF (fun _ HS => (yl_extract rfl (HF.ev rfl) rfl)) HS.out ?_;clear HF a;intro a HF
  refine zh 7 rfl HF (fun _ HS => (yl_extract rfl (HF.ev rfl) rfl)) HS.out ?_;clear HF a;intro a HF
  refine zh 8 rfl HF (fun _ HS => (yl_assign rfl (HF.ev rfl))) HS.out ?_;clear HF a;intro a HF
  refine zh 9 rfl HF (fun _ HS => (yl_assign rfl (HF.ev rfl))) HS.out ?_;clear HF a;intro a HF
  refine wh_done (by kernel_rfl) ?_
  replace HS := HS2; clear HS2
  refine ex_then ?_
  refine wp_sr ?_
  refine zy HF (ylr (cs := [.slice a0 st.fRows.length c0, .slice a1 st.fSpace.fRefs.length c1, .slice a2 st.fSpace.fLast.length c2, .int .i64 st.fTxg, .slice a4 st.fGone.length c4, .int .i64 st.fKeep, .slice a6 st.fDead.length c6, .bool st.fSame]) rfl (HF.ev rfl) ((HS.out.box 3 rfl).sub 0 8)) ?_;clear HF a;intro a HF
  refine wl_call rfl HF rfl (enter_of Tryz.func9 (by kernel_rfl) rfl) (args := #[.agg #[.slice a0 st.fRows.length c0, .slice a1 st.fSpace.fRefs.length c1, .slice a2 st.fSpace.fLast.length c2, .int .i64 st.fTxg, .slice a4 st.fGone.length c4, .int .i64 st.fKeep, .slice a6 st.fDead.length c6, .bool st.fSame]]) rfl (toStore_any _ st _ hf (HR.out.below HS.out.bel)) rfl rfl ?_
  rintro _ w10 ⟨u8, rfl, ho, hb⟩
  refine ⟨_, rfl, ?_⟩; replace HS := Bx.mk (HS.out.add (St.ivNew (loc := StoreD.Own.loc) ho hb)); clear ho hb HF; clear a; intro a HF
  obtain ⟨B9, C10, hh⟩ : ∃ B B1, St w0 ([ivA StoreD.Own StoreD.Own.loc B B1 u8 st, rowA PtrD.cells 5 41 (.slice ao7 ((treeAllF st t).length) cp7) (treeAllF st t), ivA StoreD.Own StoreD.Own.loc B4 C5 u3 st, boxA b2 7 32 (.agg #[.int .i64 t.fRoot.fAt, .int .i64 t.fRoot.fBirth, .int .i64 t.fRoot.fSize, .int .i64 t.fRoot.fSum, .int .i64 t.fRoot.fLevel, .int .i64 t.fDepth, .int .i64 t.fMany]), boxA b1 8 28 (.agg #[.slice a0 st.fRows.length c0, .slice a1 st.fSpace.fRefs.length c1, .slice a2 st.fSpace.fLast.length c2, .int .i64 st.fTxg, .slice a4 st.fGone.length c4, .int .i64 st.fKeep, .slice a6 st.fDead.length c6, .bool st.fSame])]) w10 := ⟨_, _, HS.out⟩; replace HS := Bx.mk hh; clear hh
  refine wl_alloc rfl HF rfl rfl rfl (Z := [.slice none 0 0, .slice none 0 0, .slice none 0 0, .int .i64 0, .slice none 0 0, .int .i64 0, .slice none 0 0, .bool false]) (by kernel_rfl) rfl HS.out ?_; clear HF HS a; intro a w11 b11 HF HS; replace HS := Bx.mk HS
  refine wl_storeBox rfl HF rfl rfl (HF.ev rfl) (HF.ev rfl) HS.out 0 rfl (StoreD.Own.cells (HS.out.iv 1 rfl)) (by kernel_rfl) ?_; clear HS; intro w12 HS; replace HS := Bx.mk HS
  have HS : Bx (St w0 ([boxA b11 8 39 u8, ivA StoreD.Own StoreD.Own.loc B9 C10 u8 st, rowA PtrD.cells 5 41 (.slice ao7 ((treeAllF st t).length) cp7) (treeAllF st t), ivA StoreD.Own StoreD.Own.loc B4 C5 u3 st, boxA b2 7 32 (.agg #[.int .i64 t.fRoot.fAt, .int .i64 t.fRoot.fBirth, .int .i64 t.fRoot.fSize, .int .i64 t.fRoot.fSum, .int .i64 t.fRoot.fLevel, .int .i64 t.fDepth, .int .i64 t.fMany]), boxA b1 8 28 (.agg #[.slice a0 st.fRows.length c0, .slice a1 st.fSpace.fRefs.length c1, .slice a2 st.fSpace.fLast.length c2, .int .i64 st.fTxg, .slice a4 st.fGone.length c4, .int .i64 st.fKeep, .slice a6 st.fDead.length c6, .bool st.fSame])]) _) := HS
  refine wl_ne ?_
  refine wp_seq ?_
  refine wr_heldS (s := [boxA b11 8 39 u8, ivA StoreD.Own StoreD.Own.loc B9 C10 u8 st, rowA PtrD.cells 5 41 (.slice ao7 ((treeAllF st t).length) cp7) (treeAllF st t), ivA StoreD.Own StoreD.Own.loc B4 C5 u3 st, boxA b2 7 32 (.agg #[.int .i64 t.fRoot.fAt, .int .i64 t.fRoot.fBirth, .int .i64 t.fRoot.fSize, .int .i64 t.fRoot.fSum, .int .i64 t.fRoot.fLevel, .int .i64 t.fDepth, .int .i64 t.fMany]), boxA b1 8 28 (.agg #[.slice a0 st.fRows.length c0, .slice a1 st.fSpace.fRefs.length c1, .slice a2 st.fSpace.fLast.length c2, .int .i64 st.fTxg, .slice a4 st.fGone.length c4, .int .i64 st.fKeep, .slice a6 st.fDead.length c6, .bool st.fSame])]) (by kernel_rfl) (St.drew (HS.out)) ?_
  have HS2 := Bx.mk HS.out.drew; replace HS := Bx.mk (show St w0 ([boxA b11 8 39 u8, ivA StoreD.Own StoreD.Own.loc B9 C10 u8 st, rowA PtrD.cells 5 41 (.slice ao7 ((treeAllF st t).length) cp7) (treeAllF st t), ivA StoreD.Own StoreD.Own.loc B4 C5 u3 st, boxA b2 7 32 (.agg #[.int .i64 t.fRoot.fAt, .int .i64 t.fRoot.fBirth, .int .i64 t.fRoot.fSize, .int .i64 t.fRoot.fSum, .int .i64 t.fRoot.fLevel, .int .i64 t.fDepth, .int .i64 t.fMany]), boxA b1 8 28 (.agg #[.slice a0 st.fRows.length c0, .slice a1 st.fSpace.fRefs.length c1, .slice a2 st.fSpace.fLast.length c2, .int .i64 st.fTxg, .slice a4 st.fGone.length c4, .int .i64 st.fKeep, .slice a6 st.fDead.length c6, .bool st.fSame])]) _ from HS.out.drew)
  generalize World.drew _ = w13 at HS HS2 ⊢
  refine zh 0 rfl HF (fun _ HS => (yl_loadB (v := u8) rfl (HF.ev rfl) (HS.box 0 rfl) (by kernel_rfl))) HS.out ?_;clear HF a;intro a HF
  refine zh 1 rfl HF (fun _ HS => (ylr (cs := [.int .i64 t.fRoot.fAt, .int .i64 t.fRoot.fBirth, .int .i64 t.fRoot.fSize, .int .i64 t.fRoot.fSum, .int .i64 t.fRoot.fLevel, .int .i64 t.fDepth, .int .i64 t.fMany]) rfl (HF.ev rfl) ((HS.box 4 rfl).sub 0 7))) HS.out ?_;clear HF a;intro a HF
  refine wh_one 2 (by kernel_rfl) ?_
  refine wo_callB rfl rfl HF rfl (enter_of Tryz.func10 (by kernel_rfl) rfl) (args := #[.agg #[.int .i64 t.fRoot.fAt, .int .i64 t.fRoot.fBirth, .int .i64 t.fRoot.fSize, .int .i64 t.fRoot.fSum, .int .i64 t.fRoot.fLevel, .int .i64 t.fDepth, .int .i64 t.fMany]]) rfl (v := .agg #[.int .i64 t.fRoot.fAt, .int .i64 t.fRoot.fBirth, .int .i64 t.fRoot.fSize, .int .i64 t.fRoot.fSum, .int .i64 t.fRoot.fLevel, .int .i64 t.fDepth, .int .i64 t.fMany]) (toTree2_any t _) rfl rfl ?_
  intro w14 hb; replace HS := Bx.mk (HS.out.later hb); replace HS2 := Bx.mk (HS2.out.later hb);clear hb HF a;intro a HF; refine ⟨HS.out, ?_⟩
  refine wh_one 3 (by kernel_rfl) ?_
  refine wo_call rfl rfl HF rfl (enter_of Tryz.func11 (by kernel_rfl) rfl) (args := #[u8, .agg #[.int .i64 t.fRoot.fAt, .int .i64 t.fRoot.fBirth, .int .i64 t.fRoot.fSize, .int .i64 t.fRoot.fSum, .int .i64 t.fRoot.fLevel, .int .i64 t.fDepth, .int .i64 t.fMany]]) rfl (implTreeAll_v _ st t _ (HT.out.below HS2.out.bel) (HM.out.below HS2.out.bel) (HE.out.below HS2.out.bel) (StoreD.Own.rd (HS2.out.iv 1 rfl)) hf) rfl rfl ?_
  rintro _ w16 ⟨ao13, cp13, rfl, hs⟩
  refine ⟨_, rfl, ?_⟩
  replace HS := Bx.mk (HS.out.later hs.bel); replace HS2 := Bx.mk (HS2.out.add hs);clear hs HF a;intro a HF
  replace HS2 : Bx (St w0 ([rowA PtrD.cells 5 41 (.slice ao13 ((treeAllF st t).length) cp13) (treeAllF st t), boxA b11 8 39 u8, ivA StoreD.Own StoreD.Own.loc B9 C10 u8 st, rowA PtrD.cells 5 41 (.slice ao7 ((treeAllF st t).length) cp7) (treeAllF st t), ivA StoreD.Own StoreD.Own.loc B4 C5 u3 st, boxA b2 7 32 (.agg #[.int .i64 t.fRoot.fAt, .int .i64 t.fRoot.fBirth, .int .i64 t.fRoot.fSize, .int .i64 t.fRoot.fSum, .int .i64 t.fRoot.fLevel, .int .i64 t.fDepth, .int .i64 t.fMany]), boxA b1 8 28 (.agg #[.slice a0 st.fRows.length c0, .slice a1 st.fSpace.fRefs.length c1, .slice a2 st.fSpace.fLast.length c2, .int .i64 st.fTxg, .slice a4 st.fGone.length c4, .int .i64 st.fKeep, .slice a6 st.fDead.length c6, .bool st.fSame])]) _) := ⟨HS2.out⟩
  refine ⟨HS.out, ?_⟩
  refine zh 4 rfl HF (fun _ HS => (yl_move rfl (HF.ev rfl))) HS.out ?_;clear HF a;intro a HF
  refine zh 5 rfl HF (fun _ HS => (yl_extract rfl (HF.ev rfl) rfl)) HS.out ?_;clear HF a;intro a HF
  refine zh 6 rfl HF (fun _ HS => (yl_extract rfl (HF.ev rfl) rfl)) HS.out ?_;clear HF a;intro a HF
  refine zh 7 rfl HF (fun _ HS => (yl_assign rfl (HF.ev rfl))) HS.out ?_;clear HF a;intro a HF
  refine zh 8 rfl HF (fun _ HS => (yl_assign rfl (HF.ev rfl))) HS.out ?_;clear HF a;intro a HF
  refine wh_done (by kernel_rfl) ?_
  replace HS := HS2; clear HS2
  refine ex_then ?_
  refine wp_seq ?_
  refine wp_sr ?_
  refine zm HF ?_;clear HF a;intro a HF
  refine zm HF ?_;clear HF a;intro a HF
  refine wl_callB rfl HF rfl (enter_of Tryz.func12 (by kernel_rfl) rfl) (args := #[.slice ao13 ((treeAllF st t).length) cp13, .slice ao7 ((treeAllF st t).length) cp7]) rfl (v := .bool true) (eqPtrS_yes _ _ _ _ _ (treeAllF st t) _ (by have := treeAllF_21 st t; omega) (St.rdOf HS.out PtrD.cells_len 0 rfl) (St.rdOf HS.out PtrD.cells_len 3 rfl)) rfl rfl HS.out ?_; clear HF HS a; intro w17 a HS HF; replace HS := Bx.mk HS
  refine zy HF (yl_not rfl (HF.ev rfl)) ?_;clear HF a;intro a HF
  refine zm HF ?_;clear HF a;intro a HF
  refine zg HF (yl_move rfl (HF.ev rfl)) ?_;clear HF a;intro a HF
  refine zg HF (yl_move rfl (HF.ev rfl)) ?_;clear HF a;intro a HF
  refine zg HF (yl_neqBs rfl (HF.ev rfl) (HF.ev rfl) (by kernel_rfl)) ?_;clear HF a;intro a HF
  refine zy HF (yl_pick_f rfl (HF.ev rfl) (HF.ev rfl)) ?_;clear HF a;intro a HF
  refine wl_ne ?_
  refine wc_false HF rfl ?_
  refine wp_skip ?_
  refine ex_then ?_
  refine wp_seq ?_
  refine wp_seq ?_
  refine wr_heldS (s := [rowA PtrD.cells 5 41 (.slice ao13 ((treeAllF st t).length) cp13) (treeAllF st t), boxA b11 8 39 u8, ivA StoreD.Own StoreD.Own.loc B9 C10 u8 st, rowA PtrD.cells 5 41 (.slice ao7 ((treeAllF st t).length) cp7) (treeAllF st t), ivA StoreD.Own StoreD.Own.loc B4 C5 u3 st, boxA b2 7 32 (.agg #[.int .i64 t.fRoot.fAt, .int .i64 t.fRoot.fBirth, .int .i64 t.fRoot.fSize, .int .i64 t.fRoot.fSum, .int .i64 t.fRoot.fLevel, .int .i64 t.fDepth, .int .i64 t.fMany]), boxA b1 8 28 (.agg #[.slice a0 st.fRows.length c0, .slice a1 st.fSpace.fRefs.length c1, .slice a2 st.fSpace.fLast.length c2, .int .i64 st.fTxg, .slice a4 st.fGone.length c4, .int .i64 st.fKeep, .slice a6 st.fDead.length c6, .bool st.fSame])]) (by kernel_rfl) (St.drew (HS.out)) ?_
  have HS2 := Bx.mk HS.out.drew; replace HS := Bx.mk (show St w0 ([rowA PtrD.cells 5 41 (.slice ao13 ((treeAllF st t).length) cp13) (treeAllF st t), boxA b11 8 39 u8, ivA StoreD.Own StoreD.Own.loc B9 C10 u8 st, rowA PtrD.cells 5 41 (.slice ao7 ((treeAllF st t).length) cp7) (treeAllF st t), ivA StoreD.Own StoreD.Own.loc B4 C5 u3 st, boxA b2 7 32 (.agg #[.int .i64 t.fRoot.fAt, .int .i64 t.fRoot.fBirth, .int .i64 t.fRoot.fSize, .int .i64 t.fRoot.fSum, .int .i64 t.fRoot.fLevel, .int .i64 t.fDepth, .int .i64 t.fMany]), boxA b1 8 28 (.agg #[.slice a0 st.fRows.length c0, .slice a1 st.fSpace.fRefs.length c1, .slice a2 st.fSpace.fLast.length c2, .int .i64 st.fTxg, .slice a4 st.fGone.length c4, .int .i64 st.fKeep, .slice a6 st.fDead.length c6, .bool st.fSame])]) _ from HS.out.drew)
  generalize World.drew _ = w18 at HS HS2 ⊢
  refine zh 0 rfl HF (fun _ HS => (yl_loadB (v := u8) rfl (HF.ev rfl) (HS.box 1 rfl) (by kernel_rfl))) HS.out ?_;clear HF a;intro a HF
  refine zh 1 rfl HF (fun _ HS => (ylr (cs := [.slice a0 st.fRows.length c0, .slice a1 st.fSpace.fRefs.length c1, .slice a2 st.fSpace.fLast.length c2, .int .i64 st.fTxg, .slice a4 st.fGone.length c4, .int .i64 st.fKeep, .slice a6 st.fDead.length c6, .bool st.fSame]) rfl (HF.ev rfl) ((HS.box 6 rfl).sub 0 8))) HS.out ?_;clear HF a;intro a HF
  refine wh_one 2 (by kernel_rfl) ?_
  refine wo_call rfl rfl HF rfl (enter_of Tryz.func9 (by kernel_rfl) rfl) (args := #[.agg #[.slice a0 st.fRows.length c0, .slice a1 st.fSpace.fRefs.length c1, .slice a2 st.fSpace.fLast.length c2, .int .i64 st.fTxg, .slice a4 st.fGone.length c4, .int .i64 st.fKeep, .slice a6 st.fDead.length c6, .bool st.fSame]]) rfl (toStore_any _ st _ hf (HR.out.below HS.out.bel)) rfl rfl ?_
  rintro _ w20 ⟨u14, rfl, ho, hb⟩
  refine ⟨_, rfl, ?_⟩; replace HS := Bx.mk (HS.out.later hb); replace HS2 := Bx.mk (HS2.out.add (St.ivNew (loc := StoreD.Own.loc) ho hb)); clear ho hb HF; clear a; intro a HF; refine ⟨HS.out, ?_⟩
  obtain ⟨B15, C16, hh⟩ : ∃ B B1, St w0 ([ivA StoreD.Own StoreD.Own.loc B B1 u14 st, rowA PtrD.cells 5 41 (.slice ao13 ((treeAllF st t).length) cp13) (treeAllF st t), boxA b11 8 39 u8, ivA StoreD.Own StoreD.Own.loc B9 C10 u8 st, rowA PtrD.cells 5 41 (.slice ao7 ((treeAllF st t).length) cp7) (treeAllF st t), ivA StoreD.Own StoreD.Own.loc B4 C5 u3 st, boxA b2 7 32 (.agg #[.int .i64 t.fRoot.fAt, .int .i64 t.fRoot.fBirth, .int .i64 t.fRoot.fSize, .int .i64 t.fRoot.fSum, .int .i64 t.fRoot.fLevel, .int .i64 t.fDepth, .int .i64 t.fMany]), boxA b1 8 28 (.agg #[.slice a0 st.fRows.length c0, .slice a1 st.fSpace.fRefs.length c1, .slice a2 st.fSpace.fLast.length c2, .int .i64 st.fTxg, .slice a4 st.fGone.length c4, .int .i64 st.fKeep, .slice a6 st.fDead.length c6, .bool st.fSame])]) w20 := ⟨_, _, HS2.out⟩; replace HS2 := Bx.mk hh; clear hh
  refine wh_one 3 (by kernel_rfl) ?_
  refine wo_callB rfl rfl HF rfl (enter_of Tryz.func13 (by kernel_rfl) rfl) (args := #[u8, u14]) rfl (v := .bool true) (eqStore_yes _ _ st _ hf (StoreD.Own.rd (HS2.out.iv 3 rfl)) (StoreD.Own.rd (HS2.out.iv 0 rfl))) rfl rfl ?_
  intro w21 hb; replace HS := Bx.mk (HS.out.later hb); replace HS2 := Bx.mk (HS2.out.later hb);clear hb HF a;intro a HF; refine ⟨HS.out, ?_⟩
  refine zh 4 rfl HF (fun _ HS => (yl_not rfl (HF.ev rfl))) HS.out ?_;clear HF a;intro a HF
  refine wh_done (by kernel_rfl) ?_
  replace HS := HS2; clear HS2
  refine ex_then ?_
  refine wc_false HF rfl ?_
  refine wp_skip ?_
  refine ex_then ?_
  refine wp_sr ?_
  refine za HF ?_;clear HF a;intro a HF
  refine wl_ne ?_
  refine wp_sr ?_
  refine zy HF (yl_loadB (v := u8) rfl (HF.ev rfl) (HS.out.box 2 rfl) (by kernel_rfl)) ?_;clear HF a;intro a HF
  refine zm HF ?_;clear HF a;intro a HF
  refine wl_call rfl HF rfl (enter_of Tryz.func14 (by kernel_rfl) rfl) (args := #[u8, .int .i64 1]) rfl (markStore_any _ st _ _ 1 _ (by omega) (by omega) hf (HS.out.iv 3 rfl) (HS.out.ivLe 3 rfl)) rfl rfl ?_
  rintro _ w22 ⟨rfl, ho, hO⟩; refine ⟨_, rfl, ?_⟩; replace HS := Bx.mk (HS.out.ivMark 3 rfl ho hO); clear ho hO HF; clear a; intro a HF
  have HS : Bx (St w0 ([ivA StoreD.Own StoreD.Own.loc B15 C16 u14 st, rowA PtrD.cells 5 41 (.slice ao13 ((treeAllF st t).length) cp13) (treeAllF st t), boxA b11 8 39 u8, ivA StoreD.Own StoreD.Own.loc B9 C10 u8 (st.marked 1), rowA PtrD.cells 5 41 (.slice ao7 ((treeAllF st t).length) cp7) (treeAllF st t), ivA StoreD.Own StoreD.Own.loc B4 C5 u3 st, boxA b2 7 32 (.agg #[.int .i64 t.fRoot.fAt, .int .i64 t.fRoot.fBirth, .int .i64 t.fRoot.fSize, .int .i64 t.fRoot.fSum, .int .i64 t.fRoot.fLevel, .int .i64 t.fDepth, .int .i64 t.fMany]), boxA b1 8 28 (.agg #[.slice a0 st.fRows.length c0, .slice a1 st.fSpace.fRefs.length c1, .slice a2 st.fSpace.fLast.length c2, .int .i64 st.fTxg, .slice a4 st.fGone.length c4, .int .i64 st.fKeep, .slice a6 st.fDead.length c6, .bool st.fSame])]) _) := HS
  have hpast := StoreD.past_pos2 st
  refine za HF ?_;clear HF a;intro a HF
  refine wl_ne ?_
  refine wp_seq ?_
  refine wp_sr ?_
  refine zm HF ?_;clear HF a;intro a HF
  refine zy HF (yl_lssI rfl (HF.ev rfl) (HF.ev rfl)) ?_;clear HF a;intro a HF
  refine zm HF ?_;clear HF a;intro a HF
  refine HF.cases 57 rfl (fun cc2 _ => ?_) fun cc2 _ => ?_
  ·clear HF;rename_i HF
   exact absurd (of_decide_eq_true cc2) (by omega)
  ·clear HF;rename_i HF
   refine zg HF (yl_move rfl (HF.ev rfl)) ?_;clear HF a;intro a HF
   refine zg HF (yl_move rfl (HF.ev rfl)) ?_;clear HF a;intro a HF
   refine wl_callBg HF rfl rfl rfl rfl (enter_of Tryz.func12 (by kernel_rfl) rfl) (args := #[.slice ao13 ((treeAllF st t).length) cp13, .slice ao7 ((treeAllF st t).length) cp7]) rfl (v := .bool true) (eqPtrS_yes _ _ _ _ _ (treeAllF st t) _ (by have := treeAllF_21 st t; omega) (St.rdOf HS.out PtrD.cells_len 1 rfl) (St.rdOf HS.out PtrD.cells_len 4 rfl)) rfl rfl HS.out ?_; clear HF HS a; intro w23 a HS HF; replace HS := Bx.mk HS
   refine zg HF (yl_not rfl (HF.ev rfl)) ?_;clear HF a;intro a HF
   refine zy HF (yl_pick_f rfl (HF.ev rfl) (HF.ev rfl)) ?_;clear HF a;intro a HF
   refine zm HF ?_;clear HF a;intro a HF
   refine zg HF (yl_move rfl (HF.ev rfl)) ?_;clear HF a;intro a HF
   refine zg HF (yl_move rfl (HF.ev rfl)) ?_;clear HF a;intro a HF
   refine zg HF (yl_neqBs rfl (HF.ev rfl) (HF.ev rfl) (by kernel_rfl)) ?_;clear HF a;intro a HF
   refine zy HF (yl_pick_f rfl (HF.ev rfl) (HF.ev rfl)) ?_;clear HF a;intro a HF
   refine wl_ne ?_
   refine wc_false HF rfl ?_
   refine wp_skip ?_
   refine ex_then ?_
   refine wp_sr ?_
   refine za HF ?_;clear HF a;intro a HF
   refine wl_ne ?_
   refine wp_sr ?_
   refine zm HF ?_;clear HF a;intro a HF
   refine zm HF ?_;clear HF a;intro a HF
   refine wl_call rfl HF rfl (enter_of Tryz.func15 (by kernel_rfl) rfl) (args := #[.slice ao13 ((treeAllF st t).length) cp13, .int .i64 1]) rfl (markPtrS_r _ _ _ _ (treeAllF st t) 1 _ (by omega) (by omega) (by have := treeAllF_21 st t; omega) (HS.out.row 1 rfl)) rfl rfl ?_
   rintro _ w24 ⟨rfl, ho, hg⟩
   refine ⟨_, rfl, ?_⟩; replace HS := Bx.mk (HS.out.mutRow 1 rfl (ho.mono (Nat.le_refl _) hg.size) hg (fun g hg => .inl hg)); clear ho hg HF; clear a; intro a HF
   try dsimp only [List.eraseIdx] at HS
   refine za HF ?_;clear HF a;intro a HF
   refine wl_ne ?_
   refine wp_sr ?_
   refine za HF ?_;clear HF a;intro a HF
   refine wl_ne ?_
   refine wp_sr ?_
   refine zm HF ?_;clear HF a;intro a HF
   refine zm HF ?_;clear HF a;intro a HF
   refine wl_callB rfl HF rfl (enter_of Tryz.func16 (by kernel_rfl) rfl) (args := #[.slice ao13 ((treeAllF st t).length) cp13, .int .i64 1]) rfl (v := .int .i64 (1 + ((treeAllF st t).length : Int) * 5)) (heldPtrS_any _ _ _ 1 _ (by omega) (by omega) (by have := treeAllF_21 st t; omega) (St.rdN HS.out PtrD.cells_len 1 rfl)) rfl rfl HS.out ?_; clear HF HS a; intro w25 a HS HF; replace HS := Bx.mk HS
   refine za HF ?_;clear HF a;intro a HF
   refine wl_ne ?_
   refine wp_seq ?_
   refine wp_sr ?_
   refine zm HF ?_;clear HF a;intro a HF
   refine zy HF (yl_lssI rfl (HF.ev rfl) (HF.ev rfl)) ?_;clear HF a;intro a HF
   refine wl_ne ?_
   refine HF.cases 75 rfl (fun cc3 _ => ?_) fun cc3 _ => ?_
   ·clear HF;rename_i HF
    exact absurd (of_decide_eq_true cc3) (by omega)
   ·clear HF;rename_i HF
    refine wc_false HF rfl ?_
    refine wp_skip ?_
    refine ex_then ?_
    refine wp_seq ?_
    refine wp_sr ?_
    refine zm HF ?_;clear HF a;intro a HF
    refine zm HF ?_;clear HF a;intro a HF
    refine zy HF (yl_neqI rfl (HF.ev rfl) (HF.ev rfl)) ?_;clear HF a;intro a HF
    refine wl_ne ?_
    refine HF.cases 78 rfl (fun cc4 _ => ?_) fun cc4 _ => ?_
    ·clear HF;rename_i HF
     exact absurd cc4 (by simp)
    ·clear HF;rename_i HF
     refine wc_false HF rfl ?_
     refine wp_skip ?_
     refine ex_then ?_
     refine wp_seq ?_
     refine wr_heldS (s := [ivA StoreD.Own StoreD.Own.loc B15 C16 u14 st, rowA PtrD.cells 5 41 (.slice ao13 ((treeAllF st t).length) cp13) (marks mkPtr 5 1 (treeAllF st t).length), boxA b11 8 39 u8, ivA StoreD.Own StoreD.Own.loc B9 C10 u8 (st.marked 1), rowA PtrD.cells 5 41 (.slice ao7 ((treeAllF st t).length) cp7) (treeAllF st t), ivA StoreD.Own StoreD.Own.loc B4 C5 u3 st, boxA b2 7 32 (.agg #[.int .i64 t.fRoot.fAt, .int .i64 t.fRoot.fBirth, .int .i64 t.fRoot.fSize, .int .i64 t.fRoot.fSum, .int .i64 t.fRoot.fLevel, .int .i64 t.fDepth, .int .i64 t.fMany]), boxA b1 8 28 (.agg #[.slice a0 st.fRows.length c0, .slice a1 st.fSpace.fRefs.length c1, .slice a2 st.fSpace.fLast.length c2, .int .i64 st.fTxg, .slice a4 st.fGone.length c4, .int .i64 st.fKeep, .slice a6 st.fDead.length c6, .bool st.fSame])]) (by kernel_rfl) (St.drew (HS.out)) ?_
     have HS2 := Bx.mk HS.out.drew; replace HS := Bx.mk (show St w0 ([ivA StoreD.Own StoreD.Own.loc B15 C16 u14 st, rowA PtrD.cells 5 41 (.slice ao13 ((treeAllF st t).length) cp13) (marks mkPtr 5 1 (treeAllF st t).length), boxA b11 8 39 u8, ivA StoreD.Own StoreD.Own.loc B9 C10 u8 (st.marked 1), rowA PtrD.cells 5 41 (.slice ao7 ((treeAllF st t).length) cp7) (treeAllF st t), ivA StoreD.Own StoreD.Own.loc B4 C5 u3 st, boxA b2 7 32 (.agg #[.int .i64 t.fRoot.fAt, .int .i64 t.fRoot.fBirth, .int .i64 t.fRoot.fSize, .int .i64 t.fRoot.fSum, .int .i64 t.fRoot.fLevel, .int .i64 t.fDepth, .int .i64 t.fMany]), boxA b1 8 28 (.agg #[.slice a0 st.fRows.length c0, .slice a1 st.fSpace.fRefs.length c1, .slice a2 st.fSpace.fLast.length c2, .int .i64 st.fTxg, .slice a4 st.fGone.length c4, .int .i64 st.fKeep, .slice a6 st.fDead.length c6, .bool st.fSame])]) _ from HS.out.drew)
     generalize World.drew _ = w26 at HS HS2 ⊢
     refine zh 0 rfl HF (fun _ HS => (ylr (cs := [.slice a0 st.fRows.length c0, .slice a1 st.fSpace.fRefs.length c1, .slice a2 st.fSpace.fLast.length c2, .int .i64 st.fTxg, .slice a4 st.fGone.length c4, .int .i64 st.fKeep, .slice a6 st.fDead.length c6, .bool st.fSame]) rfl (HF.ev rfl) ((HS.box 7 rfl).sub 0 8))) HS.out ?_;clear HF a;intro a HF
     refine zh 2 rfl HF (fun _ HS => (ylr (cs := [.int .i64 t.fRoot.fAt, .int .i64 t.fRoot.fBirth, .int .i64 t.fRoot.fSize, .int .i64 t.fRoot.fSum, .int .i64 t.fRoot.fLevel, .int .i64 t.fDepth, .int .i64 t.fMany]) rfl (HF.ev rfl) ((HS.box 6 rfl).sub 0 7))) HS.out ?_;clear HF a;intro a HF
     refine wh_one 1 (by kernel_rfl) ?_
     refine wo_call rfl rfl HF rfl (enter_of Tryz.func9 (by kernel_rfl) rfl) (args := #[.agg #[.slice a0 st.fRows.length c0, .slice a1 st.fSpace.fRefs.length c1, .slice a2 st.fSpace.fLast.length c2, .int .i64 st.fTxg, .slice a4 st.fGone.length c4, .int .i64 st.fKeep, .slice a6 st.fDead.length c6, .bool st.fSame]]) rfl (toStore_any _ st _ hf (HR.out.below HS.out.bel)) rfl rfl ?_
     rintro _ w28 ⟨u17, rfl, ho, hb⟩
     refine ⟨_, rfl, ?_⟩; replace HS := Bx.mk (HS.out.later hb); replace HS2 := Bx.mk (HS2.out.add (St.ivNew (loc := StoreD.Own.loc) ho hb)); clear ho hb HF; clear a; intro a HF; refine ⟨HS.out, ?_⟩
     obtain ⟨B18, C19, hh⟩ : ∃ B B1, St w0 ([ivA StoreD.Own StoreD.Own.loc B B1 u17 st, ivA StoreD.Own StoreD.Own.loc B15 C16 u14 st, rowA PtrD.cells 5 41 (.slice ao13 ((treeAllF st t).length) cp13) (marks mkPtr 5 1 (treeAllF st t).length), boxA b11 8 39 u8, ivA StoreD.Own StoreD.Own.loc B9 C10 u8 (st.marked 1), rowA PtrD.cells 5 41 (.slice ao7 ((treeAllF st t).length) cp7) (treeAllF st t), ivA StoreD.Own StoreD.Own.loc B4 C5 u3 st, boxA b2 7 32 (.agg #[.int .i64 t.fRoot.fAt, .int .i64 t.fRoot.fBirth, .int .i64 t.fRoot.fSize, .int .i64 t.fRoot.fSum, .int .i64 t.fRoot.fLevel, .int .i64 t.fDepth, .int .i64 t.fMany]), boxA b1 8 28 (.agg #[.slice a0 st.fRows.length c0, .slice a1 st.fSpace.fRefs.length c1, .slice a2 st.fSpace.fLast.length c2, .int .i64 st.fTxg, .slice a4 st.fGone.length c4, .int .i64 st.fKeep, .slice a6 st.fDead.length c6, .bool st.fSame])]) w28 := ⟨_, _, HS2.out⟩; replace HS2 := Bx.mk hh; clear hh
     refine wh_one 3 (by kernel_rfl) ?_
     refine wo_callB rfl rfl HF rfl (enter_of Tryz.func10 (by kernel_rfl) rfl) (args := #[.agg #[.int .i64 t.fRoot.fAt, .int .i64 t.fRoot.fBirth, .int .i64 t.fRoot.fSize, .int .i64 t.fRoot.fSum, .int .i64 t.fRoot.fLevel, .int .i64 t.fDepth, .int .i64 t.fMany]]) rfl (v := .agg #[.int .i64 t.fRoot.fAt, .int .i64 t.fRoot.fBirth, .int .i64 t.fRoot.fSize, .int .i64 t.fRoot.fSum, .int .i64 t.fRoot.fLevel, .int .i64 t.fDepth, .int .i64 t.fMany]) (toTree2_any t _) rfl rfl ?_
     intro w29 hb; replace HS := Bx.mk (HS.out.later hb); replace HS2 := Bx.mk (HS2.out.later hb);clear hb HF a;intro a HF; refine ⟨HS.out, ?_⟩
     refine wh_one 4 (by kernel_rfl) ?_
     refine wo_call rfl rfl HF rfl (enter_of Tryz.func11 (by kernel_rfl) rfl) (args := #[u17, .agg #[.int .i64 t.fRoot.fAt, .int .i64 t.fRoot.fBirth, .int .i64 t.fRoot.fSize, .int .i64 t.fRoot.fSum, .int .i64 t.fRoot.fLevel, .int .i64 t.fDepth, .int .i64 t.fMany]]) rfl (implTreeAll_v _ st t _ (HT.out.below HS2.out.bel) (HM.out.below HS2.out.bel) (HE.out.below HS2.out.bel) (StoreD.Own.rd (HS2.out.iv 0 rfl)) hf) rfl rfl ?_
     rintro _ w31 ⟨ao21, cp21, rfl, hs⟩
     refine ⟨_, rfl, ?_⟩
     replace HS := Bx.mk (HS.out.later hs.bel); replace HS2 := Bx.mk (HS2.out.add hs);clear hs HF a;intro a HF
     replace HS2 : Bx (St w0 ([rowA PtrD.cells 5 41 (.slice ao21 ((treeAllF st t).length) cp21) (treeAllF st t), ivA StoreD.Own StoreD.Own.loc B18 C19 u17 st, ivA StoreD.Own StoreD.Own.loc B15 C16 u14 st, rowA PtrD.cells 5 41 (.slice ao13 ((treeAllF st t).length) cp13) (marks mkPtr 5 1 (treeAllF st t).length), boxA b11 8 39 u8, ivA StoreD.Own StoreD.Own.loc B9 C10 u8 (st.marked 1), rowA PtrD.cells 5 41 (.slice ao7 ((treeAllF st t).length) cp7) (treeAllF st t), ivA StoreD.Own StoreD.Own.loc B4 C5 u3 st, boxA b2 7 32 (.agg #[.int .i64 t.fRoot.fAt, .int .i64 t.fRoot.fBirth, .int .i64 t.fRoot.fSize, .int .i64 t.fRoot.fSum, .int .i64 t.fRoot.fLevel, .int .i64 t.fDepth, .int .i64 t.fMany]), boxA b1 8 28 (.agg #[.slice a0 st.fRows.length c0, .slice a1 st.fSpace.fRefs.length c1, .slice a2 st.fSpace.fLast.length c2, .int .i64 st.fTxg, .slice a4 st.fGone.length c4, .int .i64 st.fKeep, .slice a6 st.fDead.length c6, .bool st.fSame])]) _) := ⟨HS2.out⟩
     refine ⟨HS.out, ?_⟩
     refine zh 5 rfl HF (fun _ HS => (yl_move rfl (HF.ev rfl))) HS.out ?_;clear HF a;intro a HF
     refine zh 6 rfl HF (fun _ HS => (yl_extract rfl (HF.ev rfl) rfl)) HS.out ?_;clear HF a;intro a HF
     refine zh 7 rfl HF (fun _ HS => (yl_extract rfl (HF.ev rfl) rfl)) HS.out ?_;clear HF a;intro a HF
     refine zh 8 rfl HF (fun _ HS => (yl_assign rfl (HF.ev rfl))) HS.out ?_;clear HF a;intro a HF
     refine zh 9 rfl HF (fun _ HS => (yl_assign rfl (HF.ev rfl))) HS.out ?_;clear HF a;intro a HF
     refine wh_done (by kernel_rfl) ?_
     replace HS := HS2; clear HS2
     refine ex_then ?_
     refine wp_seq ?_
     refine wp_sr ?_
     refine zm HF ?_;clear HF a;intro a HF
     refine zm HF ?_;clear HF a;intro a HF
     refine wl_callB rfl HF rfl (enter_of Tryz.func12 (by kernel_rfl) rfl) (args := #[.slice ao21 ((treeAllF st t).length) cp21, .slice ao7 ((treeAllF st t).length) cp7]) rfl (v := .bool true) (eqPtrS_yes _ _ _ _ _ (treeAllF st t) _ (by have := treeAllF_21 st t; omega) (St.rdOf HS.out PtrD.cells_len 0 rfl) (St.rdOf HS.out PtrD.cells_len 6 rfl)) rfl rfl HS.out ?_; clear HF HS a; intro w32 a HS HF; replace HS := Bx.mk HS
     refine zy HF (yl_not rfl (HF.ev rfl)) ?_;clear HF a;intro a HF
     refine zm HF ?_;clear HF a;intro a HF
     refine zg HF (yl_move rfl (HF.ev rfl)) ?_;clear HF a;intro a HF
     refine zg HF (yl_move rfl (HF.ev rfl)) ?_;clear HF a;intro a HF
     refine zg HF (yl_neqBs rfl (HF.ev rfl) (HF.ev rfl) (by kernel_rfl)) ?_;clear HF a;intro a HF
     refine zy HF (yl_pick_f rfl (HF.ev rfl) (HF.ev rfl)) ?_;clear HF a;intro a HF
     refine wl_ne ?_
     refine wc_false HF rfl ?_
     refine wp_skip ?_
     refine ex_then ?_
     refine wp_sr ?_
     refine za HF ?_;clear HF a;intro a HF
     refine wl_ne ?_
     refine wp_sr ?_
     refine zm HF ?_;clear HF a;intro a HF
     refine zm HF ?_;clear HF a;intro a HF
     refine wl_callB rfl HF rfl (enter_of Tryz.func16 (by kernel_rfl) rfl) (args := #[.slice ao13 ((treeAllF st t).length) cp13, .int .i64 1]) rfl (v := .int .i64 (1 + ((treeAllF st t).length : Int) * 5)) (heldPtrS_any _ _ _ 1 _ (by omega) (by omega) (by have := treeAllF_21 st t; omega) (St.rdN HS.out PtrD.cells_len 3 rfl)) rfl rfl HS.out ?_; clear HF HS a; intro w33 a HS HF; replace HS := Bx.mk HS
     refine za HF ?_;clear HF a;intro a HF
     refine wl_ne ?_
     refine wp_seq ?_
     refine wp_sr ?_
     refine zm HF ?_;clear HF a;intro a HF
     refine zy HF (yl_lssI rfl (HF.ev rfl) (HF.ev rfl)) ?_;clear HF a;intro a HF
     refine wl_ne ?_
     refine HF.cases 100 rfl (fun cc5 _ => ?_) fun cc5 _ => ?_
     ·clear HF;rename_i HF
      exact absurd (of_decide_eq_true cc5) (by omega)
     ·clear HF;rename_i HF
      refine wc_false HF rfl ?_
      refine wp_skip ?_
      refine ex_then ?_
      refine wp_seq ?_
      refine wp_sr ?_
      refine zm HF ?_;clear HF a;intro a HF
      refine zm HF ?_;clear HF a;intro a HF
      refine zy HF (yl_neqI rfl (HF.ev rfl) (HF.ev rfl)) ?_;clear HF a;intro a HF
      refine wl_ne ?_
      refine HF.cases 103 rfl (fun cc6 _ => ?_) fun cc6 _ => ?_
      ·clear HF;rename_i HF
       exact absurd cc6 (by simp)
      ·clear HF;rename_i HF
       refine wc_false HF rfl ?_
       refine wp_skip ?_
       refine ex_then ?_
       refine wp_sr ?_
       refine za HF ?_;clear HF a;intro a HF
       refine wl_ne ?_
       refine wp_ret ?_
       refine bp_ret1 HF Tryz.results3 (HF.res rfl) ?_
       exact ⟨rfl, HS.out.bel⟩
end Go.Proofs.YtebpodlkndnepaaGreatDoor
