/- A part of the proof in YtnikdicehddehaaGreatDoorSoLZ30. -/
import Derived.ArgAppend
import Derived.BigQuiet
import Derived.BigRegion
import Derived.Deep.AppendLies
import Derived.Deep.MidRow
import Derived.Deep.Quiet
import Derived.Deep.QuietTactic
import Derived.Deep.RegionHeld3
import Derived.Deep.RegionWith
import Derived.IntWalk
import Derived.Laws.BytesArg
import Derived.Laws.IdiomRangeMap
import Derived.Laws.RangeAny
import Derived.Lib.AppendIntMem
import Derived.Lib.Atoi
import Derived.Lib.Hide
import Derived.Lib.IndexBytes
import Derived.Lib.IndexLaws
import Derived.Lib.ItoaNum
import Derived.Lib.Join
import Derived.Lib.LazyBuf
import Derived.Lib.SlBytesConst
import Derived.Lib.Split
import Derived.Lib.SplitLaws
import Derived.LoopIn
import Derived.LoopN
import Derived.LoopNIn
import Derived.Orders
import Derived.OrdersHeld
import Derived.OwnWalkIn
import Derived.RangeFuncLeaves
import Derived.RangeFuncNested
import Derived.Shelf.Abstract
import Derived.Shelf.GgClosure.StringsIndexFunc
import Derived.Shelf.Small.Wraps
import Derived.Shelf.Strconv.Atoi
import Derived.Shelf.Strconv.AtoiErr
import Derived.Shelf.Strconv.Itoa3
import Derived.Shelf.Strings.BuilderF
import Derived.Shelf.Strings.BuilderK
import Derived.Shelf.Strings.FuncGrows
import Derived.Shelf.Strings.OnBuilder
import Derived.Shelf.Strings.Split
import Derived.Shelf.Strings.SplitShaped
import Derived.Shelf.Vars
import Derived.Still
import Derived.StillTail
import Derived.StillTailTactics
import Derived.StringKeys
import Derived.TacticsInMore
import Derived.Test.YtnikdicehddehaaGreatDoorRows
import Derived.WalkKit
import Derived.WalkLawsBesides
import Derived.WalkSpells
import Derived.WideKeyMaps2
import Derived.Test.YtnikdicehddehaaGreatDoorSoLZ20
/- ShellOp of the reference: walked. -/
namespace Go.Proofs.YtnikdicehddehaaGreatDoor
set_option linter.unusedVariables false
set_option linter.unusedSimpArgs false
set_option maxHeartbeats 1000000
set_option maxRecDepth 100000
open Go.RowKit

theorem l31Words_any (w0 : World) : Calls Tryz.prog 17 #[] w0 fun e w' => ∃ ao cp, e = .returned (.slice ao 8 cp) ∧ St w0 [rowA encS 1 9 (.slice ao 8 cp) wordsL] w' := by
 have HS := Bx.mk (St.start w0)
 refine wc_enter Tryz.func17 rfl Tryz.ntmps17 [] trivial rfl ?_; intro a HF
 refine wp_sr ?_
 refine wl_as HF rfl rfl rfl rfl rfl ?_; clear HF a; intro a HF
 refine wl_ne ?_
 refine wp_sr ?_
 refine wl_buildS (enc := encS) (e := 9) (size := 1) rfl HF rfl rfl rfl (ps := [(0, .string (⟨#[]⟩ : ByteArray)), (1, .string (⟨#[109, 97, 107, 101]⟩ : ByteArray)), (2, .string (⟨#[102, 111, 108, 100, 101, 114]⟩ : ByteArray)), (3, .string (⟨#[119, 114, 105, 116, 101]⟩ : ByteArray)), (4, .string (⟨#[99, 117, 116]⟩ : ByteArray)), (5, .string (⟨#[100, 114, 111, 112]⟩ : ByteArray)), (6, .string (⟨#[108, 105, 110, 107]⟩ : ByteArray)), (7, .string (⟨#[109, 111, 118, 101]⟩ : ByteArray))]) rfl (cells := [.string (⟨#[]⟩ : ByteArray), .string (⟨#[109, 97, 107, 101]⟩ : ByteArray), .string (⟨#[102, 111, 108, 100, 101, 114]⟩ : ByteArray), .string (⟨#[119, 114, 105, 116, 101]⟩ : ByteArray), .string (⟨#[99, 117, 116]⟩ : ByteArray), .string (⟨#[100, 114, 111, 112]⟩ : ByteArray), .string (⟨#[108, 105, 110, 107]⟩ : ByteArray), .string (⟨#[109, 111, 118, 101]⟩ : ByteArray)]) (by kernel_rfl) [(⟨#[]⟩ : ByteArray), (⟨#[109, 97, 107, 101]⟩ : ByteArray), (⟨#[102, 111, 108, 100, 101, 114]⟩ : ByteArray), (⟨#[119, 114, 105, 116, 101]⟩ : ByteArray), (⟨#[99, 117, 116]⟩ : ByteArray), (⟨#[100, 114, 111, 112]⟩ : ByteArray), (⟨#[108, 105, 110, 107]⟩ : ByteArray), (⟨#[109, 111, 118, 101]⟩ : ByteArray)] rfl rfl (by unfold maxLen; omega) rfl HS.out ?_; clear HF HS a; intro b1 a w1 HF HS; replace HS := Bx.mk HS
 refine wl_as HF rfl rfl rfl rfl rfl ?_; clear HF a; intro a HF
 refine wl_ne ?_
 refine wp_ret ?_
 refine bp_ret1 HF Tryz.results17 (HF.res rfl) ?_
 replace HS : Bx (St w0 ([rowA encS 1 9 (.slice (some ⟨b1, 0, none⟩) 8 8) ([(⟨#[]⟩ : ByteArray), (⟨#[109, 97, 107, 101]⟩ : ByteArray), (⟨#[102, 111, 108, 100, 101, 114]⟩ : ByteArray), (⟨#[119, 114, 105, 116, 101]⟩ : ByteArray), (⟨#[99, 117, 116]⟩ : ByteArray), (⟨#[100, 114, 111, 112]⟩ : ByteArray), (⟨#[108, 105, 110, 107]⟩ : ByteArray), (⟨#[109, 111, 118, 101]⟩ : ByteArray)])]) _) := ⟨(HS.out).pick 0 rfl⟩
 exact ⟨_, _, rfl, HS.out⟩

set_option maxHeartbeats 4000000 in
theorem l31Op_any (a0 : Option Addr) (n c0 : Nat) (ws : List ByteArray) (w0 : World) (h1 : 1 ≤ ws.length) (hl : ws.length ≤ 4294967296) (hz : ∀ k, (ws.getD k ByteArray.empty).size ≤ 4000000000) (hR : Rd encS 1 w0 a0 n ws) : Calls Tryz.prog 23 #[.slice a0 n c0] w0 fun e w' => (∃ o : OpD, shellF ws = some o ∧ e = .returned (.tuple #[.agg #[.int .i64 o.fKind, .string o.fPath, .string o.fTo, .int .i64 o.fAt, .string o.fText], .bool true]) ∧ Below w0.heap.size w0 w') ∨ (shellF ws = none ∧ e = .returned (.tuple #[.agg #[.int .i64 0, .string ByteArray.empty, .string ByteArray.empty, .int .i64 0, .string ByteArray.empty], .bool false]) ∧ Below w0.heap.size w0 w') := by
 obtain rfl := hR.len
 have hR0 := Bx.mk hR
 obtain ⟨g0, o0, r0⟩ := hR.opn; have R0 := Bx.mk r0; clear r0 hR
 have HS := Bx.mk (St.start w0)
 refine wc_enter Tryz.func23 rfl Tryz.ntmps23 [(0, .slice a0 ws.length c0)] ⟨rfl, trivial⟩ rfl ?_; intro a HF
 refine wp_sr ?_
 refine wl_alloc rfl HF rfl rfl rfl (Z := [.int .i64 0, .string ByteArray.empty, .string ByteArray.empty, .int .i64 0, .string ByteArray.empty]) (by kernel_rfl) rfl HS.out ?_; clear HF HS a; intro a w1 b1 HF HS; replace HS := Bx.mk HS
 refine wl_as HF rfl rfl rfl rfl rfl ?_; clear HF a; intro a HF
 refine wl_ne ?_
 refine wp_sr ?_
 refine wl_call rfl HF rfl (enter_of Tryz.func17 (by kernel_rfl) rfl) (args := #[]) rfl (l31Words_any _) rfl rfl ?_
 rintro _ w2 ⟨ao2, cp2, rfl, hs⟩
 refine ⟨_, rfl, ?_⟩
 replace HS := Bx.mk (HS.out.add hs); clear hs HF; clear a; intro a HF
 replace HS : Bx (St w0 ([rowA encS 1 9 (.slice ao2 8 cp2) wordsL, boxA b1 5 24 (.agg #[.int .i64 0, .string ByteArray.empty, .string ByteArray.empty, .int .i64 0, .string ByteArray.empty])]) _) := ⟨HS.out⟩
 refine wl_as HF rfl rfl rfl rfl rfl ?_; clear HF a; intro a HF
 refine wl_ne ?_
 refine wp_seq ?_
 obtain ⟨g3, rfl, _, _, _, _⟩ := HS.out.rowOpen 0 rfl (by decide)
 refine wp_region_lit ?_
 refine wl_y rfl HF rfl rfl (yl_build HF rfl (ps := []) rfl (cs := #[.int .i64 0, .string ByteArray.empty, .string ByteArray.empty, .int .i64 0, .string ByteArray.empty]) (by kernel_rfl)) ?_; clear HF a; intro a HF
 refine wl_alloc rfl HF rfl rfl rfl (Z := [.int .i64 0, .string ByteArray.empty, .string ByteArray.empty, .int .i64 0, .string ByteArray.empty]) (by kernel_rfl) rfl HS.out ?_; clear HF HS a; intro a w3 b4 HF HS; replace HS := Bx.mk HS
 refine wl_storeBox rfl HF rfl rfl (HF.ev rfl) (HF.ev rfl) HS.out 0 rfl (cells_lit [.int .i64 0, .string ByteArray.empty, .string ByteArray.empty, .int .i64 0, .string ByteArray.empty] rfl rfl) (by kernel_rfl) ?_; clear HS; intro w4 HS; replace HS := Bx.mk HS
 have HS : Bx (St w0 ([boxA b4 5 24 (.agg #[.int .i64 0, .string ByteArray.empty, .string ByteArray.empty, .int .i64 0, .string ByteArray.empty]), rowA encS 1 9 (.slice (some ⟨g3, 0, none⟩) 8 cp2) wordsL, boxA b1 5 24 (.agg #[.int .i64 0, .string ByteArray.empty, .string ByteArray.empty, .int .i64 0, .string ByteArray.empty])]) _) := HS
 refine wl_ne ?_
 refine wp_seq ?_
 refine wp_sr ?_
 refine wl_as HF rfl rfl rfl rfl rfl ?_; clear HF a; intro a HF
 refine wl_ne ?_
 refine wp_block ?_
 replace HS : Bx (St w0 ([boxA b4 5 24 (.agg #[.int .i64 ((kindTo (ws.getD 0 ByteArray.empty) 1 : Nat) : Int), .string ByteArray.empty, .string ByteArray.empty, .int .i64 0, .string ByteArray.empty]), rowA encS 1 9 (.slice (some ⟨g3, 0, none⟩) 8 cp2) wordsL, boxA b1 5 24 (.agg #[.int .i64 0, .string ByteArray.empty, .string ByteArray.empty, .int .i64 0, .string ByteArray.empty])]) _) := ⟨HS.out⟩
 refine wc_loop (ι := Nat) (fun k a w => (1 ≤ k ∧ k ≤ 8) ∧ Fr 94 a [(0, .slice a0 ws.length c0), (2, .pointer (some ⟨b1, 0, none⟩)), (3, .bool false), (4, .slice (some ⟨g3, 0, none⟩) 8 cp2), (5, .pointer (some ⟨b4, 0, none⟩)), (6, .int .i64 (k : Int))] ∧ St w0 ([boxA b4 5 24 (.agg #[.int .i64 ((kindTo (ws.getD 0 ByteArray.empty) k : Nat) : Int), .string ByteArray.empty, .string ByteArray.empty, .int .i64 0, .string ByteArray.empty]), rowA encS 1 9 (.slice (some ⟨g3, 0, none⟩) 8 cp2) wordsL, boxA b1 5 24 (.agg #[.int .i64 0, .string ByteArray.empty, .string ByteArray.empty, .int .i64 0, .string ByteArray.empty])]) w) (fun k => 8 - k) 1 ⟨⟨by decide, by decide⟩, HF.less _ ⟨rfl, rfl, rfl, rfl, rfl, rfl, trivial⟩, HS.out⟩ ?_
 clear HF HS; clear a
 rintro k a w5 ⟨⟨hk1, hk⟩, HF, HS⟩
 replace HS := Bx.mk HS
 refine wp_seq ?_
 refine wp_sr ?_
 refine wl_mv HF rfl rfl rfl rfl rfl ?_; clear HF a; intro a HF
 refine wl_mv HF rfl rfl rfl rfl rfl ?_; clear HF a; intro a HF
 refine wl_y rfl HF rfl rfl (yl_lenL (e := 9) (size := 1) rfl (HF.ev rfl) (by kernel_rfl)) ?_; clear HF a; intro a HF
 refine wl_y rfl HF rfl rfl (yl_lssI rfl (HF.ev rfl) (HF.ev rfl)) ?_; clear HF a; intro a HF
 refine wl_ne ?_
 refine HF.cases 14 rfl (fun cc1 HF1 => ?_) (fun cc1 HF1 => ?_)
 ·clear HF; have HF := HF1; clear HF1
  have dcc1 := of_decide_eq_true cc1
  refine wc_true HF rfl ?_
  refine wp_skip ?_
  refine ex_then ?_
  refine wp_seq ?_
  refine wp_block ?_
  refine wp_seq ?_
  refine wr_quiet (by kernel_rfl) (by kernel_rfl) HS.out ?_
  refine wq_y rfl HF rfl rfl (fun _ HS => (yl_move rfl (HF.ev rfl))) ?_; clear HF a; intro a HF
  refine wq_y rfl HF rfl rfl (fun _ HS => (yl_move rfl (HF.ev rfl))) ?_; clear HF a; intro a HF
  refine wq_y rfl HF rfl rfl (fun _ HS => (yl_indexAddr (e := 9) (i := k) (size := 1) rfl (HF.ev rfl) (HF.ev rfl) (by kernel_rfl) rfl (by omega))) ?_; clear HF a; intro a HF
  refine wq_y rfl HF rfl rfl (fun _ HS => (yl_load (v := .string (wordsL.getD k ByteArray.empty)) rfl (HF.ev rfl) (HS.elem1 encS_len 1 rfl (get_getD (xs := wordsL) (j := k) (d := ByteArray.empty) (by omega)) rfl) (by kernel_rfl))) ?_; clear HF a; intro a HF
  refine wq_y rfl HF rfl rfl (fun _ HS => (yl_move rfl (HF.ev rfl))) ?_; clear HF a; intro a HF
  refine wq_y rfl HF rfl rfl (fun _ HS => (yl_indexAddrR (e := 9) (i := 0) (size := 1) rfl (HF.ev rfl) (HF.ev rfl) (by kernel_rfl) rfl (by omega) (R0.out.ao 0 (by omega)))) ?_; clear HF a; intro a HF
  refine wq_y rfl HF rfl rfl (fun _ HS => (yl_load (v := .string (ws.getD 0 ByteArray.empty)) rfl (HF.ev rfl) (R0.out.elem1 HS (get_getD (xs := ws) (j := 0) (d := ByteArray.empty) (by omega)) rfl) (by kernel_rfl))) ?_; clear HF a; intro a HF
  refine wq_y rfl HF rfl rfl (fun _ HS => (yl_eqlS rfl (HF.ev rfl) (HF.ev rfl))) ?_; clear HF a; intro a HF
  refine wpQuiet_nil ?_; intro w6 HS; replace HS := Bx.mk HS
  refine ex_then ?_
  refine HF.cases 24 rfl (fun cc2 HF1 => ?_) (fun cc2 HF1 => ?_)
  ·clear HF; have HF := HF1; clear HF1
   refine wc_true HF rfl ?_
   refine wp_region_lit ?_
   refine wl_mv HF rfl rfl rfl rfl rfl ?_; clear HF a; intro a HF
   refine wl_y rfl HF rfl rfl (yl_fieldAddr (j := 0) rfl (HF.ev rfl) (by kernel_rfl)) ?_; clear HF a; intro a HF
   refine wl_storeF rfl rfl rfl (HF.ev rfl) (HF.ev rfl) (by kernel_rfl) HS.out 0 rfl rfl rfl ?_; clear HS; intro w7 HS; replace HS := Bx.mk HS
   have HS : Bx (St w0 ([boxA b4 5 24 (.agg #[.int .i64 (k : Int), .string ByteArray.empty, .string ByteArray.empty, .int .i64 0, .string ByteArray.empty]), rowA encS 1 9 (.slice (some ⟨g3, 0, none⟩) 8 cp2) wordsL, boxA b1 5 24 (.agg #[.int .i64 0, .string ByteArray.empty, .string ByteArray.empty, .int .i64 0, .string ByteArray.empty])]) _) := HS
   refine wpList_nil ?_
   refine ex_block ?_
   refine ex_then ?_
   refine wp_region_lit ?_
   refine wl_mv HF rfl rfl rfl rfl rfl ?_; clear HF a; intro a HF
   refine wl_y rfl HF rfl rfl (yl_addI rfl (HF.ev rfl) (HF.ev rfl) (i64w (by omega))) ?_; clear HF a; intro a HF
   refine wl_as HF rfl rfl rfl rfl rfl ?_; clear HF a; intro a HF
   refine wl_ne ?_
   have hst : kindTo (ws.getD 0 ByteArray.empty) (k + 1) = k := by rw [kindTo_step (by omega), if_pos (bytes_toList (by simpa using cc2))]
   replace HS : Bx (St w0 ([boxA b4 5 24 (.agg #[.int .i64 ((kindTo (ws.getD 0 ByteArray.empty) (k + 1) : Nat) : Int), .string ByteArray.empty, .string ByteArray.empty, .int .i64 0, .string ByteArray.empty]), rowA encS 1 9 (.slice (some ⟨g3, 0, none⟩) 8 cp2) wordsL, boxA b1 5 24 (.agg #[.int .i64 0, .string ByteArray.empty, .string ByteArray.empty, .int .i64 0, .string ByteArray.empty])]) _) := ⟨by rw [hst]; exact HS.out⟩
   exact ⟨k + 1, ⟨⟨by omega, by omega⟩, HF.less _ ⟨rfl, rfl, rfl, rfl, rfl, rfl, trivial⟩, HS.out⟩, (by omega)⟩
  ·clear HF; have HF := HF1; clear HF1
   refine wc_false HF rfl ?_
   refine wp_skip ?_
   refine ex_block ?_
   refine ex_then ?_
   refine wp_region_lit ?_
   refine wl_mv HF rfl rfl rfl rfl rfl ?_; clear HF a; intro a HF
   refine wl_y rfl HF rfl rfl (yl_addI rfl (HF.ev rfl) (HF.ev rfl) (i64w (by omega))) ?_; clear HF a; intro a HF
   refine wl_as HF rfl rfl rfl rfl rfl ?_; clear HF a; intro a HF
   refine wl_ne ?_
   have hst : kindTo (ws.getD 0 ByteArray.empty) (k + 1) = kindTo (ws.getD 0 ByteArray.empty) k := by rw [kindTo_step (by omega), if_neg (fun h => by rw [h] at cc2; simp at cc2)]
   replace HS : Bx (St w0 ([boxA b4 5 24 (.agg #[.int .i64 ((kindTo (ws.getD 0 ByteArray.empty) (k + 1) : Nat) : Int), .string ByteArray.empty, .string ByteArray.empty, .int .i64 0, .string ByteArray.empty]), rowA encS 1 9 (.slice (some ⟨g3, 0, none⟩) 8 cp2) wordsL, boxA b1 5 24 (.agg #[.int .i64 0, .string ByteArray.empty, .string ByteArray.empty, .int .i64 0, .string ByteArray.empty])]) _) := ⟨by rw [hst]; exact HS.out⟩
   exact ⟨k + 1, ⟨⟨by omega, by omega⟩, HF.less _ ⟨rfl, rfl, rfl, rfl, rfl, rfl, trivial⟩, HS.out⟩, (by omega)⟩
 ·clear HF; have HF := HF1; clear HF1
  have dcc1 := of_decide_eq_false cc1
  refine wc_false HF rfl ?_
  refine wp_exit ?_
  refine ex_then_exit ?_
  refine ex_then_exit ?_
  refine ex_block_hit ?_
  refine ex_then ?_
  refine wp_seq ?_
  obtain rfl : k = 8 := by omega
  rw [kindTo_opK] at HS
  replace HF : Fr 94 a [(0, .slice a0 ws.length c0), (2, .pointer (some ⟨b1, 0, none⟩)), (3, .bool false), (4, .slice (some ⟨g3, 0, none⟩) 8 cp2), (5, .pointer (some ⟨b4, 0, none⟩))] := HF.less _ ⟨rfl, rfl, rfl, rfl, rfl, trivial⟩
  generalize hkd : opK (ws.getD 0 ByteArray.empty) = kd at HS
  rcases (show kd = 0 ∨ kd = 1 ∨ kd = 2 ∨ kd = 3 ∨ kd = 4 ∨ kd = 5 ∨ kd = 6 ∨ kd = 7 from hkd ▸ opK_cases _) with rfl | rfl | rfl | rfl | rfl | rfl | rfl | rfl
  ·skip
   refine wp_region_lit ?_
   refine wl_buildS (enc := encI) (e := 3) (size := 1) rfl HF rfl rfl rfl (ps := [(0, .int .i64 0), (1, .int .i64 2), (2, .int .i64 2), (3, .int .i64 4), (4, .int .i64 3), (5, .int .i64 2), (6, .int .i64 3), (7, .int .i64 3)]) rfl (cells := [.int .i64 0, .int .i64 2, .int .i64 2, .int .i64 4, .int .i64 3, .int .i64 2, .int .i64 3, .int .i64 3]) (by kernel_rfl) [0, 2, 2, 4, 3, 2, 3, 3] rfl rfl (by unfold maxLen; omega) rfl HS.out ?_; clear HF HS a; intro b5 a w8 HF HS; replace HS := Bx.mk HS
   refine wl_y rfl HF rfl rfl (yl_fieldAddr (j := 0) rfl (HF.ev rfl) (by kernel_rfl)) ?_; clear HF a; intro a HF
   refine wl_y rfl HF rfl rfl (yl_load (v := .int .i64 0) rfl (HF.ev rfl) (((HS.out.box 1 rfl).cell 0).trans rfl) (by kernel_rfl)) ?_; clear HF a; intro a HF
   refine wl_y rfl HF rfl rfl (yl_indexAddr (e := 3) (i := 0) (size := 1) rfl (HF.ev rfl) (HF.ev rfl) (by kernel_rfl) rfl (by omega)) ?_; clear HF a; intro a HF
   refine wl_y rfl HF rfl rfl (yl_load (v := .int .i64 0) rfl (HF.ev rfl) (HS.out.elem1 encI_len 0 rfl (show ([0, 2, 2, 4, 3, 2, 3, 3] : List _)[0]? = some _ from rfl) rfl) (by kernel_rfl)) ?_; clear HF a; intro a HF
   refine wl_as HF rfl rfl rfl rfl rfl ?_; clear HF a; intro a HF
   refine wl_ne ?_
   refine wp_seq ?_
   refine wp_sr ?_
   refine wl_y rfl HF rfl rfl (yl_fieldAddr (j := 0) rfl (HF.ev rfl) (by kernel_rfl)) ?_; clear HF a; intro a HF
   refine wl_y rfl HF rfl rfl (yl_load (v := .int .i64 0) rfl (HF.ev rfl) (((HS.out.box 1 rfl).cell 0).trans rfl) (by kernel_rfl)) ?_; clear HF a; intro a HF
   refine wl_y rfl HF rfl rfl (yl_eqlI rfl (HF.ev rfl) (HF.ev rfl)) ?_; clear HF a; intro a HF
   refine wl_mv HF rfl rfl rfl rfl rfl ?_; clear HF a; intro a HF
   replace HF := HF.know (k := 35) (c := true) rfl (by decide)
   refine wl_skip HF rfl rfl rfl rfl rfl rfl ?_; clear HF a; intro a HF
   refine wl_skip HF rfl rfl rfl rfl rfl rfl ?_; clear HF a; intro a HF
   refine wl_skip HF rfl rfl rfl rfl rfl rfl ?_; clear HF a; intro a HF
   refine wl_skip HF rfl rfl rfl rfl rfl rfl ?_; clear HF a; intro a HF
   refine wl_y rfl HF rfl rfl (yl_pick_t rfl (HF.ev rfl) (HF.ev rfl)) ?_; clear HF a; intro a HF
   refine wl_ne ?_
   refine wc_true HF rfl ?_
   refine wp_sr ?_
   refine wl_y rfl HF rfl rfl (yl_build HF rfl (ps := []) rfl (cs := #[.int .i64 0, .string ByteArray.empty, .string ByteArray.empty, .int .i64 0, .string ByteArray.empty]) (by kernel_rfl)) ?_; clear HF a; intro a HF
   refine wl_storeBox rfl HF rfl rfl (HF.ev rfl) (HF.ev rfl) HS.out 3 rfl (cells_lit [.int .i64 0, .string ByteArray.empty, .string ByteArray.empty, .int .i64 0, .string ByteArray.empty] rfl rfl) (by kernel_rfl) ?_; clear HS; intro w9 HS; replace HS := Bx.mk HS
   have HS : Bx (St w0 ([rowA encI 1 3 (.slice (some ⟨b5, 0, none⟩) 8 8) ([0, 2, 2, 4, 3, 2, 3, 3]), boxA b4 5 24 (.agg #[.int .i64 0, .string ByteArray.empty, .string ByteArray.empty, .int .i64 0, .string ByteArray.empty]), rowA encS 1 9 (.slice (some ⟨g3, 0, none⟩) 8 cp2) wordsL, boxA b1 5 24 (.agg #[.int .i64 0, .string ByteArray.empty, .string ByteArray.empty, .int .i64 0, .string ByteArray.empty])]) _) := HS
   refine wl_as HF rfl rfl rfl rfl rfl ?_; clear HF a; intro a HF
   refine wl_ne ?_
   refine wp_ret ?_
   refine ex_then_ret ?_
   refine bp_ret2 HF Tryz.results23 (HF.resBox rfl (HS.out.box 3 rfl) (by kernel_rfl)) (HF.res rfl) ?_
   exact .inr ⟨sh0 hkd, rfl, HS.out.bel⟩
  ·skip
   refine wp_region_lit ?_
   refine wl_buildS (enc := encI) (e := 3) (size := 1) rfl HF rfl rfl rfl (ps := [(0, .int .i64 0), (1, .int .i64 2), (2, .int .i64 2), (3, .int .i64 4), (4, .int .i64 3), (5, .int .i64 2), (6, .int .i64 3), (7, .int .i64 3)]) rfl (cells := [.int .i64 0, .int .i64 2, .int .i64 2, .int .i64 4, .int .i64 3, .int .i64 2, .int .i64 3, .int .i64 3]) (by kernel_rfl) [0, 2, 2, 4, 3, 2, 3, 3] rfl rfl (by unfold maxLen; omega) rfl HS.out ?_; clear HF HS a; intro b6 a w10 HF HS; replace HS := Bx.mk HS
   refine wl_y rfl HF rfl rfl (yl_fieldAddr (j := 0) rfl (HF.ev rfl) (by kernel_rfl)) ?_; clear HF a; intro a HF
   refine wl_y rfl HF rfl rfl (yl_load (v := .int .i64 1) rfl (HF.ev rfl) (((HS.out.box 1 rfl).cell 0).trans rfl) (by kernel_rfl)) ?_; clear HF a; intro a HF
   refine wl_y rfl HF rfl rfl (yl_indexAddr (e := 3) (i := 1) (size := 1) rfl (HF.ev rfl) (HF.ev rfl) (by kernel_rfl) rfl (by omega)) ?_; clear HF a; intro a HF
   refine wl_y rfl HF rfl rfl (yl_load (v := .int .i64 2) rfl (HF.ev rfl) (HS.out.elem1 encI_len 0 rfl (show ([0, 2, 2, 4, 3, 2, 3, 3] : List _)[1]? = some _ from rfl) rfl) (by kernel_rfl)) ?_; clear HF a; intro a HF
   refine wl_as HF rfl rfl rfl rfl rfl ?_; clear HF a; intro a HF
   refine wl_ne ?_
   refine wp_seq ?_
   refine wp_sr ?_
   refine wl_y rfl HF rfl rfl (yl_fieldAddr (j := 0) rfl (HF.ev rfl) (by kernel_rfl)) ?_; clear HF a; intro a HF
   refine wl_y rfl HF rfl rfl (yl_load (v := .int .i64 1) rfl (HF.ev rfl) (((HS.out.box 1 rfl).cell 0).trans rfl) (by kernel_rfl)) ?_; clear HF a; intro a HF
   refine wl_y rfl HF rfl rfl (yl_eqlI rfl (HF.ev rfl) (HF.ev rfl)) ?_; clear HF a; intro a HF
   refine wl_mv HF rfl rfl rfl rfl rfl ?_; clear HF a; intro a HF
   replace HF := HF.know (k := 35) (c := false) rfl (by decide)
   refine wl_yg HF rfl rfl rfl rfl rfl (yl_move rfl (HF.ev rfl)) ?_; clear HF a; intro a HF
   refine wl_yg HF rfl rfl rfl rfl rfl (yl_lenL (e := 9) (size := 1) rfl (HF.ev rfl) (by kernel_rfl)) ?_; clear HF a; intro a HF
   refine wl_yg HF rfl rfl rfl rfl rfl (yl_move rfl (HF.ev rfl)) ?_; clear HF a; intro a HF
   refine wl_yg HF rfl rfl rfl rfl rfl (yl_neqI rfl (HF.ev rfl) (HF.ev rfl)) ?_; clear HF a; intro a HF
   refine wl_y rfl HF rfl rfl (yl_pick_f rfl (HF.ev rfl) (HF.ev rfl)) ?_; clear HF a; intro a HF
   refine wl_ne ?_
   refine HF.cases 40 rfl (fun cc3 HF1 => ?_) (fun cc3 HF1 => ?_)
   ·clear HF; have HF := HF1; clear HF1
    have dcc3 := bne_iff_ne.1 cc3
    refine wc_true HF rfl ?_
    refine wp_sr ?_
    refine wl_y rfl HF rfl rfl (yl_build HF rfl (ps := []) rfl (cs := #[.int .i64 0, .string ByteArray.empty, .string ByteArray.empty, .int .i64 0, .string ByteArray.empty]) (by kernel_rfl)) ?_; clear HF a; intro a HF
    refine wl_storeBox rfl HF rfl rfl (HF.ev rfl) (HF.ev rfl) HS.out 3 rfl (cells_lit [.int .i64 0, .string ByteArray.empty, .string ByteArray.empty, .int .i64 0, .string ByteArray.empty] rfl rfl) (by kernel_rfl) ?_; clear HS; intro w11 HS; replace HS := Bx.mk HS
    have HS : Bx (St w0 ([rowA encI 1 3 (.slice (some ⟨b6, 0, none⟩) 8 8) ([0, 2, 2, 4, 3, 2, 3, 3]), boxA b4 5 24 (.agg #[.int .i64 1, .string ByteArray.empty, .string ByteArray.empty, .int .i64 0, .string ByteArray.empty]), rowA encS 1 9 (.slice (some ⟨g3, 0, none⟩) 8 cp2) wordsL, boxA b1 5 24 (.agg #[.int .i64 0, .string ByteArray.empty, .string ByteArray.empty, .int .i64 0, .string ByteArray.empty])]) _) := HS
    refine wl_as HF rfl rfl rfl rfl rfl ?_; clear HF a; intro a HF
    refine wl_ne ?_
    refine wp_ret ?_
    refine ex_then_ret ?_
    refine bp_ret2 HF Tryz.results23 (HF.resBox rfl (HS.out.box 3 rfl) (by kernel_rfl)) (HF.res rfl) ?_
    exact .inr ⟨sh1l hkd (by omega) (by omega), rfl, HS.out.bel⟩
   ·clear HF; have HF := HF1; clear HF1
    have dcc3 := bne_eq_false_iff_eq.1 cc3
    refine wc_false HF rfl ?_
    refine wp_skip ?_
    refine ex_then ?_
    refine wp_sr ?_
    refine wl_mv HF rfl rfl rfl rfl rfl ?_; clear HF a; intro a HF
    refine wl_y rfl HF rfl rfl (yl_indexAddrR (e := 9) (i := 1) (size := 1) rfl (HF.ev rfl) (HF.ev rfl) (by kernel_rfl) rfl (by omega) (R0.out.ao 1 (by omega))) ?_; clear HF a; intro a HF
    refine wl_y rfl HF rfl rfl (yl_load (v := .string (ws.getD 1 ByteArray.empty)) rfl (HF.ev rfl) (R0.out.elem1 HS.out (get_getD (xs := ws) (j := 1) (d := ByteArray.empty) (by omega)) rfl) (by kernel_rfl)) ?_; clear HF a; intro a HF
    refine wl_y rfl HF rfl rfl (yl_fieldAddr (j := 1) rfl (HF.ev rfl) (by kernel_rfl)) ?_; clear HF a; intro a HF
    refine wl_storeF rfl rfl rfl (HF.ev rfl) (HF.ev rfl) (by kernel_rfl) HS.out 1 rfl rfl rfl ?_; clear HS; intro w12 HS; replace HS := Bx.mk HS
    have HS : Bx (St w0 ([rowA encI 1 3 (.slice (some ⟨b6, 0, none⟩) 8 8) ([0, 2, 2, 4, 3, 2, 3, 3]), boxA b4 5 24 (.agg #[.int .i64 1, .string (ws.getD 1 ByteArray.empty), .string ByteArray.empty, .int .i64 0, .string ByteArray.empty]), rowA encS 1 9 (.slice (some ⟨g3, 0, none⟩) 8 cp2) wordsL, boxA b1 5 24 (.agg #[.int .i64 0, .string ByteArray.empty, .string ByteArray.empty, .int .i64 0, .string ByteArray.empty])]) _) := HS
    refine wl_ne ?_
    refine wp_sr ?_
    refine wl_as HF rfl rfl rfl rfl rfl ?_; clear HF a; intro a HF
    refine wl_ne ?_
    refine wp_seq ?_
    refine wp_sr ?_
    refine wl_y rfl HF rfl rfl (yl_fieldAddr (j := 0) rfl (HF.ev rfl) (by kernel_rfl)) ?_; clear HF a; intro a HF
    refine wl_y rfl HF rfl rfl (yl_load (v := .int .i64 1) rfl (HF.ev rfl) (((HS.out.box 1 rfl).cell 0).trans rfl) (by kernel_rfl)) ?_; clear HF a; intro a HF
    refine wl_ne ?_
    refine wp_block ?_
    refine wp_sr ?_
    refine wl_y rfl HF rfl rfl (yl_eqlI rfl (HF.ev rfl) (HF.ev rfl)) ?_; clear HF a; intro a HF
    refine wl_as HF rfl rfl rfl rfl rfl ?_; clear HF a; intro a HF
    refine wl_ne ?_
    replace HF := HF.know (k := 48) (c := false) rfl (by decide)
    refine wc_false HF rfl ?_
    refine wp_sr ?_
    refine wl_y rfl HF rfl rfl (yl_eqlI rfl (HF.ev rfl) (HF.ev rfl)) ?_; clear HF a; intro a HF
    refine wl_as HF rfl rfl rfl rfl rfl ?_; clear HF a; intro a HF
    refine wl_ne ?_
    replace HF := HF.know (k := 68) (c := false) rfl (by decide)
    refine wc_false HF rfl ?_
    refine wp_seq ?_
    refine wp_sr ?_
    refine wl_y rfl HF rfl rfl (yl_eqlI rfl (HF.ev rfl) (HF.ev rfl)) ?_; clear HF a; intro a HF
    refine wl_as HF rfl rfl rfl rfl rfl ?_; clear HF a; intro a HF
    refine wl_ne ?_
    replace HF := HF.know (k := 78) (c := false) rfl (by decide)
    refine wc_false HF rfl ?_
    refine wp_region_lit ?_
    refine wl_y rfl HF rfl rfl (yl_eqlI rfl (HF.ev rfl) (HF.ev rfl)) ?_; clear HF a; intro a HF
    refine wl_as HF rfl rfl rfl rfl rfl ?_; clear HF a; intro a HF
    refine wl_ne ?_
    replace HF := HF.know (k := 78) (c := false) rfl (by decide)
    refine wc_false HF rfl ?_
    refine wp_skip ?_
    refine ex_block ?_
    refine ex_then ?_
    refine wp_seq ?_
    refine wp_sr ?_
    refine wl_mv HF rfl rfl rfl rfl rfl ?_; clear HF a; intro a HF
    refine wl_y rfl HF rfl rfl (yl_not rfl (HF.ev rfl)) ?_; clear HF a; intro a HF
    refine wl_mv HF rfl rfl rfl rfl rfl ?_; clear HF a; intro a HF
    refine wl_yg HF rfl rfl rfl rfl rfl (yl_loadR (cs := [.int .i64 1, .string (ws.getD 1 ByteArray.empty), .string ByteArray.empty, .int .i64 0, .string ByteArray.empty]) rfl (HF.ev rfl) ((HS.out.box 1 rfl).sub 0 5) (by kernel_rfl)) ?_; clear HF a; intro a HF
    refine wl_callBg HF rfl rfl rfl rfl (enter_of Tryz.func16 (by kernel_rfl) rfl) (args := #[.agg #[.int .i64 1, .string (ws.getD 1 ByteArray.empty), .string ByteArray.empty, .int .i64 0, .string ByteArray.empty]]) rfl (v := .bool ((⟨1, (ws.getD 1 ByteArray.empty), ByteArray.empty, 0, ByteArray.empty⟩ : OpD).ok)) (specOpOk_any (⟨1, (ws.getD 1 ByteArray.empty), ByteArray.empty, 0, ByteArray.empty⟩ : OpD) _ (by first | exact hz _ | exact Nat.zero_le _) (by first | exact hz _ | exact Nat.zero_le _) (by first | exact hz _ | exact Nat.zero_le _)) rfl rfl HS.out ?_; clear HF HS a; intro w13 a HS HF; replace HS := Bx.mk HS
    refine wl_yg HF rfl rfl rfl rfl rfl (yl_not rfl (HF.ev rfl)) ?_; clear HF a; intro a HF
    refine wl_y rfl HF rfl rfl (yl_pick_f rfl (HF.ev rfl) (HF.ev rfl)) ?_; clear HF a; intro a HF
    refine wl_ne ?_
    refine HF.cases 91 rfl (fun cc4 HF1 => ?_) (fun cc4 HF1 => ?_)
    ·clear HF; have HF := HF1; clear HF1
     refine wc_true HF rfl ?_
     refine wp_sr ?_
     refine wl_y rfl HF rfl rfl (yl_build HF rfl (ps := []) rfl (cs := #[.int .i64 0, .string ByteArray.empty, .string ByteArray.empty, .int .i64 0, .string ByteArray.empty]) (by kernel_rfl)) ?_; clear HF a; intro a HF
     refine wl_storeBox rfl HF rfl rfl (HF.ev rfl) (HF.ev rfl) HS.out 3 rfl (cells_lit [.int .i64 0, .string ByteArray.empty, .string ByteArray.empty, .int .i64 0, .string ByteArray.empty] rfl rfl) (by kernel_rfl) ?_; clear HS; intro w14 HS; replace HS := Bx.mk HS
     have HS : Bx (St w0 ([rowA encI 1 3 (.slice (some ⟨b6, 0, none⟩) 8 8) ([0, 2, 2, 4, 3, 2, 3, 3]), boxA b4 5 24 (.agg #[.int .i64 1, .string (ws.getD 1 ByteArray.empty), .string ByteArray.empty, .int .i64 0, .string ByteArray.empty]), rowA encS 1 9 (.slice (some ⟨g3, 0, none⟩) 8 cp2) wordsL, boxA b1 5 24 (.agg #[.int .i64 0, .string ByteArray.empty, .string ByteArray.empty, .int .i64 0, .string ByteArray.empty])]) _) := HS
     refine wl_as HF rfl rfl rfl rfl rfl ?_; clear HF a; intro a HF
     refine wl_ne ?_
     refine wp_ret ?_
     refine ex_then_ret ?_
     refine bp_ret2 HF Tryz.results23 (HF.resBox rfl (HS.out.box 3 rfl) (by kernel_rfl)) (HF.res rfl) ?_
     exact .inr ⟨(sh1 hkd (by omega) (by omega)).trans (chk_no (by simpa using cc4)), rfl, HS.out.bel⟩
    ·clear HF; have HF := HF1; clear HF1
     refine wc_false HF rfl ?_
     refine wp_skip ?_
     refine ex_then ?_
     refine wp_sr ?_
     refine wl_y rfl HF rfl rfl (yl_loadR (cs := [.int .i64 1, .string (ws.getD 1 ByteArray.empty), .string ByteArray.empty, .int .i64 0, .string ByteArray.empty]) rfl (HF.ev rfl) ((HS.out.box 1 rfl).sub 0 5) (by kernel_rfl)) ?_; clear HF a; intro a HF
     refine wl_storeBox rfl HF rfl rfl (HF.ev rfl) (HF.ev rfl) HS.out 3 rfl (cells_lit [.int .i64 1, .string (ws.getD 1 ByteArray.empty), .string ByteArray.empty, .int .i64 0, .string ByteArray.empty] rfl rfl) (by kernel_rfl) ?_; clear HS; intro w15 HS; replace HS := Bx.mk HS
     have HS : Bx (St w0 ([rowA encI 1 3 (.slice (some ⟨b6, 0, none⟩) 8 8) ([0, 2, 2, 4, 3, 2, 3, 3]), boxA b4 5 24 (.agg #[.int .i64 1, .string (ws.getD 1 ByteArray.empty), .string ByteArray.empty, .int .i64 0, .string ByteArray.empty]), rowA encS 1 9 (.slice (some ⟨g3, 0, none⟩) 8 cp2) wordsL, boxA b1 5 24 (.agg #[.int .i64 1, .string (ws.getD 1 ByteArray.empty), .string ByteArray.empty, .int .i64 0, .string ByteArray.empty])]) _) := HS
     refine wl_as HF rfl rfl rfl rfl rfl ?_; clear HF a; intro a HF
     refine wl_ne ?_
     refine wp_ret ?_
     refine bp_ret2 HF Tryz.results23 (HF.resBox rfl (HS.out.box 3 rfl) (by kernel_rfl)) (HF.res rfl) ?_
     exact .inl ⟨⟨1, (ws.getD 1 ByteArray.empty), ByteArray.empty, 0, ByteArray.empty⟩, (sh1 hkd (by omega) (by omega)).trans (chk_yes (by simpa using cc4)), rfl, HS.out.bel⟩
  ·skip
   refine wp_region_lit ?_
   refine wl_buildS (enc := encI) (e := 3) (size := 1) rfl HF rfl rfl rfl (ps := [(0, .int .i64 0), (1, .int .i64 2), (2, .int .i64 2), (3, .int .i64 4), (4, .int .i64 3), (5, .int .i64 2), (6, .int .i64 3), (7, .int .i64 3)]) rfl (cells := [.int .i64 0, .int .i64 2, .int .i64 2, .int .i64 4, .int .i64 3, .int .i64 2, .int .i64 3, .int .i64 3]) (by kernel_rfl) [0, 2, 2, 4, 3, 2, 3, 3] rfl rfl (by unfold maxLen; omega) rfl HS.out ?_; clear HF HS a; intro b7 a w16 HF HS; replace HS := Bx.mk HS
   refine wl_y rfl HF rfl rfl (yl_fieldAddr (j := 0) rfl (HF.ev rfl) (by kernel_rfl)) ?_; clear HF a; intro a HF
   refine wl_y rfl HF rfl rfl (yl_load (v := .int .i64 2) rfl (HF.ev rfl) (((HS.out.box 1 rfl).cell 0).trans rfl) (by kernel_rfl)) ?_; clear HF a; intro a HF
   refine wl_y rfl HF rfl rfl (yl_indexAddr (e := 3) (i := 2) (size := 1) rfl (HF.ev rfl) (HF.ev rfl) (by kernel_rfl) rfl (by omega)) ?_; clear HF a; intro a HF
   refine wl_y rfl HF rfl rfl (yl_load (v := .int .i64 2) rfl (HF.ev rfl) (HS.out.elem1 encI_len 0 rfl (show ([0, 2, 2, 4, 3, 2, 3, 3] : List _)[2]? = some _ from rfl) rfl) (by kernel_rfl)) ?_; clear HF a; intro a HF
   refine wl_as HF rfl rfl rfl rfl rfl ?_; clear HF a; intro a HF
   refine wl_ne ?_
   refine wp_seq ?_
   refine wp_sr ?_
   refine wl_y rfl HF rfl rfl (yl_fieldAddr (j := 0) rfl (HF.ev rfl) (by kernel_rfl)) ?_; clear HF a; intro a HF
   refine wl_y rfl HF rfl rfl (yl_load (v := .int .i64 2) rfl (HF.ev rfl) (((HS.out.box 1 rfl).cell 0).trans rfl) (by kernel_rfl)) ?_; clear HF a; intro a HF
   refine wl_y rfl HF rfl rfl (yl_eqlI rfl (HF.ev rfl) (HF.ev rfl)) ?_; clear HF a; intro a HF
   refine wl_mv HF rfl rfl rfl rfl rfl ?_; clear HF a; intro a HF
   replace HF := HF.know (k := 35) (c := false) rfl (by decide)
   refine wl_yg HF rfl rfl rfl rfl rfl (yl_move rfl (HF.ev rfl)) ?_; clear HF a; intro a HF
   refine wl_yg HF rfl rfl rfl rfl rfl (yl_lenL (e := 9) (size := 1) rfl (HF.ev rfl) (by kernel_rfl)) ?_; clear HF a; intro a HF
   refine wl_yg HF rfl rfl rfl rfl rfl (yl_move rfl (HF.ev rfl)) ?_; clear HF a; intro a HF
   refine wl_yg HF rfl rfl rfl rfl rfl (yl_neqI rfl (HF.ev rfl) (HF.ev rfl)) ?_; clear HF a; intro a HF
   refine wl_y rfl HF rfl rfl (yl_pick_f rfl (HF.ev rfl) (HF.ev rfl)) ?_; clear HF a; intro a HF
   refine wl_ne ?_
   refine HF.cases 40 rfl (fun cc5 HF1 => ?_) (fun cc5 HF1 => ?_)
   ·clear HF; have HF := HF1; clear HF1
    have dcc5 := bne_iff_ne.1 cc5
    refine wc_true HF rfl ?_
    refine wp_sr ?_
    refine wl_y rfl HF rfl rfl (yl_build HF rfl (ps := []) rfl (cs := #[.int .i64 0, .string ByteArray.empty, .string ByteArray.empty, .int .i64 0, .string ByteArray.empty]) (by kernel_rfl)) ?_; clear HF a; intro a HF
    refine wl_storeBox rfl HF rfl rfl (HF.ev rfl) (HF.ev rfl) HS.out 3 rfl (cells_lit [.int .i64 0, .string ByteArray.empty, .string ByteArray.empty, .int .i64 0, .string ByteArray.empty] rfl rfl) (by kernel_rfl) ?_; clear HS; intro w17 HS; replace HS := Bx.mk HS
    have HS : Bx (St w0 ([rowA encI 1 3 (.slice (some ⟨b7, 0, none⟩) 8 8) ([0, 2, 2, 4, 3, 2, 3, 3]), boxA b4 5 24 (.agg #[.int .i64 2, .string ByteArray.empty, .string ByteArray.empty, .int .i64 0, .string ByteArray.empty]), rowA encS 1 9 (.slice (some ⟨g3, 0, none⟩) 8 cp2) wordsL, boxA b1 5 24 (.agg #[.int .i64 0, .string ByteArray.empty, .string ByteArray.empty, .int .i64 0, .string ByteArray.empty])]) _) := HS
    refine wl_as HF rfl rfl rfl rfl rfl ?_; clear HF a; intro a HF
    refine wl_ne ?_
    refine wp_ret ?_
    refine ex_then_ret ?_
    refine bp_ret2 HF Tryz.results23 (HF.resBox rfl (HS.out.box 3 rfl) (by kernel_rfl)) (HF.res rfl) ?_
    exact .inr ⟨sh1l hkd (by omega) (by omega), rfl, HS.out.bel⟩
   ·clear HF; have HF := HF1; clear HF1
    have dcc5 := bne_eq_false_iff_eq.1 cc5
    refine wc_false HF rfl ?_
    refine wp_skip ?_
    refine ex_then ?_
    refine wp_sr ?_
    refine wl_mv HF rfl rfl rfl rfl rfl ?_; clear HF a; intro a HF
    refine wl_y rfl HF rfl rfl (yl_indexAddrR (e := 9) (i := 1) (size := 1) rfl (HF.ev rfl) (HF.ev rfl) (by kernel_rfl) rfl (by omega) (R0.out.ao 1 (by omega))) ?_; clear HF a; intro a HF
    refine wl_y rfl HF rfl rfl (yl_load (v := .string (ws.getD 1 ByteArray.empty)) rfl (HF.ev rfl) (R0.out.elem1 HS.out (get_getD (xs := ws) (j := 1) (d := ByteArray.empty) (by omega)) rfl) (by kernel_rfl)) ?_; clear HF a; intro a HF
    refine wl_y rfl HF rfl rfl (yl_fieldAddr (j := 1) rfl (HF.ev rfl) (by kernel_rfl)) ?_; clear HF a; intro a HF
    refine wl_storeF rfl rfl rfl (HF.ev rfl) (HF.ev rfl) (by kernel_rfl) HS.out 1 rfl rfl rfl ?_; clear HS; intro w18 HS; replace HS := Bx.mk HS
    have HS : Bx (St w0 ([rowA encI 1 3 (.slice (some ⟨b7, 0, none⟩) 8 8) ([0, 2, 2, 4, 3, 2, 3, 3]), boxA b4 5 24 (.agg #[.int .i64 2, .string (ws.getD 1 ByteArray.empty), .string ByteArray.empty, .int .i64 0, .string ByteArray.empty]), rowA encS 1 9 (.slice (some ⟨g3, 0, none⟩) 8 cp2) wordsL, boxA b1 5 24 (.agg #[.int .i64 0, .string ByteArray.empty, .string ByteArray.empty, .int .i64 0, .string ByteArray.empty])]) _) := HS
    refine wl_ne ?_
    refine wp_sr ?_
    refine wl_as HF rfl rfl rfl rfl rfl ?_; clear HF a; intro a HF
    refine wl_ne ?_
    refine wp_seq ?_
    refine wp_sr ?_
    refine wl_y rfl HF rfl rfl (yl_fieldAddr (j := 0) rfl (HF.ev rfl) (by kernel_rfl)) ?_; clear HF a; intro a HF
    refine wl_y rfl HF rfl rfl (yl_load (v := .int .i64 2) rfl (HF.ev rfl) (((HS.out.box 1 rfl).cell 0).trans rfl) (by kernel_rfl)) ?_; clear HF a; intro a HF
    refine wl_ne ?_
    refine wp_block ?_
    refine wp_sr ?_
    refine wl_y rfl HF rfl rfl (yl_eqlI rfl (HF.ev rfl) (HF.ev rfl)) ?_; clear HF a; intro a HF
    refine wl_as HF rfl rfl rfl rfl rfl ?_; clear HF a; intro a HF
    refine wl_ne ?_
    replace HF := HF.know (k := 48) (c := false) rfl (by decide)
    refine wc_false HF rfl ?_
    refine wp_sr ?_
    refine wl_y rfl HF rfl rfl (yl_eqlI rfl (HF.ev rfl) (HF.ev rfl)) ?_; clear HF a; intro a HF
    refine wl_as HF rfl rfl rfl rfl rfl ?_; clear HF a; intro a HF
    refine wl_ne ?_
    replace HF := HF.know (k := 68) (c := false) rfl (by decide)
    refine wc_false HF rfl ?_
    refine wp_seq ?_
    refine wp_sr ?_
    refine wl_y rfl HF rfl rfl (yl_eqlI rfl (HF.ev rfl) (HF.ev rfl)) ?_; clear HF a; intro a HF
    refine wl_as HF rfl rfl rfl rfl rfl ?_; clear HF a; intro a HF
    refine wl_ne ?_
    replace HF := HF.know (k := 78) (c := false) rfl (by decide)
    refine wc_false HF rfl ?_
    refine wp_region_lit ?_
    refine wl_y rfl HF rfl rfl (yl_eqlI rfl (HF.ev rfl) (HF.ev rfl)) ?_; clear HF a; intro a HF
    refine wl_as HF rfl rfl rfl rfl rfl ?_; clear HF a; intro a HF
    refine wl_ne ?_
    replace HF := HF.know (k := 78) (c := false) rfl (by decide)
    refine wc_false HF rfl ?_
    refine wp_skip ?_
    refine ex_block ?_
    refine ex_then ?_
    refine wp_seq ?_
    refine wp_sr ?_
    refine wl_mv HF rfl rfl rfl rfl rfl ?_; clear HF a; intro a HF
    refine wl_y rfl HF rfl rfl (yl_not rfl (HF.ev rfl)) ?_; clear HF a; intro a HF
    refine wl_mv HF rfl rfl rfl rfl rfl ?_; clear HF a; intro a HF
    refine wl_yg HF rfl rfl rfl rfl rfl (yl_loadR (cs := [.int .i64 2, .string (ws.getD 1 ByteArray.empty), .string ByteArray.empty, .int .i64 0, .string ByteArray.empty]) rfl (HF.ev rfl) ((HS.out.box 1 rfl).sub 0 5) (by kernel_rfl)) ?_; clear HF a; intro a HF
    refine wl_callBg HF rfl rfl rfl rfl (enter_of Tryz.func16 (by kernel_rfl) rfl) (args := #[.agg #[.int .i64 2, .string (ws.getD 1 ByteArray.empty), .string ByteArray.empty, .int .i64 0, .string ByteArray.empty]]) rfl (v := .bool ((⟨2, (ws.getD 1 ByteArray.empty), ByteArray.empty, 0, ByteArray.empty⟩ : OpD).ok)) (specOpOk_any (⟨2, (ws.getD 1 ByteArray.empty), ByteArray.empty, 0, ByteArray.empty⟩ : OpD) _ (by first | exact hz _ | exact Nat.zero_le _) (by first | exact hz _ | exact Nat.zero_le _) (by first | exact hz _ | exact Nat.zero_le _)) rfl rfl HS.out ?_; clear HF HS a; intro w19 a HS HF; replace HS := Bx.mk HS
    refine wl_yg HF rfl rfl rfl rfl rfl (yl_not rfl (HF.ev rfl)) ?_; clear HF a; intro a HF
    refine wl_y rfl HF rfl rfl (yl_pick_f rfl (HF.ev rfl) (HF.ev rfl)) ?_; clear HF a; intro a HF
    refine wl_ne ?_
    refine HF.cases 91 rfl (fun cc6 HF1 => ?_) (fun cc6 HF1 => ?_)
    ·clear HF; have HF := HF1; clear HF1
     refine wc_true HF rfl ?_
     refine wp_sr ?_
     refine wl_y rfl HF rfl rfl (yl_build HF rfl (ps := []) rfl (cs := #[.int .i64 0, .string ByteArray.empty, .string ByteArray.empty, .int .i64 0, .string ByteArray.empty]) (by kernel_rfl)) ?_; clear HF a; intro a HF
     refine wl_storeBox rfl HF rfl rfl (HF.ev rfl) (HF.ev rfl) HS.out 3 rfl (cells_lit [.int .i64 0, .string ByteArray.empty, .string ByteArray.empty, .int .i64 0, .string ByteArray.empty] rfl rfl) (by kernel_rfl) ?_; clear HS; intro w20 HS; replace HS := Bx.mk HS
     have HS : Bx (St w0 ([rowA encI 1 3 (.slice (some ⟨b7, 0, none⟩) 8 8) ([0, 2, 2, 4, 3, 2, 3, 3]), boxA b4 5 24 (.agg #[.int .i64 2, .string (ws.getD 1 ByteArray.empty), .string ByteArray.empty, .int .i64 0, .string ByteArray.empty]), rowA encS 1 9 (.slice (some ⟨g3, 0, none⟩) 8 cp2) wordsL, boxA b1 5 24 (.agg #[.int .i64 0, .string ByteArray.empty, .string ByteArray.empty, .int .i64 0, .string ByteArray.empty])]) _) := HS
     refine wl_as HF rfl rfl rfl rfl rfl ?_; clear HF a; intro a HF
     refine wl_ne ?_
     refine wp_ret ?_
     refine ex_then_ret ?_
     refine bp_ret2 HF Tryz.results23 (HF.resBox rfl (HS.out.box 3 rfl) (by kernel_rfl)) (HF.res rfl) ?_
     exact .inr ⟨(sh1 hkd (by omega) (by omega)).trans (chk_no (by simpa using cc6)), rfl, HS.out.bel⟩
    ·clear HF; have HF := HF1; clear HF1
     refine wc_false HF rfl ?_
     refine wp_skip ?_
     refine ex_then ?_
     refine wp_sr ?_
     refine wl_y rfl HF rfl rfl (yl_loadR (cs := [.int .i64 2, .string (ws.getD 1 ByteArray.empty), .string ByteArray.empty, .int .i64 0, .string ByteArray.empty]) rfl (HF.ev rfl) ((HS.out.box 1 rfl).sub 0 5) (by kernel_rfl)) ?_; clear HF a; intro a HF
     refine wl_storeBox rfl HF rfl rfl (HF.ev rfl) (HF.ev rfl) HS.out 3 rfl (cells_lit [.int .i64 2, .string (ws.getD 1 ByteArray.empty), .string ByteArray.empty, .int .i64 0, .string ByteArray.empty] rfl rfl) (by kernel_rfl) ?_; clear HS; intro w21 HS; replace HS := Bx.mk HS
     have HS : Bx (St w0 ([rowA encI 1 3 (.slice (some ⟨b7, 0, none⟩) 8 8) ([0, 2, 2, 4, 3, 2, 3, 3]), boxA b4 5 24 (.agg #[.int .i64 2, .string (ws.getD 1 ByteArray.empty), .string ByteArray.empty, .int .i64 0, .string ByteArray.empty]), rowA encS 1 9 (.slice (some ⟨g3, 0, none⟩) 8 cp2) wordsL, boxA b1 5 24 (.agg #[.int .i64 2, .string (ws.getD 1 ByteArray.empty), .string ByteArray.empty, .int .i64 0, .string ByteArray.empty])]) _) := HS
     refine wl_as HF rfl rfl rfl rfl rfl ?_; clear HF a; intro a HF
     refine wl_ne ?_
     refine wp_ret ?_
     refine bp_ret2 HF Tryz.results23 (HF.resBox rfl (HS.out.box 3 rfl) (by kernel_rfl)) (HF.res rfl) ?_
     exact .inl ⟨⟨2, (ws.getD 1 ByteArray.empty), ByteArray.empty, 0, ByteArray.empty⟩, (sh1 hkd (by omega) (by omega)).trans (chk_yes (by simpa using cc6)), rfl, HS.out.bel⟩
  ·skip
   refine wp_region_lit ?_
   refine wl_buildS (enc := encI) (e := 3) (size := 1) rfl HF rfl rfl rfl (ps := [(0, .int .i64 0), (1, .int .i64 2), (2, .int .i64 2), (3, .int .i64 4), (4, .int .i64 3), (5, .int .i64 2), (6, .int .i64 3), (7, .int .i64 3)]) rfl (cells := [.int .i64 0, .int .i64 2, .int .i64 2, .int .i64 4, .int .i64 3, .int .i64 2, .int .i64 3, .int .i64 3]) (by kernel_rfl) [0, 2, 2, 4, 3, 2, 3, 3] rfl rfl (by unfold maxLen; omega) rfl HS.out ?_; clear HF HS a; intro b8 a w22 HF HS; replace HS := Bx.mk HS
   refine wl_y rfl HF rfl rfl (yl_fieldAddr (j := 0) rfl (HF.ev rfl) (by kernel_rfl)) ?_; clear HF a; intro a HF
   refine wl_y rfl HF rfl rfl (yl_load (v := .int .i64 3) rfl (HF.ev rfl) (((HS.out.box 1 rfl).cell 0).trans rfl) (by kernel_rfl)) ?_; clear HF a; intro a HF
   refine wl_y rfl HF rfl rfl (yl_indexAddr (e := 3) (i := 3) (size := 1) rfl (HF.ev rfl) (HF.ev rfl) (by kernel_rfl) rfl (by omega)) ?_; clear HF a; intro a HF
   refine wl_y rfl HF rfl rfl (yl_load (v := .int .i64 4) rfl (HF.ev rfl) (HS.out.elem1 encI_len 0 rfl (show ([0, 2, 2, 4, 3, 2, 3, 3] : List _)[3]? = some _ from rfl) rfl) (by kernel_rfl)) ?_; clear HF a; intro a HF
   refine wl_as HF rfl rfl rfl rfl rfl ?_; clear HF a; intro a HF
   refine wl_ne ?_
   refine wp_seq ?_
   refine wp_sr ?_
   refine wl_y rfl HF rfl rfl (yl_fieldAddr (j := 0) rfl (HF.ev rfl) (by kernel_rfl)) ?_; clear HF a; intro a HF
   refine wl_y rfl HF rfl rfl (yl_load (v := .int .i64 3) rfl (HF.ev rfl) (((HS.out.box 1 rfl).cell 0).trans rfl) (by kernel_rfl)) ?_; clear HF a; intro a HF
   refine wl_y rfl HF rfl rfl (yl_eqlI rfl (HF.ev rfl) (HF.ev rfl)) ?_; clear HF a; intro a HF
   refine wl_mv HF rfl rfl rfl rfl rfl ?_; clear HF a; intro a HF
   replace HF := HF.know (k := 35) (c := false) rfl (by decide)
   refine wl_yg HF rfl rfl rfl rfl rfl (yl_move rfl (HF.ev rfl)) ?_; clear HF a; intro a HF
   refine wl_yg HF rfl rfl rfl rfl rfl (yl_lenL (e := 9) (size := 1) rfl (HF.ev rfl) (by kernel_rfl)) ?_; clear HF a; intro a HF
   refine wl_yg HF rfl rfl rfl rfl rfl (yl_move rfl (HF.ev rfl)) ?_; clear HF a; intro a HF
   refine wl_yg HF rfl rfl rfl rfl rfl (yl_neqI rfl (HF.ev rfl) (HF.ev rfl)) ?_; clear HF a; intro a HF
   refine wl_y rfl HF rfl rfl (yl_pick_f rfl (HF.ev rfl) (HF.ev rfl)) ?_; clear HF a; intro a HF
   refine wl_ne ?_
   refine HF.cases 40 rfl (fun cc7 HF1 => ?_) (fun cc7 HF1 => ?_)
   ·clear HF; have HF := HF1; clear HF1
    have dcc7 := bne_iff_ne.1 cc7
    refine wc_true HF rfl ?_
    refine wp_sr ?_
    refine wl_y rfl HF rfl rfl (yl_build HF rfl (ps := []) rfl (cs := #[.int .i64 0, .string ByteArray.empty, .string ByteArray.empty, .int .i64 0, .string ByteArray.empty]) (by kernel_rfl)) ?_; clear HF a; intro a HF
    refine wl_storeBox rfl HF rfl rfl (HF.ev rfl) (HF.ev rfl) HS.out 3 rfl (cells_lit [.int .i64 0, .string ByteArray.empty, .string ByteArray.empty, .int .i64 0, .string ByteArray.empty] rfl rfl) (by kernel_rfl) ?_; clear HS; intro w23 HS; replace HS := Bx.mk HS
    have HS : Bx (St w0 ([rowA encI 1 3 (.slice (some ⟨b8, 0, none⟩) 8 8) ([0, 2, 2, 4, 3, 2, 3, 3]), boxA b4 5 24 (.agg #[.int .i64 3, .string ByteArray.empty, .string ByteArray.empty, .int .i64 0, .string ByteArray.empty]), rowA encS 1 9 (.slice (some ⟨g3, 0, none⟩) 8 cp2) wordsL, boxA b1 5 24 (.agg #[.int .i64 0, .string ByteArray.empty, .string ByteArray.empty, .int .i64 0, .string ByteArray.empty])]) _) := HS
    refine wl_as HF rfl rfl rfl rfl rfl ?_; clear HF a; intro a HF
    refine wl_ne ?_
    refine wp_ret ?_
    refine ex_then_ret ?_
    refine bp_ret2 HF Tryz.results23 (HF.resBox rfl (HS.out.box 3 rfl) (by kernel_rfl)) (HF.res rfl) ?_
    exact .inr ⟨sh3l hkd  (by omega), rfl, HS.out.bel⟩
   ·clear HF; have HF := HF1; clear HF1
    have dcc7 := bne_eq_false_iff_eq.1 cc7
    refine wc_false HF rfl ?_
    refine wp_skip ?_
    refine ex_then ?_
    refine wp_sr ?_
    refine wl_mv HF rfl rfl rfl rfl rfl ?_; clear HF a; intro a HF
    refine wl_y rfl HF rfl rfl (yl_indexAddrR (e := 9) (i := 1) (size := 1) rfl (HF.ev rfl) (HF.ev rfl) (by kernel_rfl) rfl (by omega) (R0.out.ao 1 (by omega))) ?_; clear HF a; intro a HF
    refine wl_y rfl HF rfl rfl (yl_load (v := .string (ws.getD 1 ByteArray.empty)) rfl (HF.ev rfl) (R0.out.elem1 HS.out (get_getD (xs := ws) (j := 1) (d := ByteArray.empty) (by omega)) rfl) (by kernel_rfl)) ?_; clear HF a; intro a HF
    refine wl_y rfl HF rfl rfl (yl_fieldAddr (j := 1) rfl (HF.ev rfl) (by kernel_rfl)) ?_; clear HF a; intro a HF
    refine wl_storeF rfl rfl rfl (HF.ev rfl) (HF.ev rfl) (by kernel_rfl) HS.out 1 rfl rfl rfl ?_; clear HS; intro w24 HS; replace HS := Bx.mk HS
    have HS : Bx (St w0 ([rowA encI 1 3 (.slice (some ⟨b8, 0, none⟩) 8 8) ([0, 2, 2, 4, 3, 2, 3, 3]), boxA b4 5 24 (.agg #[.int .i64 3, .string (ws.getD 1 ByteArray.empty), .string ByteArray.empty, .int .i64 0, .string ByteArray.empty]), rowA encS 1 9 (.slice (some ⟨g3, 0, none⟩) 8 cp2) wordsL, boxA b1 5 24 (.agg #[.int .i64 0, .string ByteArray.empty, .string ByteArray.empty, .int .i64 0, .string ByteArray.empty])]) _) := HS
    refine wl_ne ?_
    refine wp_sr ?_
    refine wl_as HF rfl rfl rfl rfl rfl ?_; clear HF a; intro a HF
    refine wl_ne ?_
    refine wp_seq ?_
    refine wp_sr ?_
    refine wl_y rfl HF rfl rfl (yl_fieldAddr (j := 0) rfl (HF.ev rfl) (by kernel_rfl)) ?_; clear HF a; intro a HF
    refine wl_y rfl HF rfl rfl (yl_load (v := .int .i64 3) rfl (HF.ev rfl) (((HS.out.box 1 rfl).cell 0).trans rfl) (by kernel_rfl)) ?_; clear HF a; intro a HF
    refine wl_ne ?_
    refine wp_block ?_
    refine wp_sr ?_
    refine wl_y rfl HF rfl rfl (yl_eqlI rfl (HF.ev rfl) (HF.ev rfl)) ?_; clear HF a; intro a HF
    refine wl_as HF rfl rfl rfl rfl rfl ?_; clear HF a; intro a HF
    refine wl_ne ?_
    replace HF := HF.know (k := 48) (c := true) rfl (by decide)
    refine wc_true HF rfl ?_
    refine wp_sr ?_
    refine wl_mv HF rfl rfl rfl rfl rfl ?_; clear HF a; intro a HF
    refine wl_y rfl HF rfl rfl (yl_indexAddrR (e := 9) (i := 2) (size := 1) rfl (HF.ev rfl) (HF.ev rfl) (by kernel_rfl) rfl (by omega) (R0.out.ao 2 (by omega))) ?_; clear HF a; intro a HF
    refine wl_y rfl HF rfl rfl (yl_load (v := .string (ws.getD 2 ByteArray.empty)) rfl (HF.ev rfl) (R0.out.elem1 HS.out (get_getD (xs := ws) (j := 2) (d := ByteArray.empty) (by omega)) rfl) (by kernel_rfl)) ?_; clear HF a; intro a HF
    refine wl_call rfl HF rfl (enter_of Tryz.func40 (by kernel_rfl) rfl) (args := #[.string (ws.getD 2 ByteArray.empty)]) rfl (specNumGet_any (ws.getD 2 ByteArray.empty) _ (Nat.le_trans (hz _) (by decide))) rfl rfl ?_
    rintro _ w25 (⟨n, hng, rfl, hb⟩ | ⟨hng, rfl, hb⟩)
    ·skip
     refine ⟨_, rfl, ?_⟩; replace HS := Bx.mk (HS.out.later hb); clear hb HF; clear a; intro a HF
     refine wl_mv HF rfl rfl rfl rfl rfl ?_; clear HF a; intro a HF
     refine wl_y rfl HF rfl rfl (yl_extract rfl (HF.ev rfl) rfl) ?_; clear HF a; intro a HF
     refine wl_y rfl HF rfl rfl (yl_extract rfl (HF.ev rfl) rfl) ?_; clear HF a; intro a HF
     refine wl_y rfl HF rfl rfl (yl_fieldAddr (j := 3) rfl (HF.ev rfl) (by kernel_rfl)) ?_; clear HF a; intro a HF
     refine wl_storeF rfl rfl rfl (HF.ev rfl) (HF.ev rfl) (by kernel_rfl) HS.out 1 rfl rfl rfl ?_; clear HS; intro w26 HS; replace HS := Bx.mk HS
     have HS : Bx (St w0 ([rowA encI 1 3 (.slice (some ⟨b8, 0, none⟩) 8 8) ([0, 2, 2, 4, 3, 2, 3, 3]), boxA b4 5 24 (.agg #[.int .i64 3, .string (ws.getD 1 ByteArray.empty), .string ByteArray.empty, .int .i64 (n : Int), .string ByteArray.empty]), rowA encS 1 9 (.slice (some ⟨g3, 0, none⟩) 8 cp2) wordsL, boxA b1 5 24 (.agg #[.int .i64 0, .string ByteArray.empty, .string ByteArray.empty, .int .i64 0, .string ByteArray.empty])]) _) := HS
     refine wl_as HF rfl rfl rfl rfl rfl ?_; clear HF a; intro a HF
     refine wl_ne ?_
     refine wp_sr ?_
     refine wl_mv HF rfl rfl rfl rfl rfl ?_; clear HF a; intro a HF
     refine wl_y rfl HF rfl rfl (yl_indexAddrR (e := 9) (i := 3) (size := 1) rfl (HF.ev rfl) (HF.ev rfl) (by kernel_rfl) rfl (by omega) (R0.out.ao 3 (by omega))) ?_; clear HF a; intro a HF
     refine wl_y rfl HF rfl rfl (yl_load (v := .string (ws.getD 3 ByteArray.empty)) rfl (HF.ev rfl) (R0.out.elem1 HS.out (get_getD (xs := ws) (j := 3) (d := ByteArray.empty) (by omega)) rfl) (by kernel_rfl)) ?_; clear HF a; intro a HF
     refine wl_y rfl HF rfl rfl (yl_fieldAddr (j := 4) rfl (HF.ev rfl) (by kernel_rfl)) ?_; clear HF a; intro a HF
     refine wl_storeF rfl rfl rfl (HF.ev rfl) (HF.ev rfl) (by kernel_rfl) HS.out 1 rfl rfl rfl ?_; clear HS; intro w27 HS; replace HS := Bx.mk HS
     have HS : Bx (St w0 ([rowA encI 1 3 (.slice (some ⟨b8, 0, none⟩) 8 8) ([0, 2, 2, 4, 3, 2, 3, 3]), boxA b4 5 24 (.agg #[.int .i64 3, .string (ws.getD 1 ByteArray.empty), .string ByteArray.empty, .int .i64 (n : Int), .string (ws.getD 3 ByteArray.empty)]), rowA encS 1 9 (.slice (some ⟨g3, 0, none⟩) 8 cp2) wordsL, boxA b1 5 24 (.agg #[.int .i64 0, .string ByteArray.empty, .string ByteArray.empty, .int .i64 0, .string ByteArray.empty])]) _) := HS
     refine wl_ne ?_
     refine wp_region_lit ?_
     refine wl_mv HF rfl rfl rfl rfl rfl ?_; clear HF a; intro a HF
     refine wl_mv HF rfl rfl rfl rfl rfl ?_; clear HF a; intro a HF
     refine wl_yg HF rfl rfl rfl rfl rfl (yl_fieldAddr (j := 4) rfl (HF.ev rfl) (by kernel_rfl)) ?_; clear HF a; intro a HF
     refine wl_yg HF rfl rfl rfl rfl rfl (yl_load (v := .string (ws.getD 3 ByteArray.empty)) rfl (HF.ev rfl) (((HS.out.box 1 rfl).cell 4).trans rfl) (by kernel_rfl)) ?_; clear HF a; intro a HF
     refine wl_yg HF rfl rfl rfl rfl rfl (yl_neqS rfl (HF.ev rfl) (HF.ev rfl)) ?_; clear HF a; intro a HF
     refine wl_y rfl HF rfl rfl (yl_pick_t rfl (HF.ev rfl) (HF.ev rfl)) ?_; clear HF a; intro a HF
     refine wl_as HF rfl rfl rfl rfl rfl ?_; clear HF a; intro a HF
     refine wpList_nil ?_
     refine ex_block ?_
     refine ex_then ?_
     refine wp_seq ?_
     refine wp_sr ?_
     refine wl_mv HF rfl rfl rfl rfl rfl ?_; clear HF a; intro a HF
     refine wl_y rfl HF rfl rfl (yl_not rfl (HF.ev rfl)) ?_; clear HF a; intro a HF
     refine wl_mv HF rfl rfl rfl rfl rfl ?_; clear HF a; intro a HF
     refine HF.cases 87 rfl (fun cc8 HF1 => ?_) (fun cc8 HF1 => ?_)
     ·clear HF; have HF := HF1; clear HF1
      refine wl_skip HF rfl rfl rfl rfl rfl rfl ?_; clear HF a; intro a HF
      refine wl_skip HF rfl rfl rfl rfl rfl rfl ?_; clear HF a; intro a HF
      refine wl_skip HF rfl rfl rfl rfl rfl rfl ?_; clear HF a; intro a HF
      refine wl_y rfl HF rfl rfl (yl_pick_t rfl (HF.ev rfl) (HF.ev rfl)) ?_; clear HF a; intro a HF
      refine wl_ne ?_
      refine wc_true HF rfl ?_
      refine wp_sr ?_
      refine wl_y rfl HF rfl rfl (yl_build HF rfl (ps := []) rfl (cs := #[.int .i64 0, .string ByteArray.empty, .string ByteArray.empty, .int .i64 0, .string ByteArray.empty]) (by kernel_rfl)) ?_; clear HF a; intro a HF
      refine wl_storeBox rfl HF rfl rfl (HF.ev rfl) (HF.ev rfl) HS.out 3 rfl (cells_lit [.int .i64 0, .string ByteArray.empty, .string ByteArray.empty, .int .i64 0, .string ByteArray.empty] rfl rfl) (by kernel_rfl) ?_; clear HS; intro w28 HS; replace HS := Bx.mk HS
      have HS : Bx (St w0 ([rowA encI 1 3 (.slice (some ⟨b8, 0, none⟩) 8 8) ([0, 2, 2, 4, 3, 2, 3, 3]), boxA b4 5 24 (.agg #[.int .i64 3, .string (ws.getD 1 ByteArray.empty), .string ByteArray.empty, .int .i64 (n : Int), .string (ws.getD 3 ByteArray.empty)]), rowA encS 1 9 (.slice (some ⟨g3, 0, none⟩) 8 cp2) wordsL, boxA b1 5 24 (.agg #[.int .i64 0, .string ByteArray.empty, .string ByteArray.empty, .int .i64 0, .string ByteArray.empty])]) _) := HS
      refine wl_as HF rfl rfl rfl rfl rfl ?_; clear HF a; intro a HF
      refine wl_ne ?_
      refine wp_ret ?_
      refine ex_then_ret ?_
      refine bp_ret2 HF Tryz.results23 (HF.resBox rfl (HS.out.box 3 rfl) (by kernel_rfl)) (HF.res rfl) ?_
      exact .inr ⟨sh3t hkd (by simpa using cc8), rfl, HS.out.bel⟩
     ·clear HF; have HF := HF1; clear HF1
      refine wl_yg HF rfl rfl rfl rfl rfl (yl_loadR (cs := [.int .i64 3, .string (ws.getD 1 ByteArray.empty), .string ByteArray.empty, .int .i64 (n : Int), .string (ws.getD 3 ByteArray.empty)]) rfl (HF.ev rfl) ((HS.out.box 1 rfl).sub 0 5) (by kernel_rfl)) ?_; clear HF a; intro a HF
      refine wl_callBg HF rfl rfl rfl rfl (enter_of Tryz.func16 (by kernel_rfl) rfl) (args := #[.agg #[.int .i64 3, .string (ws.getD 1 ByteArray.empty), .string ByteArray.empty, .int .i64 (n : Int), .string (ws.getD 3 ByteArray.empty)]]) rfl (v := .bool ((⟨3, (ws.getD 1 ByteArray.empty), ByteArray.empty, (n : Int), (ws.getD 3 ByteArray.empty)⟩ : OpD).ok)) (specOpOk_any (⟨3, (ws.getD 1 ByteArray.empty), ByteArray.empty, (n : Int), (ws.getD 3 ByteArray.empty)⟩ : OpD) _ (by first | exact hz _ | exact Nat.zero_le _) (by first | exact hz _ | exact Nat.zero_le _) (by first | exact hz _ | exact Nat.zero_le _)) rfl rfl HS.out ?_; clear HF HS a; intro w29 a HS HF; replace HS := Bx.mk HS
      refine wl_yg HF rfl rfl rfl rfl rfl (yl_not rfl (HF.ev rfl)) ?_; clear HF a; intro a HF
      refine wl_y rfl HF rfl rfl (yl_pick_f rfl (HF.ev rfl) (HF.ev rfl)) ?_; clear HF a; intro a HF
      refine wl_ne ?_
      refine HF.cases 91 rfl (fun cc9 HF1 => ?_) (fun cc9 HF1 => ?_)
      ·clear HF; have HF := HF1; clear HF1
       refine wc_true HF rfl ?_
       refine wp_sr ?_
       refine wl_y rfl HF rfl rfl (yl_build HF rfl (ps := []) rfl (cs := #[.int .i64 0, .string ByteArray.empty, .string ByteArray.empty, .int .i64 0, .string ByteArray.empty]) (by kernel_rfl)) ?_; clear HF a; intro a HF
       refine wl_storeBox rfl HF rfl rfl (HF.ev rfl) (HF.ev rfl) HS.out 3 rfl (cells_lit [.int .i64 0, .string ByteArray.empty, .string ByteArray.empty, .int .i64 0, .string ByteArray.empty] rfl rfl) (by kernel_rfl) ?_; clear HS; intro w30 HS; replace HS := Bx.mk HS
       have HS : Bx (St w0 ([rowA encI 1 3 (.slice (some ⟨b8, 0, none⟩) 8 8) ([0, 2, 2, 4, 3, 2, 3, 3]), boxA b4 5 24 (.agg #[.int .i64 3, .string (ws.getD 1 ByteArray.empty), .string ByteArray.empty, .int .i64 (n : Int), .string (ws.getD 3 ByteArray.empty)]), rowA encS 1 9 (.slice (some ⟨g3, 0, none⟩) 8 cp2) wordsL, boxA b1 5 24 (.agg #[.int .i64 0, .string ByteArray.empty, .string ByteArray.empty, .int .i64 0, .string ByteArray.empty])]) _) := HS
       refine wl_as HF rfl rfl rfl rfl rfl ?_; clear HF a; intro a HF
       refine wl_ne ?_
       refine wp_ret ?_
       refine ex_then_ret ?_
       refine bp_ret2 HF Tryz.results23 (HF.resBox rfl (HS.out.box 3 rfl) (by kernel_rfl)) (HF.res rfl) ?_
       exact .inr ⟨(sh3 hkd (by omega) (by simpa using cc8) hng).trans (chk_no (by simpa using cc9)), rfl, HS.out.bel⟩
      ·clear HF; have HF := HF1; clear HF1
       refine wc_false HF rfl ?_
       refine wp_skip ?_
       refine ex_then ?_
       refine wp_sr ?_
       refine wl_y rfl HF rfl rfl (yl_loadR (cs := [.int .i64 3, .string (ws.getD 1 ByteArray.empty), .string ByteArray.empty, .int .i64 (n : Int), .string (ws.getD 3 ByteArray.empty)]) rfl (HF.ev rfl) ((HS.out.box 1 rfl).sub 0 5) (by kernel_rfl)) ?_; clear HF a; intro a HF
       refine wl_storeBox rfl HF rfl rfl (HF.ev rfl) (HF.ev rfl) HS.out 3 rfl (cells_lit [.int .i64 3, .string (ws.getD 1 ByteArray.empty), .string ByteArray.empty, .int .i64 (n : Int), .string (ws.getD 3 ByteArray.empty)] rfl rfl) (by kernel_rfl) ?_; clear HS; intro w31 HS; replace HS := Bx.mk HS
       have HS : Bx (St w0 ([rowA encI 1 3 (.slice (some ⟨b8, 0, none⟩) 8 8) ([0, 2, 2, 4, 3, 2, 3, 3]), boxA b4 5 24 (.agg #[.int .i64 3, .string (ws.getD 1 ByteArray.empty), .string ByteArray.empty, .int .i64 (n : Int), .string (ws.getD 3 ByteArray.empty)]), rowA encS 1 9 (.slice (some ⟨g3, 0, none⟩) 8 cp2) wordsL, boxA b1 5 24 (.agg #[.int .i64 3, .string (ws.getD 1 ByteArray.empty), .string ByteArray.empty, .int .i64 (n : Int), .string (ws.getD 3 ByteArray.empty)])]) _) := HS
       refine wl_as HF rfl rfl rfl rfl rfl ?_; clear HF a; intro a HF
       refine wl_ne ?_
       refine wp_ret ?_
       refine bp_ret2 HF Tryz.results23 (HF.resBox rfl (HS.out.box 3 rfl) (by kernel_rfl)) (HF.res rfl) ?_
       exact .inl ⟨⟨3, (ws.getD 1 ByteArray.empty), ByteArray.empty, (n : Int), (ws.getD 3 ByteArray.empty)⟩, (sh3 hkd (by omega) (by simpa using cc8) hng).trans (chk_yes (by simpa using cc9)), rfl, HS.out.bel⟩
    ·skip
     refine ⟨_, rfl, ?_⟩; replace HS := Bx.mk (HS.out.later hb); clear hb HF; clear a; intro a HF
     refine wl_mv HF rfl rfl rfl rfl rfl ?_; clear HF a; intro a HF
     refine wl_y rfl HF rfl rfl (yl_extract rfl (HF.ev rfl) rfl) ?_; clear HF a; intro a HF
     refine wl_y rfl HF rfl rfl (yl_extract rfl (HF.ev rfl) rfl) ?_; clear HF a; intro a HF
     refine wl_y rfl HF rfl rfl (yl_fieldAddr (j := 3) rfl (HF.ev rfl) (by kernel_rfl)) ?_; clear HF a; intro a HF
     refine wl_storeF rfl rfl rfl (HF.ev rfl) (HF.ev rfl) (by kernel_rfl) HS.out 1 rfl rfl rfl ?_; clear HS; intro w32 HS; replace HS := Bx.mk HS
     have HS : Bx (St w0 ([rowA encI 1 3 (.slice (some ⟨b8, 0, none⟩) 8 8) ([0, 2, 2, 4, 3, 2, 3, 3]), boxA b4 5 24 (.agg #[.int .i64 3, .string (ws.getD 1 ByteArray.empty), .string ByteArray.empty, .int .i64 0, .string ByteArray.empty]), rowA encS 1 9 (.slice (some ⟨g3, 0, none⟩) 8 cp2) wordsL, boxA b1 5 24 (.agg #[.int .i64 0, .string ByteArray.empty, .string ByteArray.empty, .int .i64 0, .string ByteArray.empty])]) _) := HS
     refine wl_as HF rfl rfl rfl rfl rfl ?_; clear HF a; intro a HF
     refine wl_ne ?_
     refine wp_sr ?_
     refine wl_mv HF rfl rfl rfl rfl rfl ?_; clear HF a; intro a HF
     refine wl_y rfl HF rfl rfl (yl_indexAddrR (e := 9) (i := 3) (size := 1) rfl (HF.ev rfl) (HF.ev rfl) (by kernel_rfl) rfl (by omega) (R0.out.ao 3 (by omega))) ?_; clear HF a; intro a HF
     refine wl_y rfl HF rfl rfl (yl_load (v := .string (ws.getD 3 ByteArray.empty)) rfl (HF.ev rfl) (R0.out.elem1 HS.out (get_getD (xs := ws) (j := 3) (d := ByteArray.empty) (by omega)) rfl) (by kernel_rfl)) ?_; clear HF a; intro a HF
     refine wl_y rfl HF rfl rfl (yl_fieldAddr (j := 4) rfl (HF.ev rfl) (by kernel_rfl)) ?_; clear HF a; intro a HF
     refine wl_storeF rfl rfl rfl (HF.ev rfl) (HF.ev rfl) (by kernel_rfl) HS.out 1 rfl rfl rfl ?_; clear HS; intro w33 HS; replace HS := Bx.mk HS
     have HS : Bx (St w0 ([rowA encI 1 3 (.slice (some ⟨b8, 0, none⟩) 8 8) ([0, 2, 2, 4, 3, 2, 3, 3]), boxA b4 5 24 (.agg #[.int .i64 3, .string (ws.getD 1 ByteArray.empty), .string ByteArray.empty, .int .i64 0, .string (ws.getD 3 ByteArray.empty)]), rowA encS 1 9 (.slice (some ⟨g3, 0, none⟩) 8 cp2) wordsL, boxA b1 5 24 (.agg #[.int .i64 0, .string ByteArray.empty, .string ByteArray.empty, .int .i64 0, .string ByteArray.empty])]) _) := HS
     refine wl_ne ?_
     refine wp_region_lit ?_
     refine wl_mv HF rfl rfl rfl rfl rfl ?_; clear HF a; intro a HF
     refine wl_mv HF rfl rfl rfl rfl rfl ?_; clear HF a; intro a HF
     refine wl_skip HF rfl rfl rfl rfl rfl rfl ?_; clear HF a; intro a HF
     refine wl_skip HF rfl rfl rfl rfl rfl rfl ?_; clear HF a; intro a HF
     refine wl_skip HF rfl rfl rfl rfl rfl rfl ?_; clear HF a; intro a HF
     refine wl_y rfl HF rfl rfl (yl_pick_f rfl (HF.ev rfl) (HF.ev rfl)) ?_; clear HF a; intro a HF
     refine wl_as HF rfl rfl rfl rfl rfl ?_; clear HF a; intro a HF
     refine wpList_nil ?_
     refine ex_block ?_
     refine ex_then ?_
     refine wp_seq ?_
     refine wp_sr ?_
     refine wl_mv HF rfl rfl rfl rfl rfl ?_; clear HF a; intro a HF
     refine wl_y rfl HF rfl rfl (yl_not rfl (HF.ev rfl)) ?_; clear HF a; intro a HF
     refine wl_mv HF rfl rfl rfl rfl rfl ?_; clear HF a; intro a HF
     refine wl_skip HF rfl rfl rfl rfl rfl rfl ?_; clear HF a; intro a HF
     refine wl_skip HF rfl rfl rfl rfl rfl rfl ?_; clear HF a; intro a HF
     refine wl_skip HF rfl rfl rfl rfl rfl rfl ?_; clear HF a; intro a HF
     refine wl_y rfl HF rfl rfl (yl_pick_t rfl (HF.ev rfl) (HF.ev rfl)) ?_; clear HF a; intro a HF
     refine wl_ne ?_
     refine wc_true HF rfl ?_
     refine wp_sr ?_
     refine wl_y rfl HF rfl rfl (yl_build HF rfl (ps := []) rfl (cs := #[.int .i64 0, .string ByteArray.empty, .string ByteArray.empty, .int .i64 0, .string ByteArray.empty]) (by kernel_rfl)) ?_; clear HF a; intro a HF
     refine wl_storeBox rfl HF rfl rfl (HF.ev rfl) (HF.ev rfl) HS.out 3 rfl (cells_lit [.int .i64 0, .string ByteArray.empty, .string ByteArray.empty, .int .i64 0, .string ByteArray.empty] rfl rfl) (by kernel_rfl) ?_; clear HS; intro w34 HS; replace HS := Bx.mk HS
     have HS : Bx (St w0 ([rowA encI 1 3 (.slice (some ⟨b8, 0, none⟩) 8 8) ([0, 2, 2, 4, 3, 2, 3, 3]), boxA b4 5 24 (.agg #[.int .i64 3, .string (ws.getD 1 ByteArray.empty), .string ByteArray.empty, .int .i64 0, .string (ws.getD 3 ByteArray.empty)]), rowA encS 1 9 (.slice (some ⟨g3, 0, none⟩) 8 cp2) wordsL, boxA b1 5 24 (.agg #[.int .i64 0, .string ByteArray.empty, .string ByteArray.empty, .int .i64 0, .string ByteArray.empty])]) _) := HS
     refine wl_as HF rfl rfl rfl rfl rfl ?_; clear HF a; intro a HF
     refine wl_ne ?_
     refine wp_ret ?_
     refine ex_then_ret ?_
     refine bp_ret2 HF Tryz.results23 (HF.resBox rfl (HS.out.box 3 rfl) (by kernel_rfl)) (HF.res rfl) ?_
     exact .inr ⟨sh3n hkd hng, rfl, HS.out.bel⟩
  ·skip
   refine wp_region_lit ?_
   refine wl_buildS (enc := encI) (e := 3) (size := 1) rfl HF rfl rfl rfl (ps := [(0, .int .i64 0), (1, .int .i64 2), (2, .int .i64 2), (3, .int .i64 4), (4, .int .i64 3), (5, .int .i64 2), (6, .int .i64 3), (7, .int .i64 3)]) rfl (cells := [.int .i64 0, .int .i64 2, .int .i64 2, .int .i64 4, .int .i64 3, .int .i64 2, .int .i64 3, .int .i64 3]) (by kernel_rfl) [0, 2, 2, 4, 3, 2, 3, 3] rfl rfl (by unfold maxLen; omega) rfl HS.out ?_; clear HF HS a; intro b9 a w35 HF HS; replace HS := Bx.mk HS
   refine wl_y rfl HF rfl rfl (yl_fieldAddr (j := 0) rfl (HF.ev rfl) (by kernel_rfl)) ?_; clear HF a; intro a HF
   refine wl_y rfl HF rfl rfl (yl_load (v := .int .i64 4) rfl (HF.ev rfl) (((HS.out.box 1 rfl).cell 0).trans rfl) (by kernel_rfl)) ?_; clear HF a; intro a HF
   refine wl_y rfl HF rfl rfl (yl_indexAddr (e := 3) (i := 4) (size := 1) rfl (HF.ev rfl) (HF.ev rfl) (by kernel_rfl) rfl (by omega)) ?_; clear HF a; intro a HF
   refine wl_y rfl HF rfl rfl (yl_load (v := .int .i64 3) rfl (HF.ev rfl) (HS.out.elem1 encI_len 0 rfl (show ([0, 2, 2, 4, 3, 2, 3, 3] : List _)[4]? = some _ from rfl) rfl) (by kernel_rfl)) ?_; clear HF a; intro a HF
   refine wl_as HF rfl rfl rfl rfl rfl ?_; clear HF a; intro a HF
   refine wl_ne ?_
   refine wp_seq ?_
   refine wp_sr ?_
   refine wl_y rfl HF rfl rfl (yl_fieldAddr (j := 0) rfl (HF.ev rfl) (by kernel_rfl)) ?_; clear HF a; intro a HF
   refine wl_y rfl HF rfl rfl (yl_load (v := .int .i64 4) rfl (HF.ev rfl) (((HS.out.box 1 rfl).cell 0).trans rfl) (by kernel_rfl)) ?_; clear HF a; intro a HF
   refine wl_y rfl HF rfl rfl (yl_eqlI rfl (HF.ev rfl) (HF.ev rfl)) ?_; clear HF a; intro a HF
   refine wl_mv HF rfl rfl rfl rfl rfl ?_; clear HF a; intro a HF
   replace HF := HF.know (k := 35) (c := false) rfl (by decide)
   refine wl_yg HF rfl rfl rfl rfl rfl (yl_move rfl (HF.ev rfl)) ?_; clear HF a; intro a HF
   refine wl_yg HF rfl rfl rfl rfl rfl (yl_lenL (e := 9) (size := 1) rfl (HF.ev rfl) (by kernel_rfl)) ?_; clear HF a; intro a HF
   refine wl_yg HF rfl rfl rfl rfl rfl (yl_move rfl (HF.ev rfl)) ?_; clear HF a; intro a HF
   refine wl_yg HF rfl rfl rfl rfl rfl (yl_neqI rfl (HF.ev rfl) (HF.ev rfl)) ?_; clear HF a; intro a HF
   refine wl_y rfl HF rfl rfl (yl_pick_f rfl (HF.ev rfl) (HF.ev rfl)) ?_; clear HF a; intro a HF
   refine wl_ne ?_
   refine HF.cases 40 rfl (fun cc10 HF1 => ?_) (fun cc10 HF1 => ?_)
   ·clear HF; have HF := HF1; clear HF1
    have dcc10 := bne_iff_ne.1 cc10
    refine wc_true HF rfl ?_
    refine wp_sr ?_
    refine wl_y rfl HF rfl rfl (yl_build HF rfl (ps := []) rfl (cs := #[.int .i64 0, .string ByteArray.empty, .string ByteArray.empty, .int .i64 0, .string ByteArray.empty]) (by kernel_rfl)) ?_; clear HF a; intro a HF
    refine wl_storeBox rfl HF rfl rfl (HF.ev rfl) (HF.ev rfl) HS.out 3 rfl (cells_lit [.int .i64 0, .string ByteArray.empty, .string ByteArray.empty, .int .i64 0, .string ByteArray.empty] rfl rfl) (by kernel_rfl) ?_; clear HS; intro w36 HS; replace HS := Bx.mk HS
    have HS : Bx (St w0 ([rowA encI 1 3 (.slice (some ⟨b9, 0, none⟩) 8 8) ([0, 2, 2, 4, 3, 2, 3, 3]), boxA b4 5 24 (.agg #[.int .i64 4, .string ByteArray.empty, .string ByteArray.empty, .int .i64 0, .string ByteArray.empty]), rowA encS 1 9 (.slice (some ⟨g3, 0, none⟩) 8 cp2) wordsL, boxA b1 5 24 (.agg #[.int .i64 0, .string ByteArray.empty, .string ByteArray.empty, .int .i64 0, .string ByteArray.empty])]) _) := HS
    refine wl_as HF rfl rfl rfl rfl rfl ?_; clear HF a; intro a HF
    refine wl_ne ?_
    refine wp_ret ?_
    refine ex_then_ret ?_
    refine bp_ret2 HF Tryz.results23 (HF.resBox rfl (HS.out.box 3 rfl) (by kernel_rfl)) (HF.res rfl) ?_
    exact .inr ⟨sh4l hkd  (by omega), rfl, HS.out.bel⟩
   ·clear HF; have HF := HF1; clear HF1
    have dcc10 := bne_eq_false_iff_eq.1 cc10
    refine wc_false HF rfl ?_
    refine wp_skip ?_
    refine ex_then ?_
    refine wp_sr ?_
    refine wl_mv HF rfl rfl rfl rfl rfl ?_; clear HF a; intro a HF
    refine wl_y rfl HF rfl rfl (yl_indexAddrR (e := 9) (i := 1) (size := 1) rfl (HF.ev rfl) (HF.ev rfl) (by kernel_rfl) rfl (by omega) (R0.out.ao 1 (by omega))) ?_; clear HF a; intro a HF
    refine wl_y rfl HF rfl rfl (yl_load (v := .string (ws.getD 1 ByteArray.empty)) rfl (HF.ev rfl) (R0.out.elem1 HS.out (get_getD (xs := ws) (j := 1) (d := ByteArray.empty) (by omega)) rfl) (by kernel_rfl)) ?_; clear HF a; intro a HF
    refine wl_y rfl HF rfl rfl (yl_fieldAddr (j := 1) rfl (HF.ev rfl) (by kernel_rfl)) ?_; clear HF a; intro a HF
    refine wl_storeF rfl rfl rfl (HF.ev rfl) (HF.ev rfl) (by kernel_rfl) HS.out 1 rfl rfl rfl ?_; clear HS; intro w37 HS; replace HS := Bx.mk HS
    have HS : Bx (St w0 ([rowA encI 1 3 (.slice (some ⟨b9, 0, none⟩) 8 8) ([0, 2, 2, 4, 3, 2, 3, 3]), boxA b4 5 24 (.agg #[.int .i64 4, .string (ws.getD 1 ByteArray.empty), .string ByteArray.empty, .int .i64 0, .string ByteArray.empty]), rowA encS 1 9 (.slice (some ⟨g3, 0, none⟩) 8 cp2) wordsL, boxA b1 5 24 (.agg #[.int .i64 0, .string ByteArray.empty, .string ByteArray.empty, .int .i64 0, .string ByteArray.empty])]) _) := HS
    refine wl_ne ?_
    refine wp_sr ?_
    refine wl_as HF rfl rfl rfl rfl rfl ?_; clear HF a; intro a HF
    refine wl_ne ?_
    refine wp_seq ?_
    refine wp_sr ?_
    refine wl_y rfl HF rfl rfl (yl_fieldAddr (j := 0) rfl (HF.ev rfl) (by kernel_rfl)) ?_; clear HF a; intro a HF
    refine wl_y rfl HF rfl rfl (yl_load (v := .int .i64 4) rfl (HF.ev rfl) (((HS.out.box 1 rfl).cell 0).trans rfl) (by kernel_rfl)) ?_; clear HF a; intro a HF
    refine wl_ne ?_
    refine wp_block ?_
    refine wp_sr ?_
    refine wl_y rfl HF rfl rfl (yl_eqlI rfl (HF.ev rfl) (HF.ev rfl)) ?_; clear HF a; intro a HF
    refine wl_as HF rfl rfl rfl rfl rfl ?_; clear HF a; intro a HF
    refine wl_ne ?_
    replace HF := HF.know (k := 48) (c := false) rfl (by decide)
    refine wc_false HF rfl ?_
    refine wp_sr ?_
    refine wl_y rfl HF rfl rfl (yl_eqlI rfl (HF.ev rfl) (HF.ev rfl)) ?_; clear HF a; intro a HF
    refine wl_as HF rfl rfl rfl rfl rfl ?_; clear HF a; intro a HF
    refine wl_ne ?_
    replace HF := HF.know (k := 68) (c := true) rfl (by decide)
    refine wc_true HF rfl ?_
    refine wp_region_lit ?_
    refine wl_mv HF rfl rfl rfl rfl rfl ?_; clear HF a; intro a HF
    refine wl_y rfl HF rfl rfl (yl_indexAddrR (e := 9) (i := 2) (size := 1) rfl (HF.ev rfl) (HF.ev rfl) (by kernel_rfl) rfl (by omega) (R0.out.ao 2 (by omega))) ?_; clear HF a; intro a HF
    refine wl_y rfl HF rfl rfl (yl_load (v := .string (ws.getD 2 ByteArray.empty)) rfl (HF.ev rfl) (R0.out.elem1 HS.out (get_getD (xs := ws) (j := 2) (d := ByteArray.empty) (by omega)) rfl) (by kernel_rfl)) ?_; clear HF a; intro a HF
    refine wl_call rfl HF rfl (enter_of Tryz.func40 (by kernel_rfl) rfl) (args := #[.string (ws.getD 2 ByteArray.empty)]) rfl (specNumGet_any (ws.getD 2 ByteArray.empty) _ (Nat.le_trans (hz _) (by decide))) rfl rfl ?_
    rintro _ w38 (⟨n, hng, rfl, hb⟩ | ⟨hng, rfl, hb⟩)
    ·skip
     refine ⟨_, rfl, ?_⟩; replace HS := Bx.mk (HS.out.later hb); clear hb HF; clear a; intro a HF
     refine wl_mv HF rfl rfl rfl rfl rfl ?_; clear HF a; intro a HF
     refine wl_y rfl HF rfl rfl (yl_extract rfl (HF.ev rfl) rfl) ?_; clear HF a; intro a HF
     refine wl_y rfl HF rfl rfl (yl_extract rfl (HF.ev rfl) rfl) ?_; clear HF a; intro a HF
     refine wl_y rfl HF rfl rfl (yl_fieldAddr (j := 3) rfl (HF.ev rfl) (by kernel_rfl)) ?_; clear HF a; intro a HF
     refine wl_storeF rfl rfl rfl (HF.ev rfl) (HF.ev rfl) (by kernel_rfl) HS.out 1 rfl rfl rfl ?_; clear HS; intro w39 HS; replace HS := Bx.mk HS
     have HS : Bx (St w0 ([rowA encI 1 3 (.slice (some ⟨b9, 0, none⟩) 8 8) ([0, 2, 2, 4, 3, 2, 3, 3]), boxA b4 5 24 (.agg #[.int .i64 4, .string (ws.getD 1 ByteArray.empty), .string ByteArray.empty, .int .i64 (n : Int), .string ByteArray.empty]), rowA encS 1 9 (.slice (some ⟨g3, 0, none⟩) 8 cp2) wordsL, boxA b1 5 24 (.agg #[.int .i64 0, .string ByteArray.empty, .string ByteArray.empty, .int .i64 0, .string ByteArray.empty])]) _) := HS
     refine wl_as HF rfl rfl rfl rfl rfl ?_; clear HF a; intro a HF
     refine wpList_nil ?_
     refine ex_block ?_
     refine ex_then ?_
     refine wp_seq ?_
     refine wp_sr ?_
     refine wl_mv HF rfl rfl rfl rfl rfl ?_; clear HF a; intro a HF
     refine wl_y rfl HF rfl rfl (yl_not rfl (HF.ev rfl)) ?_; clear HF a; intro a HF
     refine wl_mv HF rfl rfl rfl rfl rfl ?_; clear HF a; intro a HF
     refine wl_yg HF rfl rfl rfl rfl rfl (yl_loadR (cs := [.int .i64 4, .string (ws.getD 1 ByteArray.empty), .string ByteArray.empty, .int .i64 (n : Int), .string ByteArray.empty]) rfl (HF.ev rfl) ((HS.out.box 1 rfl).sub 0 5) (by kernel_rfl)) ?_; clear HF a; intro a HF
     refine wl_callBg HF rfl rfl rfl rfl (enter_of Tryz.func16 (by kernel_rfl) rfl) (args := #[.agg #[.int .i64 4, .string (ws.getD 1 ByteArray.empty), .string ByteArray.empty, .int .i64 (n : Int), .string ByteArray.empty]]) rfl (v := .bool ((⟨4, (ws.getD 1 ByteArray.empty), ByteArray.empty, (n : Int), ByteArray.empty⟩ : OpD).ok)) (specOpOk_any (⟨4, (ws.getD 1 ByteArray.empty), ByteArray.empty, (n : Int), ByteArray.empty⟩ : OpD) _ (by first | exact hz _ | exact Nat.zero_le _) (by first | exact hz _ | exact Nat.zero_le _) (by first | exact hz _ | exact Nat.zero_le _)) rfl rfl HS.out ?_; clear HF HS a; intro w40 a HS HF; replace HS := Bx.mk HS
     refine wl_yg HF rfl rfl rfl rfl rfl (yl_not rfl (HF.ev rfl)) ?_; clear HF a; intro a HF
     refine wl_y rfl HF rfl rfl (yl_pick_f rfl (HF.ev rfl) (HF.ev rfl)) ?_; clear HF a; intro a HF
     refine wl_ne ?_
     refine HF.cases 91 rfl (fun cc11 HF1 => ?_) (fun cc11 HF1 => ?_)
     ·clear HF; have HF := HF1; clear HF1
      refine wc_true HF rfl ?_
      refine wp_sr ?_
      refine wl_y rfl HF rfl rfl (yl_build HF rfl (ps := []) rfl (cs := #[.int .i64 0, .string ByteArray.empty, .string ByteArray.empty, .int .i64 0, .string ByteArray.empty]) (by kernel_rfl)) ?_; clear HF a; intro a HF
      refine wl_storeBox rfl HF rfl rfl (HF.ev rfl) (HF.ev rfl) HS.out 3 rfl (cells_lit [.int .i64 0, .string ByteArray.empty, .string ByteArray.empty, .int .i64 0, .string ByteArray.empty] rfl rfl) (by kernel_rfl) ?_; clear HS; intro w41 HS; replace HS := Bx.mk HS
      have HS : Bx (St w0 ([rowA encI 1 3 (.slice (some ⟨b9, 0, none⟩) 8 8) ([0, 2, 2, 4, 3, 2, 3, 3]), boxA b4 5 24 (.agg #[.int .i64 4, .string (ws.getD 1 ByteArray.empty), .string ByteArray.empty, .int .i64 (n : Int), .string ByteArray.empty]), rowA encS 1 9 (.slice (some ⟨g3, 0, none⟩) 8 cp2) wordsL, boxA b1 5 24 (.agg #[.int .i64 0, .string ByteArray.empty, .string ByteArray.empty, .int .i64 0, .string ByteArray.empty])]) _) := HS
      refine wl_as HF rfl rfl rfl rfl rfl ?_; clear HF a; intro a HF
      refine wl_ne ?_
      refine wp_ret ?_
      refine ex_then_ret ?_
      refine bp_ret2 HF Tryz.results23 (HF.resBox rfl (HS.out.box 3 rfl) (by kernel_rfl)) (HF.res rfl) ?_
      exact .inr ⟨(sh4 hkd (by omega) hng).trans (chk_no (by simpa using cc11)), rfl, HS.out.bel⟩
     ·clear HF; have HF := HF1; clear HF1
      refine wc_false HF rfl ?_
      refine wp_skip ?_
      refine ex_then ?_
      refine wp_sr ?_
      refine wl_y rfl HF rfl rfl (yl_loadR (cs := [.int .i64 4, .string (ws.getD 1 ByteArray.empty), .string ByteArray.empty, .int .i64 (n : Int), .string ByteArray.empty]) rfl (HF.ev rfl) ((HS.out.box 1 rfl).sub 0 5) (by kernel_rfl)) ?_; clear HF a; intro a HF
      refine wl_storeBox rfl HF rfl rfl (HF.ev rfl) (HF.ev rfl) HS.out 3 rfl (cells_lit [.int .i64 4, .string (ws.getD 1 ByteArray.empty), .string ByteArray.empty, .int .i64 (n : Int), .string ByteArray.empty] rfl rfl) (by kernel_rfl) ?_; clear HS; intro w42 HS; replace HS := Bx.mk HS
      have HS : Bx (St w0 ([rowA encI 1 3 (.slice (some ⟨b9, 0, none⟩) 8 8) ([0, 2, 2, 4, 3, 2, 3, 3]), boxA b4 5 24 (.agg #[.int .i64 4, .string (ws.getD 1 ByteArray.empty), .string ByteArray.empty, .int .i64 (n : Int), .string ByteArray.empty]), rowA encS 1 9 (.slice (some ⟨g3, 0, none⟩) 8 cp2) wordsL, boxA b1 5 24 (.agg #[.int .i64 4, .string (ws.getD 1 ByteArray.empty), .string ByteArray.empty, .int .i64 (n : Int), .string ByteArray.empty])]) _) := HS
      refine wl_as HF rfl rfl rfl rfl rfl ?_; clear HF a; intro a HF
      refine wl_ne ?_
      refine wp_ret ?_
      refine bp_ret2 HF Tryz.results23 (HF.resBox rfl (HS.out.box 3 rfl) (by kernel_rfl)) (HF.res rfl) ?_
      exact .inl ⟨⟨4, (ws.getD 1 ByteArray.empty), ByteArray.empty, (n : Int), ByteArray.empty⟩, (sh4 hkd (by omega) hng).trans (chk_yes (by simpa using cc11)), rfl, HS.out.bel⟩
    ·skip
     refine ⟨_, rfl, ?_⟩; replace HS := Bx.mk (HS.out.later hb); clear hb HF; clear a; intro a HF
     refine wl_mv HF rfl rfl rfl rfl rfl ?_; clear HF a; intro a HF
     refine wl_y rfl HF rfl rfl (yl_extract rfl (HF.ev rfl) rfl) ?_; clear HF a; intro a HF
     refine wl_y rfl HF rfl rfl (yl_extract rfl (HF.ev rfl) rfl) ?_; clear HF a; intro a HF
     refine wl_y rfl HF rfl rfl (yl_fieldAddr (j := 3) rfl (HF.ev rfl) (by kernel_rfl)) ?_; clear HF a; intro a HF
     refine wl_storeF rfl rfl rfl (HF.ev rfl) (HF.ev rfl) (by kernel_rfl) HS.out 1 rfl rfl rfl ?_; clear HS; intro w43 HS; replace HS := Bx.mk HS
     have HS : Bx (St w0 ([rowA encI 1 3 (.slice (some ⟨b9, 0, none⟩) 8 8) ([0, 2, 2, 4, 3, 2, 3, 3]), boxA b4 5 24 (.agg #[.int .i64 4, .string (ws.getD 1 ByteArray.empty), .string ByteArray.empty, .int .i64 0, .string ByteArray.empty]), rowA encS 1 9 (.slice (some ⟨g3, 0, none⟩) 8 cp2) wordsL, boxA b1 5 24 (.agg #[.int .i64 0, .string ByteArray.empty, .string ByteArray.empty, .int .i64 0, .string ByteArray.empty])]) _) := HS
     refine wl_as HF rfl rfl rfl rfl rfl ?_; clear HF a; intro a HF
     refine wpList_nil ?_
     refine ex_block ?_
     refine ex_then ?_
     refine wp_seq ?_
     refine wp_sr ?_
     refine wl_mv HF rfl rfl rfl rfl rfl ?_; clear HF a; intro a HF
     refine wl_y rfl HF rfl rfl (yl_not rfl (HF.ev rfl)) ?_; clear HF a; intro a HF
     refine wl_mv HF rfl rfl rfl rfl rfl ?_; clear HF a; intro a HF
     refine wl_skip HF rfl rfl rfl rfl rfl rfl ?_; clear HF a; intro a HF
     refine wl_skip HF rfl rfl rfl rfl rfl rfl ?_; clear HF a; intro a HF
     refine wl_skip HF rfl rfl rfl rfl rfl rfl ?_; clear HF a; intro a HF
     refine wl_y rfl HF rfl rfl (yl_pick_t rfl (HF.ev rfl) (HF.ev rfl)) ?_; clear HF a; intro a HF
     refine wl_ne ?_
     refine wc_true HF rfl ?_
     refine wp_sr ?_
     refine wl_y rfl HF rfl rfl (yl_build HF rfl (ps := []) rfl (cs := #[.int .i64 0, .string ByteArray.empty, .string ByteArray.empty, .int .i64 0, .string ByteArray.empty]) (by kernel_rfl)) ?_; clear HF a; intro a HF
     refine wl_storeBox rfl HF rfl rfl (HF.ev rfl) (HF.ev rfl) HS.out 3 rfl (cells_lit [.int .i64 0, .string ByteArray.empty, .string ByteArray.empty, .int .i64 0, .string ByteArray.empty] rfl rfl) (by kernel_rfl) ?_; clear HS; intro w44 HS; replace HS := Bx.mk HS
     have HS : Bx (St w0 ([rowA encI 1 3 (.slice (some ⟨b9, 0, none⟩) 8 8) ([0, 2, 2, 4, 3, 2, 3, 3]), boxA b4 5 24 (.agg #[.int .i64 4, .string (ws.getD 1 ByteArray.empty), .string ByteArray.empty, .int .i64 0, .string ByteArray.empty]), rowA encS 1 9 (.slice (some ⟨g3, 0, none⟩) 8 cp2) wordsL, boxA b1 5 24 (.agg #[.int .i64 0, .string ByteArray.empty, .string ByteArray.empty, .int .i64 0, .string ByteArray.empty])]) _) := HS
     refine wl_as HF rfl rfl rfl rfl rfl ?_; clear HF a; intro a HF
     refine wl_ne ?_
     refine wp_ret ?_
     refine ex_then_ret ?_
     refine bp_ret2 HF Tryz.results23 (HF.resBox rfl (HS.out.box 3 rfl) (by kernel_rfl)) (HF.res rfl) ?_
     exact .inr ⟨sh4n hkd hng, rfl, HS.out.bel⟩
  ·skip
   refine wp_region_lit ?_
   refine wl_buildS (enc := encI) (e := 3) (size := 1) rfl HF rfl rfl rfl (ps := [(0, .int .i64 0), (1, .int .i64 2), (2, .int .i64 2), (3, .int .i64 4), (4, .int .i64 3), (5, .int .i64 2), (6, .int .i64 3), (7, .int .i64 3)]) rfl (cells := [.int .i64 0, .int .i64 2, .int .i64 2, .int .i64 4, .int .i64 3, .int .i64 2, .int .i64 3, .int .i64 3]) (by kernel_rfl) [0, 2, 2, 4, 3, 2, 3, 3] rfl rfl (by unfold maxLen; omega) rfl HS.out ?_; clear HF HS a; intro b10 a w45 HF HS; replace HS := Bx.mk HS
   refine wl_y rfl HF rfl rfl (yl_fieldAddr (j := 0) rfl (HF.ev rfl) (by kernel_rfl)) ?_; clear HF a; intro a HF
   refine wl_y rfl HF rfl rfl (yl_load (v := .int .i64 5) rfl (HF.ev rfl) (((HS.out.box 1 rfl).cell 0).trans rfl) (by kernel_rfl)) ?_; clear HF a; intro a HF
   refine wl_y rfl HF rfl rfl (yl_indexAddr (e := 3) (i := 5) (size := 1) rfl (HF.ev rfl) (HF.ev rfl) (by kernel_rfl) rfl (by omega)) ?_; clear HF a; intro a HF
   refine wl_y rfl HF rfl rfl (yl_load (v := .int .i64 2) rfl (HF.ev rfl) (HS.out.elem1 encI_len 0 rfl (show ([0, 2, 2, 4, 3, 2, 3, 3] : List _)[5]? = some _ from rfl) rfl) (by kernel_rfl)) ?_; clear HF a; intro a HF
   refine wl_as HF rfl rfl rfl rfl rfl ?_; clear HF a; intro a HF
   refine wl_ne ?_
   refine wp_seq ?_
   refine wp_sr ?_
   refine wl_y rfl HF rfl rfl (yl_fieldAddr (j := 0) rfl (HF.ev rfl) (by kernel_rfl)) ?_; clear HF a; intro a HF
   refine wl_y rfl HF rfl rfl (yl_load (v := .int .i64 5) rfl (HF.ev rfl) (((HS.out.box 1 rfl).cell 0).trans rfl) (by kernel_rfl)) ?_; clear HF a; intro a HF
   refine wl_y rfl HF rfl rfl (yl_eqlI rfl (HF.ev rfl) (HF.ev rfl)) ?_; clear HF a; intro a HF
   refine wl_mv HF rfl rfl rfl rfl rfl ?_; clear HF a; intro a HF
   replace HF := HF.know (k := 35) (c := false) rfl (by decide)
   refine wl_yg HF rfl rfl rfl rfl rfl (yl_move rfl (HF.ev rfl)) ?_; clear HF a; intro a HF
   refine wl_yg HF rfl rfl rfl rfl rfl (yl_lenL (e := 9) (size := 1) rfl (HF.ev rfl) (by kernel_rfl)) ?_; clear HF a; intro a HF
   refine wl_yg HF rfl rfl rfl rfl rfl (yl_move rfl (HF.ev rfl)) ?_; clear HF a; intro a HF
   refine wl_yg HF rfl rfl rfl rfl rfl (yl_neqI rfl (HF.ev rfl) (HF.ev rfl)) ?_; clear HF a; intro a HF
   refine wl_y rfl HF rfl rfl (yl_pick_f rfl (HF.ev rfl) (HF.ev rfl)) ?_; clear HF a; intro a HF
   refine wl_ne ?_
   refine HF.cases 40 rfl (fun cc12 HF1 => ?_) (fun cc12 HF1 => ?_)
   ·clear HF; have HF := HF1; clear HF1
    have dcc12 := bne_iff_ne.1 cc12
    refine wc_true HF rfl ?_
    refine wp_sr ?_
    refine wl_y rfl HF rfl rfl (yl_build HF rfl (ps := []) rfl (cs := #[.int .i64 0, .string ByteArray.empty, .string ByteArray.empty, .int .i64 0, .string ByteArray.empty]) (by kernel_rfl)) ?_; clear HF a; intro a HF
    refine wl_storeBox rfl HF rfl rfl (HF.ev rfl) (HF.ev rfl) HS.out 3 rfl (cells_lit [.int .i64 0, .string ByteArray.empty, .string ByteArray.empty, .int .i64 0, .string ByteArray.empty] rfl rfl) (by kernel_rfl) ?_; clear HS; intro w46 HS; replace HS := Bx.mk HS
    have HS : Bx (St w0 ([rowA encI 1 3 (.slice (some ⟨b10, 0, none⟩) 8 8) ([0, 2, 2, 4, 3, 2, 3, 3]), boxA b4 5 24 (.agg #[.int .i64 5, .string ByteArray.empty, .string ByteArray.empty, .int .i64 0, .string ByteArray.empty]), rowA encS 1 9 (.slice (some ⟨g3, 0, none⟩) 8 cp2) wordsL, boxA b1 5 24 (.agg #[.int .i64 0, .string ByteArray.empty, .string ByteArray.empty, .int .i64 0, .string ByteArray.empty])]) _) := HS
    refine wl_as HF rfl rfl rfl rfl rfl ?_; clear HF a; intro a HF
    refine wl_ne ?_
    refine wp_ret ?_
    refine ex_then_ret ?_
    refine bp_ret2 HF Tryz.results23 (HF.resBox rfl (HS.out.box 3 rfl) (by kernel_rfl)) (HF.res rfl) ?_
    exact .inr ⟨sh1l hkd (by omega) (by omega), rfl, HS.out.bel⟩
   ·clear HF; have HF := HF1; clear HF1
    have dcc12 := bne_eq_false_iff_eq.1 cc12
    refine wc_false HF rfl ?_
    refine wp_skip ?_
    refine ex_then ?_
    refine wp_sr ?_
    refine wl_mv HF rfl rfl rfl rfl rfl ?_; clear HF a; intro a HF
    refine wl_y rfl HF rfl rfl (yl_indexAddrR (e := 9) (i := 1) (size := 1) rfl (HF.ev rfl) (HF.ev rfl) (by kernel_rfl) rfl (by omega) (R0.out.ao 1 (by omega))) ?_; clear HF a; intro a HF
    refine wl_y rfl HF rfl rfl (yl_load (v := .string (ws.getD 1 ByteArray.empty)) rfl (HF.ev rfl) (R0.out.elem1 HS.out (get_getD (xs := ws) (j := 1) (d := ByteArray.empty) (by omega)) rfl) (by kernel_rfl)) ?_; clear HF a; intro a HF
    refine wl_y rfl HF rfl rfl (yl_fieldAddr (j := 1) rfl (HF.ev rfl) (by kernel_rfl)) ?_; clear HF a; intro a HF
    refine wl_storeF rfl rfl rfl (HF.ev rfl) (HF.ev rfl) (by kernel_rfl) HS.out 1 rfl rfl rfl ?_; clear HS; intro w47 HS; replace HS := Bx.mk HS
    have HS : Bx (St w0 ([rowA encI 1 3 (.slice (some ⟨b10, 0, none⟩) 8 8) ([0, 2, 2, 4, 3, 2, 3, 3]), boxA b4 5 24 (.agg #[.int .i64 5, .string (ws.getD 1 ByteArray.empty), .string ByteArray.empty, .int .i64 0, .string ByteArray.empty]), rowA encS 1 9 (.slice (some ⟨g3, 0, none⟩) 8 cp2) wordsL, boxA b1 5 24 (.agg #[.int .i64 0, .string ByteArray.empty, .string ByteArray.empty, .int .i64 0, .string ByteArray.empty])]) _) := HS
    refine wl_ne ?_
    refine wp_sr ?_
    refine wl_as HF rfl rfl rfl rfl rfl ?_; clear HF a; intro a HF
    refine wl_ne ?_
    refine wp_seq ?_
    refine wp_sr ?_
    refine wl_y rfl HF rfl rfl (yl_fieldAddr (j := 0) rfl (HF.ev rfl) (by kernel_rfl)) ?_; clear HF a; intro a HF
    refine wl_y rfl HF rfl rfl (yl_load (v := .int .i64 5) rfl (HF.ev rfl) (((HS.out.box 1 rfl).cell 0).trans rfl) (by kernel_rfl)) ?_; clear HF a; intro a HF
    refine wl_ne ?_
    refine wp_block ?_
    refine wp_sr ?_
    refine wl_y rfl HF rfl rfl (yl_eqlI rfl (HF.ev rfl) (HF.ev rfl)) ?_; clear HF a; intro a HF
    refine wl_as HF rfl rfl rfl rfl rfl ?_; clear HF a; intro a HF
    refine wl_ne ?_
    replace HF := HF.know (k := 48) (c := false) rfl (by decide)
    refine wc_false HF rfl ?_
    refine wp_sr ?_
    refine wl_y rfl HF rfl rfl (yl_eqlI rfl (HF.ev rfl) (HF.ev rfl)) ?_; clear HF a; intro a HF
    refine wl_as HF rfl rfl rfl rfl rfl ?_; clear HF a; intro a HF
    refine wl_ne ?_
    replace HF := HF.know (k := 68) (c := false) rfl (by decide)
    refine wc_false HF rfl ?_
    refine wp_seq ?_
    refine wp_sr ?_
    refine wl_y rfl HF rfl rfl (yl_eqlI rfl (HF.ev rfl) (HF.ev rfl)) ?_; clear HF a; intro a HF
    refine wl_as HF rfl rfl rfl rfl rfl ?_; clear HF a; intro a HF
    refine wl_ne ?_
    replace HF := HF.know (k := 78) (c := false) rfl (by decide)
    refine wc_false HF rfl ?_
    refine wp_region_lit ?_
    refine wl_y rfl HF rfl rfl (yl_eqlI rfl (HF.ev rfl) (HF.ev rfl)) ?_; clear HF a; intro a HF
    refine wl_as HF rfl rfl rfl rfl rfl ?_; clear HF a; intro a HF
    refine wl_ne ?_
    replace HF := HF.know (k := 78) (c := false) rfl (by decide)
    refine wc_false HF rfl ?_
    refine wp_skip ?_
    refine ex_block ?_
    refine ex_then ?_
    refine wp_seq ?_
    refine wp_sr ?_
    refine wl_mv HF rfl rfl rfl rfl rfl ?_; clear HF a; intro a HF
    refine wl_y rfl HF rfl rfl (yl_not rfl (HF.ev rfl)) ?_; clear HF a; intro a HF
    refine wl_mv HF rfl rfl rfl rfl rfl ?_; clear HF a; intro a HF
    refine wl_yg HF rfl rfl rfl rfl rfl (yl_loadR (cs := [.int .i64 5, .string (ws.getD 1 ByteArray.empty), .string ByteArray.empty, .int .i64 0, .string ByteArray.empty]) rfl (HF.ev rfl) ((HS.out.box 1 rfl).sub 0 5) (by kernel_rfl)) ?_; clear HF a; intro a HF
    refine wl_callBg HF rfl rfl rfl rfl (enter_of Tryz.func16 (by kernel_rfl) rfl) (args := #[.agg #[.int .i64 5, .string (ws.getD 1 ByteArray.empty), .string ByteArray.empty, .int .i64 0, .string ByteArray.empty]]) rfl (v := .bool ((⟨5, (ws.getD 1 ByteArray.empty), ByteArray.empty, 0, ByteArray.empty⟩ : OpD).ok)) (specOpOk_any (⟨5, (ws.getD 1 ByteArray.empty), ByteArray.empty, 0, ByteArray.empty⟩ : OpD) _ (by first | exact hz _ | exact Nat.zero_le _) (by first | exact hz _ | exact Nat.zero_le _) (by first | exact hz _ | exact Nat.zero_le _)) rfl rfl HS.out ?_; clear HF HS a; intro w48 a HS HF; replace HS := Bx.mk HS
    refine wl_yg HF rfl rfl rfl rfl rfl (yl_not rfl (HF.ev rfl)) ?_; clear HF a; intro a HF
    refine wl_y rfl HF rfl rfl (yl_pick_f rfl (HF.ev rfl) (HF.ev rfl)) ?_; clear HF a; intro a HF
    refine wl_ne ?_
    refine HF.cases 91 rfl (fun cc13 HF1 => ?_) (fun cc13 HF1 => ?_)
    ·clear HF; have HF := HF1; clear HF1
     refine wc_true HF rfl ?_
     refine wp_sr ?_
     refine wl_y rfl HF rfl rfl (yl_build HF rfl (ps := []) rfl (cs := #[.int .i64 0, .string ByteArray.empty, .string ByteArray.empty, .int .i64 0, .string ByteArray.empty]) (by kernel_rfl)) ?_; clear HF a; intro a HF
     refine wl_storeBox rfl HF rfl rfl (HF.ev rfl) (HF.ev rfl) HS.out 3 rfl (cells_lit [.int .i64 0, .string ByteArray.empty, .string ByteArray.empty, .int .i64 0, .string ByteArray.empty] rfl rfl) (by kernel_rfl) ?_; clear HS; intro w49 HS; replace HS := Bx.mk HS
     have HS : Bx (St w0 ([rowA encI 1 3 (.slice (some ⟨b10, 0, none⟩) 8 8) ([0, 2, 2, 4, 3, 2, 3, 3]), boxA b4 5 24 (.agg #[.int .i64 5, .string (ws.getD 1 ByteArray.empty), .string ByteArray.empty, .int .i64 0, .string ByteArray.empty]), rowA encS 1 9 (.slice (some ⟨g3, 0, none⟩) 8 cp2) wordsL, boxA b1 5 24 (.agg #[.int .i64 0, .string ByteArray.empty, .string ByteArray.empty, .int .i64 0, .string ByteArray.empty])]) _) := HS
     refine wl_as HF rfl rfl rfl rfl rfl ?_; clear HF a; intro a HF
     refine wl_ne ?_
     refine wp_ret ?_
     refine ex_then_ret ?_
     refine bp_ret2 HF Tryz.results23 (HF.resBox rfl (HS.out.box 3 rfl) (by kernel_rfl)) (HF.res rfl) ?_
     exact .inr ⟨(sh1 hkd (by omega) (by omega)).trans (chk_no (by simpa using cc13)), rfl, HS.out.bel⟩
    ·clear HF; have HF := HF1; clear HF1
     refine wc_false HF rfl ?_
     refine wp_skip ?_
     refine ex_then ?_
     refine wp_sr ?_
     refine wl_y rfl HF rfl rfl (yl_loadR (cs := [.int .i64 5, .string (ws.getD 1 ByteArray.empty), .string ByteArray.empty, .int .i64 0, .string ByteArray.empty]) rfl (HF.ev rfl) ((HS.out.box 1 rfl).sub 0 5) (by kernel_rfl)) ?_; clear HF a; intro a HF
     refine wl_storeBox rfl HF rfl rfl (HF.ev rfl) (HF.ev rfl) HS.out 3 rfl (cells_lit [.int .i64 5, .string (ws.getD 1 ByteArray.empty), .string ByteArray.empty, .int .i64 0, .string ByteArray.empty] rfl rfl) (by kernel_rfl) ?_; clear HS; intro w50 HS; replace HS := Bx.mk HS
     have HS : Bx (St w0 ([rowA encI 1 3 (.slice (some ⟨b10, 0, none⟩) 8 8) ([0, 2, 2, 4, 3, 2, 3, 3]), boxA b4 5 24 (.agg #[.int .i64 5, .string (ws.getD 1 ByteArray.empty), .string ByteArray.empty, .int .i64 0, .string ByteArray.empty]), rowA encS 1 9 (.slice (some ⟨g3, 0, none⟩) 8 cp2) wordsL, boxA b1 5 24 (.agg #[.int .i64 5, .string (ws.getD 1 ByteArray.empty), .string ByteArray.empty, .int .i64 0, .string ByteArray.empty])]) _) := HS
     refine wl_as HF rfl rfl rfl rfl rfl ?_; clear HF a; intro a HF
     refine wl_ne ?_
     refine wp_ret ?_
     refine bp_ret2 HF Tryz.results23 (HF.resBox rfl (HS.out.box 3 rfl) (by kernel_rfl)) (HF.res rfl) ?_
     exact .inl ⟨⟨5, (ws.getD 1 ByteArray.empty), ByteArray.empty, 0, ByteArray.empty⟩, (sh1 hkd (by omega) (by omega)).trans (chk_yes (by simpa using cc13)), rfl, HS.out.bel⟩
  ·skip
   refine wp_region_lit ?_
   refine wl_buildS (enc := encI) (e := 3) (size := 1) rfl HF rfl rfl rfl (ps := [(0, .int .i64 0), (1, .int .i64 2), (2, .int .i64 2), (3, .int .i64 4), (4, .int .i64 3), (5, .int .i64 2), (6, .int .i64 3), (7, .int .i64 3)]) rfl (cells := [.int .i64 0, .int .i64 2, .int .i64 2, .int .i64 4, .int .i64 3, .int .i64 2, .int .i64 3, .int .i64 3]) (by kernel_rfl) [0, 2, 2, 4, 3, 2, 3, 3] rfl rfl (by unfold maxLen; omega) rfl HS.out ?_; clear HF HS a; intro b11 a w51 HF HS; replace HS := Bx.mk HS
   refine wl_y rfl HF rfl rfl (yl_fieldAddr (j := 0) rfl (HF.ev rfl) (by kernel_rfl)) ?_; clear HF a; intro a HF
   refine wl_y rfl HF rfl rfl (yl_load (v := .int .i64 6) rfl (HF.ev rfl) (((HS.out.box 1 rfl).cell 0).trans rfl) (by kernel_rfl)) ?_; clear HF a; intro a HF
   refine wl_y rfl HF rfl rfl (yl_indexAddr (e := 3) (i := 6) (size := 1) rfl (HF.ev rfl) (HF.ev rfl) (by kernel_rfl) rfl (by omega)) ?_; clear HF a; intro a HF
   refine wl_y rfl HF rfl rfl (yl_load (v := .int .i64 3) rfl (HF.ev rfl) (HS.out.elem1 encI_len 0 rfl (show ([0, 2, 2, 4, 3, 2, 3, 3] : List _)[6]? = some _ from rfl) rfl) (by kernel_rfl)) ?_; clear HF a; intro a HF
   refine wl_as HF rfl rfl rfl rfl rfl ?_; clear HF a; intro a HF
   refine wl_ne ?_
   refine wp_seq ?_
   refine wp_sr ?_
   refine wl_y rfl HF rfl rfl (yl_fieldAddr (j := 0) rfl (HF.ev rfl) (by kernel_rfl)) ?_; clear HF a; intro a HF
   refine wl_y rfl HF rfl rfl (yl_load (v := .int .i64 6) rfl (HF.ev rfl) (((HS.out.box 1 rfl).cell 0).trans rfl) (by kernel_rfl)) ?_; clear HF a; intro a HF
   refine wl_y rfl HF rfl rfl (yl_eqlI rfl (HF.ev rfl) (HF.ev rfl)) ?_; clear HF a; intro a HF
   refine wl_mv HF rfl rfl rfl rfl rfl ?_; clear HF a; intro a HF
   replace HF := HF.know (k := 35) (c := false) rfl (by decide)
   refine wl_yg HF rfl rfl rfl rfl rfl (yl_move rfl (HF.ev rfl)) ?_; clear HF a; intro a HF
   refine wl_yg HF rfl rfl rfl rfl rfl (yl_lenL (e := 9) (size := 1) rfl (HF.ev rfl) (by kernel_rfl)) ?_; clear HF a; intro a HF
   refine wl_yg HF rfl rfl rfl rfl rfl (yl_move rfl (HF.ev rfl)) ?_; clear HF a; intro a HF
   refine wl_yg HF rfl rfl rfl rfl rfl (yl_neqI rfl (HF.ev rfl) (HF.ev rfl)) ?_; clear HF a; intro a HF
   refine wl_y rfl HF rfl rfl (yl_pick_f rfl (HF.ev rfl) (HF.ev rfl)) ?_; clear HF a; intro a HF
   refine wl_ne ?_
   refine HF.cases 40 rfl (fun cc14 HF1 => ?_) (fun cc14 HF1 => ?_)
   ·clear HF; have HF := HF1; clear HF1
    have dcc14 := bne_iff_ne.1 cc14
    refine wc_true HF rfl ?_
    refine wp_sr ?_
    refine wl_y rfl HF rfl rfl (yl_build HF rfl (ps := []) rfl (cs := #[.int .i64 0, .string ByteArray.empty, .string ByteArray.empty, .int .i64 0, .string ByteArray.empty]) (by kernel_rfl)) ?_; clear HF a; intro a HF
    refine wl_storeBox rfl HF rfl rfl (HF.ev rfl) (HF.ev rfl) HS.out 3 rfl (cells_lit [.int .i64 0, .string ByteArray.empty, .string ByteArray.empty, .int .i64 0, .string ByteArray.empty] rfl rfl) (by kernel_rfl) ?_; clear HS; intro w52 HS; replace HS := Bx.mk HS
    have HS : Bx (St w0 ([rowA encI 1 3 (.slice (some ⟨b11, 0, none⟩) 8 8) ([0, 2, 2, 4, 3, 2, 3, 3]), boxA b4 5 24 (.agg #[.int .i64 6, .string ByteArray.empty, .string ByteArray.empty, .int .i64 0, .string ByteArray.empty]), rowA encS 1 9 (.slice (some ⟨g3, 0, none⟩) 8 cp2) wordsL, boxA b1 5 24 (.agg #[.int .i64 0, .string ByteArray.empty, .string ByteArray.empty, .int .i64 0, .string ByteArray.empty])]) _) := HS
    refine wl_as HF rfl rfl rfl rfl rfl ?_; clear HF a; intro a HF
    refine wl_ne ?_
    refine wp_ret ?_
    refine ex_then_ret ?_
    refine bp_ret2 HF Tryz.results23 (HF.resBox rfl (HS.out.box 3 rfl) (by kernel_rfl)) (HF.res rfl) ?_
    exact .inr ⟨sh6l hkd (by omega) (by omega), rfl, HS.out.bel⟩
   ·clear HF; have HF := HF1; clear HF1
    have dcc14 := bne_eq_false_iff_eq.1 cc14
    refine wc_false HF rfl ?_
    refine wp_skip ?_
    refine ex_then ?_
    refine wp_sr ?_
    refine wl_mv HF rfl rfl rfl rfl rfl ?_; clear HF a; intro a HF
    refine wl_y rfl HF rfl rfl (yl_indexAddrR (e := 9) (i := 1) (size := 1) rfl (HF.ev rfl) (HF.ev rfl) (by kernel_rfl) rfl (by omega) (R0.out.ao 1 (by omega))) ?_; clear HF a; intro a HF
    refine wl_y rfl HF rfl rfl (yl_load (v := .string (ws.getD 1 ByteArray.empty)) rfl (HF.ev rfl) (R0.out.elem1 HS.out (get_getD (xs := ws) (j := 1) (d := ByteArray.empty) (by omega)) rfl) (by kernel_rfl)) ?_; clear HF a; intro a HF
    refine wl_y rfl HF rfl rfl (yl_fieldAddr (j := 1) rfl (HF.ev rfl) (by kernel_rfl)) ?_; clear HF a; intro a HF
    refine wl_storeF rfl rfl rfl (HF.ev rfl) (HF.ev rfl) (by kernel_rfl) HS.out 1 rfl rfl rfl ?_; clear HS; intro w53 HS; replace HS := Bx.mk HS
    have HS : Bx (St w0 ([rowA encI 1 3 (.slice (some ⟨b11, 0, none⟩) 8 8) ([0, 2, 2, 4, 3, 2, 3, 3]), boxA b4 5 24 (.agg #[.int .i64 6, .string (ws.getD 1 ByteArray.empty), .string ByteArray.empty, .int .i64 0, .string ByteArray.empty]), rowA encS 1 9 (.slice (some ⟨g3, 0, none⟩) 8 cp2) wordsL, boxA b1 5 24 (.agg #[.int .i64 0, .string ByteArray.empty, .string ByteArray.empty, .int .i64 0, .string ByteArray.empty])]) _) := HS
    refine wl_ne ?_
    refine wp_sr ?_
    refine wl_as HF rfl rfl rfl rfl rfl ?_; clear HF a; intro a HF
    refine wl_ne ?_
    refine wp_seq ?_
    refine wp_sr ?_
    refine wl_y rfl HF rfl rfl (yl_fieldAddr (j := 0) rfl (HF.ev rfl) (by kernel_rfl)) ?_; clear HF a; intro a HF
    refine wl_y rfl HF rfl rfl (yl_load (v := .int .i64 6) rfl (HF.ev rfl) (((HS.out.box 1 rfl).cell 0).trans rfl) (by kernel_rfl)) ?_; clear HF a; intro a HF
    refine wl_ne ?_
    refine wp_block ?_
    refine wp_sr ?_
    refine wl_y rfl HF rfl rfl (yl_eqlI rfl (HF.ev rfl) (HF.ev rfl)) ?_; clear HF a; intro a HF
    refine wl_as HF rfl rfl rfl rfl rfl ?_; clear HF a; intro a HF
    refine wl_ne ?_
    replace HF := HF.know (k := 48) (c := false) rfl (by decide)
    refine wc_false HF rfl ?_
    refine wp_sr ?_
    refine wl_y rfl HF rfl rfl (yl_eqlI rfl (HF.ev rfl) (HF.ev rfl)) ?_; clear HF a; intro a HF
    refine wl_as HF rfl rfl rfl rfl rfl ?_; clear HF a; intro a HF
    refine wl_ne ?_
    replace HF := HF.know (k := 68) (c := false) rfl (by decide)
    refine wc_false HF rfl ?_
    refine wp_seq ?_
    refine wp_sr ?_
    refine wl_y rfl HF rfl rfl (yl_eqlI rfl (HF.ev rfl) (HF.ev rfl)) ?_; clear HF a; intro a HF
    refine wl_as HF rfl rfl rfl rfl rfl ?_; clear HF a; intro a HF
    refine wl_ne ?_
    replace HF := HF.know (k := 78) (c := true) rfl (by decide)
    refine wc_true HF rfl ?_
    refine wp_skip ?_
    refine ex_then ?_
    refine wc_true HF rfl ?_
    refine wp_region_lit ?_
    refine wl_mv HF rfl rfl rfl rfl rfl ?_; clear HF a; intro a HF
    refine wl_y rfl HF rfl rfl (yl_indexAddrR (e := 9) (i := 2) (size := 1) rfl (HF.ev rfl) (HF.ev rfl) (by kernel_rfl) rfl (by omega) (R0.out.ao 2 (by omega))) ?_; clear HF a; intro a HF
    refine wl_y rfl HF rfl rfl (yl_load (v := .string (ws.getD 2 ByteArray.empty)) rfl (HF.ev rfl) (R0.out.elem1 HS.out (get_getD (xs := ws) (j := 2) (d := ByteArray.empty) (by omega)) rfl) (by kernel_rfl)) ?_; clear HF a; intro a HF
    refine wl_y rfl HF rfl rfl (yl_fieldAddr (j := 2) rfl (HF.ev rfl) (by kernel_rfl)) ?_; clear HF a; intro a HF
    refine wl_storeF rfl rfl rfl (HF.ev rfl) (HF.ev rfl) (by kernel_rfl) HS.out 1 rfl rfl rfl ?_; clear HS; intro w54 HS; replace HS := Bx.mk HS
    have HS : Bx (St w0 ([rowA encI 1 3 (.slice (some ⟨b11, 0, none⟩) 8 8) ([0, 2, 2, 4, 3, 2, 3, 3]), boxA b4 5 24 (.agg #[.int .i64 6, .string (ws.getD 1 ByteArray.empty), .string (ws.getD 2 ByteArray.empty), .int .i64 0, .string ByteArray.empty]), rowA encS 1 9 (.slice (some ⟨g3, 0, none⟩) 8 cp2) wordsL, boxA b1 5 24 (.agg #[.int .i64 0, .string ByteArray.empty, .string ByteArray.empty, .int .i64 0, .string ByteArray.empty])]) _) := HS
    refine wpList_nil ?_
    refine ex_block ?_
    refine ex_then ?_
    refine wp_seq ?_
    refine wp_sr ?_
    refine wl_mv HF rfl rfl rfl rfl rfl ?_; clear HF a; intro a HF
    refine wl_y rfl HF rfl rfl (yl_not rfl (HF.ev rfl)) ?_; clear HF a; intro a HF
    refine wl_mv HF rfl rfl rfl rfl rfl ?_; clear HF a; intro a HF
    refine wl_yg HF rfl rfl rfl rfl rfl (yl_loadR (cs := [.int .i64 6, .string (ws.getD 1 ByteArray.empty), .string (ws.getD 2 ByteArray.empty), .int .i64 0, .string ByteArray.empty]) rfl (HF.ev rfl) ((HS.out.box 1 rfl).sub 0 5) (by kernel_rfl)) ?_; clear HF a; intro a HF
    refine wl_callBg HF rfl rfl rfl rfl (enter_of Tryz.func16 (by kernel_rfl) rfl) (args := #[.agg #[.int .i64 6, .string (ws.getD 1 ByteArray.empty), .string (ws.getD 2 ByteArray.empty), .int .i64 0, .string ByteArray.empty]]) rfl (v := .bool ((⟨6, (ws.getD 1 ByteArray.empty), (ws.getD 2 ByteArray.empty), 0, ByteArray.empty⟩ : OpD).ok)) (specOpOk_any (⟨6, (ws.getD 1 ByteArray.empty), (ws.getD 2 ByteArray.empty), 0, ByteArray.empty⟩ : OpD) _ (by first | exact hz _ | exact Nat.zero_le _) (by first | exact hz _ | exact Nat.zero_le _) (by first | exact hz _ | exact Nat.zero_le _)) rfl rfl HS.out ?_; clear HF HS a; intro w55 a HS HF; replace HS := Bx.mk HS
    refine wl_yg HF rfl rfl rfl rfl rfl (yl_not rfl (HF.ev rfl)) ?_; clear HF a; intro a HF
    refine wl_y rfl HF rfl rfl (yl_pick_f rfl (HF.ev rfl) (HF.ev rfl)) ?_; clear HF a; intro a HF
    refine wl_ne ?_
    refine HF.cases 91 rfl (fun cc15 HF1 => ?_) (fun cc15 HF1 => ?_)
    ·clear HF; have HF := HF1; clear HF1
     refine wc_true HF rfl ?_
     refine wp_sr ?_
     refine wl_y rfl HF rfl rfl (yl_build HF rfl (ps := []) rfl (cs := #[.int .i64 0, .string ByteArray.empty, .string ByteArray.empty, .int .i64 0, .string ByteArray.empty]) (by kernel_rfl)) ?_; clear HF a; intro a HF
     refine wl_storeBox rfl HF rfl rfl (HF.ev rfl) (HF.ev rfl) HS.out 3 rfl (cells_lit [.int .i64 0, .string ByteArray.empty, .string ByteArray.empty, .int .i64 0, .string ByteArray.empty] rfl rfl) (by kernel_rfl) ?_; clear HS; intro w56 HS; replace HS := Bx.mk HS
     have HS : Bx (St w0 ([rowA encI 1 3 (.slice (some ⟨b11, 0, none⟩) 8 8) ([0, 2, 2, 4, 3, 2, 3, 3]), boxA b4 5 24 (.agg #[.int .i64 6, .string (ws.getD 1 ByteArray.empty), .string (ws.getD 2 ByteArray.empty), .int .i64 0, .string ByteArray.empty]), rowA encS 1 9 (.slice (some ⟨g3, 0, none⟩) 8 cp2) wordsL, boxA b1 5 24 (.agg #[.int .i64 0, .string ByteArray.empty, .string ByteArray.empty, .int .i64 0, .string ByteArray.empty])]) _) := HS
     refine wl_as HF rfl rfl rfl rfl rfl ?_; clear HF a; intro a HF
     refine wl_ne ?_
     refine wp_ret ?_
     refine ex_then_ret ?_
     refine bp_ret2 HF Tryz.results23 (HF.resBox rfl (HS.out.box 3 rfl) (by kernel_rfl)) (HF.res rfl) ?_
     exact .inr ⟨(sh6 hkd (by omega) (by omega)).trans (chk_no (by simpa using cc15)), rfl, HS.out.bel⟩
    ·clear HF; have HF := HF1; clear HF1
     refine wc_false HF rfl ?_
     refine wp_skip ?_
     refine ex_then ?_
     refine wp_sr ?_
     refine wl_y rfl HF rfl rfl (yl_loadR (cs := [.int .i64 6, .string (ws.getD 1 ByteArray.empty), .string (ws.getD 2 ByteArray.empty), .int .i64 0, .string ByteArray.empty]) rfl (HF.ev rfl) ((HS.out.box 1 rfl).sub 0 5) (by kernel_rfl)) ?_; clear HF a; intro a HF
     refine wl_storeBox rfl HF rfl rfl (HF.ev rfl) (HF.ev rfl) HS.out 3 rfl (cells_lit [.int .i64 6, .string (ws.getD 1 ByteArray.empty), .string (ws.getD 2 ByteArray.empty), .int .i64 0, .string ByteArray.empty] rfl rfl) (by kernel_rfl) ?_; clear HS; intro w57 HS; replace HS := Bx.mk HS
     have HS : Bx (St w0 ([rowA encI 1 3 (.slice (some ⟨b11, 0, none⟩) 8 8) ([0, 2, 2, 4, 3, 2, 3, 3]), boxA b4 5 24 (.agg #[.int .i64 6, .string (ws.getD 1 ByteArray.empty), .string (ws.getD 2 ByteArray.empty), .int .i64 0, .string ByteArray.empty]), rowA encS 1 9 (.slice (some ⟨g3, 0, none⟩) 8 cp2) wordsL, boxA b1 5 24 (.agg #[.int .i64 6, .string (ws.getD 1 ByteArray.empty), .string (ws.getD 2 ByteArray.empty), .int .i64 0, .string ByteArray.empty])]) _) := HS
     refine wl_as HF rfl rfl rfl rfl rfl ?_; clear HF a; intro a HF
     refine wl_ne ?_
     refine wp_ret ?_
     refine bp_ret2 HF Tryz.results23 (HF.resBox rfl (HS.out.box 3 rfl) (by kernel_rfl)) (HF.res rfl) ?_
     exact .inl ⟨⟨6, (ws.getD 1 ByteArray.empty), (ws.getD 2 ByteArray.empty), 0, ByteArray.empty⟩, (sh6 hkd (by omega) (by omega)).trans (chk_yes (by simpa using cc15)), rfl, HS.out.bel⟩
  ·skip
   refine wp_region_lit ?_
   refine wl_buildS (enc := encI) (e := 3) (size := 1) rfl HF rfl rfl rfl (ps := [(0, .int .i64 0), (1, .int .i64 2), (2, .int .i64 2), (3, .int .i64 4), (4, .int .i64 3), (5, .int .i64 2), (6, .int .i64 3), (7, .int .i64 3)]) rfl (cells := [.int .i64 0, .int .i64 2, .int .i64 2, .int .i64 4, .int .i64 3, .int .i64 2, .int .i64 3, .int .i64 3]) (by kernel_rfl) [0, 2, 2, 4, 3, 2, 3, 3] rfl rfl (by unfold maxLen; omega) rfl HS.out ?_; clear HF HS a; intro b12 a w58 HF HS; replace HS := Bx.mk HS
   refine wl_y rfl HF rfl rfl (yl_fieldAddr (j := 0) rfl (HF.ev rfl) (by kernel_rfl)) ?_; clear HF a; intro a HF
   refine wl_y rfl HF rfl rfl (yl_load (v := .int .i64 7) rfl (HF.ev rfl) (((HS.out.box 1 rfl).cell 0).trans rfl) (by kernel_rfl)) ?_; clear HF a; intro a HF
   refine wl_y rfl HF rfl rfl (yl_indexAddr (e := 3) (i := 7) (size := 1) rfl (HF.ev rfl) (HF.ev rfl) (by kernel_rfl) rfl (by omega)) ?_; clear HF a; intro a HF
   refine wl_y rfl HF rfl rfl (yl_load (v := .int .i64 3) rfl (HF.ev rfl) (HS.out.elem1 encI_len 0 rfl (show ([0, 2, 2, 4, 3, 2, 3, 3] : List _)[7]? = some _ from rfl) rfl) (by kernel_rfl)) ?_; clear HF a; intro a HF
   refine wl_as HF rfl rfl rfl rfl rfl ?_; clear HF a; intro a HF
   refine wl_ne ?_
   refine wp_seq ?_
   refine wp_sr ?_
   refine wl_y rfl HF rfl rfl (yl_fieldAddr (j := 0) rfl (HF.ev rfl) (by kernel_rfl)) ?_; clear HF a; intro a HF
   refine wl_y rfl HF rfl rfl (yl_load (v := .int .i64 7) rfl (HF.ev rfl) (((HS.out.box 1 rfl).cell 0).trans rfl) (by kernel_rfl)) ?_; clear HF a; intro a HF
   refine wl_y rfl HF rfl rfl (yl_eqlI rfl (HF.ev rfl) (HF.ev rfl)) ?_; clear HF a; intro a HF
   refine wl_mv HF rfl rfl rfl rfl rfl ?_; clear HF a; intro a HF
   replace HF := HF.know (k := 35) (c := false) rfl (by decide)
   refine wl_yg HF rfl rfl rfl rfl rfl (yl_move rfl (HF.ev rfl)) ?_; clear HF a; intro a HF
   refine wl_yg HF rfl rfl rfl rfl rfl (yl_lenL (e := 9) (size := 1) rfl (HF.ev rfl) (by kernel_rfl)) ?_; clear HF a; intro a HF
   refine wl_yg HF rfl rfl rfl rfl rfl (yl_move rfl (HF.ev rfl)) ?_; clear HF a; intro a HF
   refine wl_yg HF rfl rfl rfl rfl rfl (yl_neqI rfl (HF.ev rfl) (HF.ev rfl)) ?_; clear HF a; intro a HF
   refine wl_y rfl HF rfl rfl (yl_pick_f rfl (HF.ev rfl) (HF.ev rfl)) ?_; clear HF a; intro a HF
   refine wl_ne ?_
   refine HF.cases 40 rfl (fun cc16 HF1 => ?_) (fun cc16 HF1 => ?_)
   ·clear HF; have HF := HF1; clear HF1
    have dcc16 := bne_iff_ne.1 cc16
    refine wc_true HF rfl ?_
    refine wp_sr ?_
    refine wl_y rfl HF rfl rfl (yl_build HF rfl (ps := []) rfl (cs := #[.int .i64 0, .string ByteArray.empty, .string ByteArray.empty, .int .i64 0, .string ByteArray.empty]) (by kernel_rfl)) ?_; clear HF a; intro a HF
    refine wl_storeBox rfl HF rfl rfl (HF.ev rfl) (HF.ev rfl) HS.out 3 rfl (cells_lit [.int .i64 0, .string ByteArray.empty, .string ByteArray.empty, .int .i64 0, .string ByteArray.empty] rfl rfl) (by kernel_rfl) ?_; clear HS; intro w59 HS; replace HS := Bx.mk HS
    have HS : Bx (St w0 ([rowA encI 1 3 (.slice (some ⟨b12, 0, none⟩) 8 8) ([0, 2, 2, 4, 3, 2, 3, 3]), boxA b4 5 24 (.agg #[.int .i64 7, .string ByteArray.empty, .string ByteArray.empty, .int .i64 0, .string ByteArray.empty]), rowA encS 1 9 (.slice (some ⟨g3, 0, none⟩) 8 cp2) wordsL, boxA b1 5 24 (.agg #[.int .i64 0, .string ByteArray.empty, .string ByteArray.empty, .int .i64 0, .string ByteArray.empty])]) _) := HS
    refine wl_as HF rfl rfl rfl rfl rfl ?_; clear HF a; intro a HF
    refine wl_ne ?_
    refine wp_ret ?_
    refine ex_then_ret ?_
    refine bp_ret2 HF Tryz.results23 (HF.resBox rfl (HS.out.box 3 rfl) (by kernel_rfl)) (HF.res rfl) ?_
    exact .inr ⟨sh6l hkd (by omega) (by omega), rfl, HS.out.bel⟩
   ·clear HF; have HF := HF1; clear HF1
    have dcc16 := bne_eq_false_iff_eq.1 cc16
    refine wc_false HF rfl ?_
    refine wp_skip ?_
    refine ex_then ?_
    refine wp_sr ?_
    refine wl_mv HF rfl rfl rfl rfl rfl ?_; clear HF a; intro a HF
    refine wl_y rfl HF rfl rfl (yl_indexAddrR (e := 9) (i := 1) (size := 1) rfl (HF.ev rfl) (HF.ev rfl) (by kernel_rfl) rfl (by omega) (R0.out.ao 1 (by omega))) ?_; clear HF a; intro a HF
    refine wl_y rfl HF rfl rfl (yl_load (v := .string (ws.getD 1 ByteArray.empty)) rfl (HF.ev rfl) (R0.out.elem1 HS.out (get_getD (xs := ws) (j := 1) (d := ByteArray.empty) (by omega)) rfl) (by kernel_rfl)) ?_; clear HF a; intro a HF
    refine wl_y rfl HF rfl rfl (yl_fieldAddr (j := 1) rfl (HF.ev rfl) (by kernel_rfl)) ?_; clear HF a; intro a HF
    refine wl_storeF rfl rfl rfl (HF.ev rfl) (HF.ev rfl) (by kernel_rfl) HS.out 1 rfl rfl rfl ?_; clear HS; intro w60 HS; replace HS := Bx.mk HS
    have HS : Bx (St w0 ([rowA encI 1 3 (.slice (some ⟨b12, 0, none⟩) 8 8) ([0, 2, 2, 4, 3, 2, 3, 3]), boxA b4 5 24 (.agg #[.int .i64 7, .string (ws.getD 1 ByteArray.empty), .string ByteArray.empty, .int .i64 0, .string ByteArray.empty]), rowA encS 1 9 (.slice (some ⟨g3, 0, none⟩) 8 cp2) wordsL, boxA b1 5 24 (.agg #[.int .i64 0, .string ByteArray.empty, .string ByteArray.empty, .int .i64 0, .string ByteArray.empty])]) _) := HS
    refine wl_ne ?_
    refine wp_sr ?_
    refine wl_as HF rfl rfl rfl rfl rfl ?_; clear HF a; intro a HF
    refine wl_ne ?_
    refine wp_seq ?_
    refine wp_sr ?_
    refine wl_y rfl HF rfl rfl (yl_fieldAddr (j := 0) rfl (HF.ev rfl) (by kernel_rfl)) ?_; clear HF a; intro a HF
    refine wl_y rfl HF rfl rfl (yl_load (v := .int .i64 7) rfl (HF.ev rfl) (((HS.out.box 1 rfl).cell 0).trans rfl) (by kernel_rfl)) ?_; clear HF a; intro a HF
    refine wl_ne ?_
    refine wp_block ?_
    refine wp_sr ?_
    refine wl_y rfl HF rfl rfl (yl_eqlI rfl (HF.ev rfl) (HF.ev rfl)) ?_; clear HF a; intro a HF
    refine wl_as HF rfl rfl rfl rfl rfl ?_; clear HF a; intro a HF
    refine wl_ne ?_
    replace HF := HF.know (k := 48) (c := false) rfl (by decide)
    refine wc_false HF rfl ?_
    refine wp_sr ?_
    refine wl_y rfl HF rfl rfl (yl_eqlI rfl (HF.ev rfl) (HF.ev rfl)) ?_; clear HF a; intro a HF
    refine wl_as HF rfl rfl rfl rfl rfl ?_; clear HF a; intro a HF
    refine wl_ne ?_
    replace HF := HF.know (k := 68) (c := false) rfl (by decide)
    refine wc_false HF rfl ?_
    refine wp_seq ?_
    refine wp_sr ?_
    refine wl_y rfl HF rfl rfl (yl_eqlI rfl (HF.ev rfl) (HF.ev rfl)) ?_; clear HF a; intro a HF
    refine wl_as HF rfl rfl rfl rfl rfl ?_; clear HF a; intro a HF
    refine wl_ne ?_
    replace HF := HF.know (k := 78) (c := false) rfl (by decide)
    refine wc_false HF rfl ?_
    refine wp_region_lit ?_
    refine wl_y rfl HF rfl rfl (yl_eqlI rfl (HF.ev rfl) (HF.ev rfl)) ?_; clear HF a; intro a HF
    refine wl_as HF rfl rfl rfl rfl rfl ?_; clear HF a; intro a HF
    refine wl_ne ?_
    replace HF := HF.know (k := 78) (c := true) rfl (by decide)
    refine wc_true HF rfl ?_
    refine wp_region_lit ?_
    refine wl_mv HF rfl rfl rfl rfl rfl ?_; clear HF a; intro a HF
    refine wl_y rfl HF rfl rfl (yl_indexAddrR (e := 9) (i := 2) (size := 1) rfl (HF.ev rfl) (HF.ev rfl) (by kernel_rfl) rfl (by omega) (R0.out.ao 2 (by omega))) ?_; clear HF a; intro a HF
    refine wl_y rfl HF rfl rfl (yl_load (v := .string (ws.getD 2 ByteArray.empty)) rfl (HF.ev rfl) (R0.out.elem1 HS.out (get_getD (xs := ws) (j := 2) (d := ByteArray.empty) (by omega)) rfl) (by kernel_rfl)) ?_; clear HF a; intro a HF
    refine wl_y rfl HF rfl rfl (yl_fieldAddr (j := 2) rfl (HF.ev rfl) (by kernel_rfl)) ?_; clear HF a; intro a HF
    refine wl_storeF rfl rfl rfl (HF.ev rfl) (HF.ev rfl) (by kernel_rfl) HS.out 1 rfl rfl rfl ?_; clear HS; intro w61 HS; replace HS := Bx.mk HS
    have HS : Bx (St w0 ([rowA encI 1 3 (.slice (some ⟨b12, 0, none⟩) 8 8) ([0, 2, 2, 4, 3, 2, 3, 3]), boxA b4 5 24 (.agg #[.int .i64 7, .string (ws.getD 1 ByteArray.empty), .string (ws.getD 2 ByteArray.empty), .int .i64 0, .string ByteArray.empty]), rowA encS 1 9 (.slice (some ⟨g3, 0, none⟩) 8 cp2) wordsL, boxA b1 5 24 (.agg #[.int .i64 0, .string ByteArray.empty, .string ByteArray.empty, .int .i64 0, .string ByteArray.empty])]) _) := HS
    refine wpList_nil ?_
    refine ex_block ?_
    refine ex_then ?_
    refine wp_seq ?_
    refine wp_sr ?_
    refine wl_mv HF rfl rfl rfl rfl rfl ?_; clear HF a; intro a HF
    refine wl_y rfl HF rfl rfl (yl_not rfl (HF.ev rfl)) ?_; clear HF a; intro a HF
    refine wl_mv HF rfl rfl rfl rfl rfl ?_; clear HF a; intro a HF
    refine wl_yg HF rfl rfl rfl rfl rfl (yl_loadR (cs := [.int .i64 7, .string (ws.getD 1 ByteArray.empty), .string (ws.getD 2 ByteArray.empty), .int .i64 0, .string ByteArray.empty]) rfl (HF.ev rfl) ((HS.out.box 1 rfl).sub 0 5) (by kernel_rfl)) ?_; clear HF a; intro a HF
    refine wl_callBg HF rfl rfl rfl rfl (enter_of Tryz.func16 (by kernel_rfl) rfl) (args := #[.agg #[.int .i64 7, .string (ws.getD 1 ByteArray.empty), .string (ws.getD 2 ByteArray.empty), .int .i64 0, .string ByteArray.empty]]) rfl (v := .bool ((⟨7, (ws.getD 1 ByteArray.empty), (ws.getD 2 ByteArray.empty), 0, ByteArray.empty⟩ : OpD).ok)) (specOpOk_any (⟨7, (ws.getD 1 ByteArray.empty), (ws.getD 2 ByteArray.empty), 0, ByteArray.empty⟩ : OpD) _ (by first | exact hz _ | exact Nat.zero_le _) (by first | exact hz _ | exact Nat.zero_le _) (by first | exact hz _ | exact Nat.zero_le _)) rfl rfl HS.out ?_; clear HF HS a; intro w62 a HS HF; replace HS := Bx.mk HS
    refine wl_yg HF rfl rfl rfl rfl rfl (yl_not rfl (HF.ev rfl)) ?_; clear HF a; intro a HF
    refine wl_y rfl HF rfl rfl (yl_pick_f rfl (HF.ev rfl) (HF.ev rfl)) ?_; clear HF a; intro a HF
    refine wl_ne ?_
    refine HF.cases 91 rfl (fun cc17 HF1 => ?_) (fun cc17 HF1 => ?_)
    ·clear HF; have HF := HF1; clear HF1
     refine wc_true HF rfl ?_
     refine wp_sr ?_
     refine wl_y rfl HF rfl rfl (yl_build HF rfl (ps := []) rfl (cs := #[.int .i64 0, .string ByteArray.empty, .string ByteArray.empty, .int .i64 0, .string ByteArray.empty]) (by kernel_rfl)) ?_; clear HF a; intro a HF
     refine wl_storeBox rfl HF rfl rfl (HF.ev rfl) (HF.ev rfl) HS.out 3 rfl (cells_lit [.int .i64 0, .string ByteArray.empty, .string ByteArray.empty, .int .i64 0, .string ByteArray.empty] rfl rfl) (by kernel_rfl) ?_; clear HS; intro w63 HS; replace HS := Bx.mk HS
     have HS : Bx (St w0 ([rowA encI 1 3 (.slice (some ⟨b12, 0, none⟩) 8 8) ([0, 2, 2, 4, 3, 2, 3, 3]), boxA b4 5 24 (.agg #[.int .i64 7, .string (ws.getD 1 ByteArray.empty), .string (ws.getD 2 ByteArray.empty), .int .i64 0, .string ByteArray.empty]), rowA encS 1 9 (.slice (some ⟨g3, 0, none⟩) 8 cp2) wordsL, boxA b1 5 24 (.agg #[.int .i64 0, .string ByteArray.empty, .string ByteArray.empty, .int .i64 0, .string ByteArray.empty])]) _) := HS
     refine wl_as HF rfl rfl rfl rfl rfl ?_; clear HF a; intro a HF
     refine wl_ne ?_
     refine wp_ret ?_
     refine ex_then_ret ?_
     refine bp_ret2 HF Tryz.results23 (HF.resBox rfl (HS.out.box 3 rfl) (by kernel_rfl)) (HF.res rfl) ?_
     exact .inr ⟨(sh6 hkd (by omega) (by omega)).trans (chk_no (by simpa using cc17)), rfl, HS.out.bel⟩
    ·clear HF; have HF := HF1; clear HF1
     refine wc_false HF rfl ?_
     refine wp_skip ?_
     refine ex_then ?_
     refine wp_sr ?_
     refine wl_y rfl HF rfl rfl (yl_loadR (cs := [.int .i64 7, .string (ws.getD 1 ByteArray.empty), .string (ws.getD 2 ByteArray.empty), .int .i64 0, .string ByteArray.empty]) rfl (HF.ev rfl) ((HS.out.box 1 rfl).sub 0 5) (by kernel_rfl)) ?_; clear HF a; intro a HF
     refine wl_storeBox rfl HF rfl rfl (HF.ev rfl) (HF.ev rfl) HS.out 3 rfl (cells_lit [.int .i64 7, .string (ws.getD 1 ByteArray.empty), .string (ws.getD 2 ByteArray.empty), .int .i64 0, .string ByteArray.empty] rfl rfl) (by kernel_rfl) ?_; clear HS; intro w64 HS; replace HS := Bx.mk HS
     have HS : Bx (St w0 ([rowA encI 1 3 (.slice (some ⟨b12, 0, none⟩) 8 8) ([0, 2, 2, 4, 3, 2, 3, 3]), boxA b4 5 24 (.agg #[.int .i64 7, .string (ws.getD 1 ByteArray.empty), .string (ws.getD 2 ByteArray.empty), .int .i64 0, .string ByteArray.empty]), rowA encS 1 9 (.slice (some ⟨g3, 0, none⟩) 8 cp2) wordsL, boxA b1 5 24 (.agg #[.int .i64 7, .string (ws.getD 1 ByteArray.empty), .string (ws.getD 2 ByteArray.empty), .int .i64 0, .string ByteArray.empty])]) _) := HS
     refine wl_as HF rfl rfl rfl rfl rfl ?_; clear HF a; intro a HF
     refine wl_ne ?_
     refine wp_ret ?_
     refine bp_ret2 HF Tryz.results23 (HF.resBox rfl (HS.out.box 3 rfl) (by kernel_rfl)) (HF.res rfl) ?_
     exact .inl ⟨⟨7, (ws.getD 1 ByteArray.empty), (ws.getD 2 ByteArray.empty), 0, ByteArray.empty⟩, (sh6 hkd (by omega) (by omega)).trans (chk_yes (by simpa using cc17)), rfl, HS.out.bel⟩

theorem specShellOp_any (s : ByteArray) (w0 : World) (hs : s.size ≤ 4000000000) : Calls Tryz.prog 10 #[.string s] w0 fun e w' => (∃ o : OpD, shellF (piecesB s 32) = some o ∧ e = .returned (.tuple #[.agg #[.int .i64 o.fKind, .string o.fPath, .string o.fTo, .int .i64 o.fAt, .string o.fText], .bool true]) ∧ Below w0.heap.size w0 w') ∨ (shellF (piecesB s 32) = none ∧ e = .returned (.tuple #[.agg #[.int .i64 0, .string ByteArray.empty, .string ByteArray.empty, .int .i64 0, .string ByteArray.empty], .bool false]) ∧ Below w0.heap.size w0 w') := by
 have HS := Bx.mk (St.start w0)
 refine wc_enter Tryz.func10 rfl Tryz.ntmps10 [(0, .string s)] ⟨rfl, trivial⟩ rfl ?_; intro a HF
 refine wp_sr ?_
 refine wl_alloc rfl HF rfl rfl rfl (Z := [.int .i64 0, .string ByteArray.empty, .string ByteArray.empty, .int .i64 0, .string ByteArray.empty]) (by kernel_rfl) rfl HS.out ?_; clear HF HS a; intro a w1 b1 HF HS; replace HS := Bx.mk HS
 refine wl_as HF rfl rfl rfl rfl rfl ?_; clear HF a; intro a HF
 refine wl_ne ?_
 refine wp_sr ?_
 refine wl_mv HF rfl rfl rfl rfl rfl ?_; clear HF a; intro a HF
 refine wl_call rfl HF rfl (enter_of Tryz.func19 (by kernel_rfl) rfl) (args := #[.string s, .int .u8 32]) rfl (l2Cut_any s 32 _ (by omega)) rfl rfl ?_
 rintro _ w2 ⟨ao2, cp2, rfl, hs⟩
 refine ⟨_, rfl, ?_⟩
 replace HS := Bx.mk (HS.out.add hs); clear hs HF; clear a; intro a HF
 replace HS : Bx (St w0 ([rowA encS 1 9 (.slice ao2 ((piecesB s 32).length) cp2) (piecesB s 32), boxA b1 5 24 (.agg #[.int .i64 0, .string ByteArray.empty, .string ByteArray.empty, .int .i64 0, .string ByteArray.empty])]) _) := ⟨HS.out⟩
 refine wl_call rfl HF rfl (enter_of Tryz.func23 (by kernel_rfl) rfl) (args := #[.slice ao2 ((piecesB s 32).length) cp2]) rfl (l31Op_any _ _ _ (piecesB s 32) _ (pieces_many s 32).1 (Nat.le_trans (pieces_many s 32).2 (by omega)) (fun k => Nat.le_trans (pieces_le s 32 k) hs) (St.rdOf HS.out encS_len 0 rfl)) rfl rfl ?_
 rintro _ w3 (⟨o, hsf, rfl, hb⟩ | ⟨hsf, rfl, hb⟩)
 ·skip
  refine ⟨_, rfl, ?_⟩; replace HS := Bx.mk (HS.out.later hb); clear hb HF; clear a; intro a HF
  refine wl_y rfl HF rfl rfl (yl_extract rfl (HF.ev rfl) rfl) ?_; clear HF a; intro a HF
  refine wl_y rfl HF rfl rfl (yl_extract rfl (HF.ev rfl) rfl) ?_; clear HF a; intro a HF
  refine wl_storeBox rfl HF rfl rfl (HF.ev rfl) (HF.ev rfl) HS.out 1 rfl (cells_lit [.int .i64 o.fKind, .string o.fPath, .string o.fTo, .int .i64 o.fAt, .string o.fText] rfl rfl) (by kernel_rfl) ?_; clear HS; intro w4 HS; replace HS := Bx.mk HS
  have HS : Bx (St w0 ([rowA encS 1 9 (.slice ao2 ((piecesB s 32).length) cp2) (piecesB s 32), boxA b1 5 24 (.agg #[.int .i64 o.fKind, .string o.fPath, .string o.fTo, .int .i64 o.fAt, .string o.fText])]) _) := HS
  refine wl_as HF rfl rfl rfl rfl rfl ?_; clear HF a; intro a HF
  refine wl_ne ?_
  refine wp_ret ?_
  refine bp_ret2 HF Tryz.results10 (HF.resBox rfl (HS.out.box 1 rfl) (by kernel_rfl)) (HF.res rfl) ?_
  exact .inl ⟨o, hsf, rfl, HS.out.bel⟩
 ·skip
  refine ⟨_, rfl, ?_⟩; replace HS := Bx.mk (HS.out.later hb); clear hb HF; clear a; intro a HF
  refine wl_y rfl HF rfl rfl (yl_extract rfl (HF.ev rfl) rfl) ?_; clear HF a; intro a HF
  refine wl_y rfl HF rfl rfl (yl_extract rfl (HF.ev rfl) rfl) ?_; clear HF a; intro a HF
  refine wl_storeBox rfl HF rfl rfl (HF.ev rfl) (HF.ev rfl) HS.out 1 rfl (cells_lit [.int .i64 0, .string ByteArray.empty, .string ByteArray.empty, .int .i64 0, .string ByteArray.empty] rfl rfl) (by kernel_rfl) ?_; clear HS; intro w5 HS; replace HS := Bx.mk HS
  have HS : Bx (St w0 ([rowA encS 1 9 (.slice ao2 ((piecesB s 32).length) cp2) (piecesB s 32), boxA b1 5 24 (.agg #[.int .i64 0, .string ByteArray.empty, .string ByteArray.empty, .int .i64 0, .string ByteArray.empty])]) _) := HS
  refine wl_as HF rfl rfl rfl rfl rfl ?_; clear HF a; intro a HF
  refine wl_ne ?_
  refine wp_ret ?_
  refine bp_ret2 HF Tryz.results10 (HF.resBox rfl (HS.out.box 1 rfl) (by kernel_rfl)) (HF.res rfl) ?_
  exact .inr ⟨hsf, rfl, HS.out.bel⟩

end Go.Proofs.YtnikdicehddehaaGreatDoor

/- FnExactShellOp: the law walked. -/
namespace Go.Proofs.YtnikdicehddehaaGreatDoor
set_option linter.unusedVariables false
set_option linter.unusedSimpArgs false
set_option maxHeartbeats 1000000
set_option maxRecDepth 100000
open Go.RowKit

def shV (s : ByteArray) : OpD := match shellF (piecesB s 32) with | some o => o | none => ⟨0, ByteArray.empty, ByteArray.empty, 0, ByteArray.empty⟩
def shB (s : ByteArray) : Bool := match shellF (piecesB s 32) with | some _ => true | none => false

theorem implShellOp_own (s : ByteArray) (bm : Nat) (es : Array MapEntry) (clock : Nat) (w0 : World) (hT : TabP w0) (hM : MaxP w0) (hE : ErrP w0) (hQ : MapQ bm es clock w0) (hs : s.size ≤ 4000000000) : Calls Tryz.prog 8 #[.string s] w0 fun e w' => e = .returned (.tuple #[.agg #[.int .i64 ((shV s).fKind), .string ((shV s).fPath), .string ((shV s).fTo), .int .i64 ((shV s).fAt), .string ((shV s).fText)], .bool (shB s)]) ∧ Below w0.heap.size w0 w' := by
  refine (implShellOp_any s bm es clock w0 hT hM hE hQ hs).mono ?_
  rintro e w' (⟨o, h, rfl, hb⟩ | ⟨h, rfl, hb⟩)
  · unfold shV shB; rw [h]; exact ⟨rfl, hb⟩
  · unfold shV shB; rw [h]; exact ⟨rfl, hb⟩

theorem specShellOp_own (s : ByteArray) (w0 : World) (hs : s.size ≤ 4000000000) : Calls Tryz.prog 10 #[.string s] w0 fun e w' => e = .returned (.tuple #[.agg #[.int .i64 ((shV s).fKind), .string ((shV s).fPath), .string ((shV s).fTo), .int .i64 ((shV s).fAt), .string ((shV s).fText)], .bool (shB s)]) ∧ Below w0.heap.size w0 w' := by
  refine (specShellOp_any s w0 hs).mono ?_
  rintro e w' (⟨o, h, rfl, hb⟩ | ⟨h, rfl, hb⟩)
  · unfold shV shB; rw [h]; exact ⟨rfl, hb⟩
  · unfold shV shB; rw [h]; exact ⟨rfl, hb⟩

end Go.Proofs.YtnikdicehddehaaGreatDoor
