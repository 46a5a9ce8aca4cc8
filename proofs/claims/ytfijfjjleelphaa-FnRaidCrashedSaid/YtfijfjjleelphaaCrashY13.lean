/- A part of the proof in YtfijfjjleelphaaCrashY17. -/
import Derived.ArgAppend
import Derived.BigQuiet
import Derived.BigRegion
import Derived.Deep.AppendLies
import Derived.Deep.MidRow
import Derived.Deep.Quiet
import Derived.Deep.QuietTactic
import Derived.Deep.RegionHeld3
import Derived.Deep.RegionWith
import Derived.IntWalk
import Derived.Laws.BytesArg
import Derived.Lib.Hide
import Derived.Lib.LazyBuf
import Derived.Lib.SlBytesConst
import Derived.LoopIn
import Derived.LoopN
import Derived.LoopNIn
import Derived.Orders
import Derived.OrdersHeld
import Derived.OwnWalkIn
import Derived.RangeFuncLeaves
import Derived.RangeFuncNested
import Derived.Shelf.Abstract
import Derived.Still
import Derived.StillTail
import Derived.StillTailTactics
import Derived.TacticsInMore
import Derived.Test.YtfijfjjleelphaaRows
import Derived.WalkKit
import Derived.WalkLawsBesides
import Derived.WalkSpells
import Derived.Test.YtfijfjjleelphaaCrashY12
/- Reading a set of disks, by the program. -/
namespace Go.Proofs.Ytfijfjjleelphaa
set_option maxHeartbeats 1000000
set_option maxRecDepth 100000
open Go.RowKit

def colP (d : DiskD) (m : Nat) : ByteArray := bif d.fGone then ByteArray.empty else d.look m
def colsPTo (ps : List HD) (m k : Nat) : List ByteArray := ((ps.take k).map fun p => colP p.d m) ++ List.replicate (ps.length - k) ByteArray.empty
theorem colsPTo_len (ps : List HD) (m k : Nat) (hk : k ≤ ps.length) : (colsPTo ps m k).length = ps.length := by
  unfold colsPTo; simp; omega
theorem colsPTo_succ (ps : List HD) (m k : Nat) (hk : k < ps.length) (t : ByteArray) (ht : colP (ps.getD k default).d m = t) : (colsPTo ps m k).set k t = colsPTo ps m (k + 1) := by
  unfold colsPTo
  rw [List.take_succ_eq_append_getElem hk, List.map_append, List.map_cons, List.map_nil, ← getD_get hk, ht]
  rw [show ps.length - k = (ps.length - (k + 1)) + 1 by omega, List.replicate_succ]
  rw [List.set_append_right _ _ (by simp; omega)]
  have : k - ((ps.take k).map fun p => colP p.d m).length = 0 := by simp; omega
  rw [this]
  simp
theorem colsPTo_gone (ps : List HD) (m k : Nat) (hk : k < ps.length) (ht : colP (ps.getD k default).d m = ByteArray.empty) : colsPTo ps m k = colsPTo ps m (k + 1) := by
  unfold colsPTo
  rw [List.take_succ_eq_append_getElem hk, List.map_append, List.map_cons, List.map_nil, ← getD_get hk, ht]
  rw [show ps.length - k = (ps.length - (k + 1)) + 1 by omega, List.replicate_succ]
  simp
/-- Some disk that this way uses is gone. -/
def goneT (ps : List HD) (lost : Int) : Nat → Bool
  | 0 => false
  | k + 1 => goneT ps lost k || ((ps.getD k default).d.fGone && (((k : Int) != lost) && (decide ((k : Int) < 2) || decide (0 ≤ lost))))

theorem colsPTo_three (ps : List HD) (m : Nat) (hl : ps.length = 3) : colsPTo ps m ps.length = [colP (ps.getD 0 default).d m, colP (ps.getD 1 default).d m, colP (ps.getD 2 default).d m] := by
  match ps, hl with
  | [p0, p1, p2], _ => rfl
theorem joinJ_any (ao : Option Addr) (cap : Nat) (c0 c1 c2 : ByteArray) (n j : Nat) (hj : j < 3) (w0 : World) (hn : 1 ≤ n) (hl : n ≤ 128) (h0 : c0.size ≤ 1048576) (h1 : c1.size ≤ 1048576) (h2 : c2.size ≤ 1048576) (hr : Rd encS 1 w0 ao 3 [c0, c1, c2]) : Calls Try.prog 19 #[.slice ao 3 cap, .int .i64 (n : Int), .int .i64 ((j : Int) - 1)] w0 fun e w' => e = .returned (.tuple #[.string ((joinB c0 c1 c2 n ((j : Int) - 1)).getD ByteArray.empty), .bool (joinB c0 c1 c2 n ((j : Int) - 1)).isSome]) ∧ Below w0.heap.size w0 w' := by
  match j, hj with
  | 0, _ => exact joinN_any ao cap c0 c1 c2 n w0 hn hl h0 h1 h2 hr
  | 1, _ => exact joinZ_any ao cap c0 c1 c2 n w0 hn hl h0 h1 h2 hr
  | 2, _ => exact joinO_any ao cap c0 c1 c2 n w0 hn hl h0 h1 h2 hr
/-- Does this way tell a text? -/
def tryP (ps : List HD) (y0 y1 y2 : ByteArray) (p : PtrD) (n j : Nat) : Bool := !goneT ps ((j : Int) - 1) ps.length && ((joinB y0 y1 y2 n ((j : Int) - 1)).isSome && p.fits ((joinB y0 y1 y2 n ((j : Int) - 1)).getD ByteArray.empty))
def readPF (ps : List HD) (y0 y1 y2 : ByteArray) (p : PtrD) (n : Nat) : ByteArray × Bool :=
  bif tryP ps y0 y1 y2 p n 0 then ((joinB y0 y1 y2 n (-1)).getD ByteArray.empty, true)
  else bif tryP ps y0 y1 y2 p n 1 then ((joinB y0 y1 y2 n 0).getD ByteArray.empty, true)
  else bif tryP ps y0 y1 y2 p n 2 then ((joinB y0 y1 y2 n 1).getD ByteArray.empty, true) else (ByteArray.empty, false)
theorem readPF_at {ps : List HD} {y0 y1 y2 : ByteArray} {p : PtrD} {n j : Nat} (hj : j < 3) (hb : ∀ i, i < j → tryP ps y0 y1 y2 p n i = false) (h : tryP ps y0 y1 y2 p n j = true) : readPF ps y0 y1 y2 p n = ((joinB y0 y1 y2 n ((j : Int) - 1)).getD ByteArray.empty, true) := by
  match j, hj with
  | 0, _ => unfold readPF; rw [h]; rfl
  | 1, _ => unfold readPF; rw [hb 0 (by omega), h]; rfl
  | 2, _ => unfold readPF; rw [hb 0 (by omega), hb 1 (by omega), h]; rfl
theorem readPF_none {ps : List HD} {y0 y1 y2 : ByteArray} {p : PtrD} {n : Nat} (hb : ∀ i, i < 3 → tryP ps y0 y1 y2 p n i = false) : readPF ps y0 y1 y2 p n = (ByteArray.empty, false) := by
  unfold readPF; rw [hb 0 (by omega), hb 1 (by omega), hb 2 (by omega)]; rfl

theorem read_any (a0 : Option Addr) (c0 : Nat) (ps : List HD) (w0 : World) (hl : ps.length = 3) (hok : ∀ k, k < ps.length → (ps.getD k default).d.ok = true) (hR : Rd HD.cells 3 w0 a0 ps.length ps) (hP : ∀ k, k < ps.length → (ps.getD k default).reads w0) (p : PtrD) (m n : Nat) (hpa : p.fAt = (m : Int)) (hps : p.fSize = (n : Int)) (hm : m < 64) (hn1 : 1 ≤ n) (hn2 : n ≤ 128) (hcz : ∀ k, k < 3 → (colP (ps.getD k default).d m).size ≤ 1048576) : Calls Try.prog 64 #[.agg #[.slice a0 ps.length c0], .agg #[.int .i64 p.fAt, .int .i64 p.fBirth, .int .i64 p.fSize, .int .i64 p.fSum, .int .i64 p.fLevel]] w0 fun e w' => e = .returned (.tuple #[.string (readPF ps (colP (ps.getD 0 default).d m) (colP (ps.getD 1 default).d m) (colP (ps.getD 2 default).d m) p n).1, .bool (readPF ps (colP (ps.getD 0 default).d m) (colP (ps.getD 1 default).d m) (colP (ps.getD 2 default).d m) p n).2]) ∧ Below w0.heap.size w0 w' := by
 have HR := Bx.mk hR; have HP := Bx.mk hP; clear hR hP
 have HS := Bx.mk (St.start w0)
 refine wc_enter Try.func64 rfl Try.ntmps64 [(0, .agg #[.slice a0 ps.length c0]), (1, .agg #[.int .i64 p.fAt, .int .i64 p.fBirth, .int .i64 p.fSize, .int .i64 p.fSum, .int .i64 p.fLevel])] ⟨rfl, rfl, trivial⟩ rfl ?_; intro a HF
 refine wp_sr ?_
 refine wl_box rfl HF rfl (HF.ev rfl) (Z := [.slice a0 ps.length c0]) rfl rfl rfl rfl HS.out ?_; clear HF HS a; intro a w1 b1 HF HS; replace HS := Bx.mk HS
 refine wl_box rfl HF rfl (HF.ev rfl) (Z := [.int .i64 p.fAt, .int .i64 p.fBirth, .int .i64 p.fSize, .int .i64 p.fSum, .int .i64 p.fLevel]) rfl rfl rfl rfl HS.out ?_; clear HF HS a; intro a w2 b2 HF HS; replace HS := Bx.mk HS
 refine wl_as HF rfl rfl rfl rfl rfl ?_; clear HF a; intro a HF
 refine wl_as HF rfl rfl rfl rfl rfl ?_; clear HF a; intro a HF
 refine wl_ne ?_
 refine wp_sr ?_
 refine wl_makeS (enc := encS) (n := 3) rfl HF rfl rfl rfl elemS (HF.ev rfl) (HF.ev rfl) (by omega) (by omega) (by omega) (by unfold maxLen; omega) ByteArray.empty (by kernel_rfl) rfl rfl HS.out ?_; clear HF HS a; intro b3 a w3 HF HS; replace HS := Bx.mk HS
 refine wl_as HF rfl rfl rfl rfl rfl ?_; clear HF a; intro a HF
 refine wl_ne ?_
 refine wp_seq ?_
 refine wp_sr ?_
 refine wl_y rfl HF rfl rfl (yl_fieldAddr (j := 0) rfl (HF.ev rfl) (by kernel_rfl)) ?_; clear HF a; intro a HF
 refine wl_y rfl HF rfl rfl (yl_load (v := .slice a0 ps.length c0) rfl (HF.ev rfl) (((HS.out.box 2 rfl).cell 0).trans rfl) (by kernel_rfl)) ?_; clear HF a; intro a HF
 refine wl_y rfl HF rfl rfl (yl_lenL (e := 44) (size := 3) rfl (HF.ev rfl) (by kernel_rfl)) ?_; clear HF a; intro a HF
 refine wl_mv HF rfl rfl rfl rfl rfl ?_; clear HF a; intro a HF
 refine wl_ne ?_
 refine wp_block ?_
 rw [show List.replicate 3 ByteArray.empty = colsPTo ps m 0 by unfold colsPTo; rw [hl]; rfl] at HS
 refine wc_loop (ι := Nat) (fun k a w => (k ≤ ps.length) ∧ Fr 82 a [(2, .pointer (some ⟨b1, 0, none⟩)), (3, .pointer (some ⟨b2, 0, none⟩)), (4, .string (⟨#[]⟩ : ByteArray)), (5, .bool false), (6, .slice (some ⟨b3, 0, none⟩) 3 3), (17, .slice a0 ps.length c0), (18, .int .i64 (ps.length : Int)), (19, .int .i64 (k : Int))] ∧ St w0 ([rowA encS 1 9 (.slice (some ⟨b3, 0, none⟩) 3 3) (colsPTo ps m k), boxA b2 5 33 (.agg #[.int .i64 p.fAt, .int .i64 p.fBirth, .int .i64 p.fSize, .int .i64 p.fSum, .int .i64 p.fLevel]), boxA b1 1 25 (.agg #[.slice a0 ps.length c0])]) w) (fun k => ps.length - k) 0 ⟨Nat.zero_le _, HF.less _ ⟨rfl, rfl, rfl, rfl, rfl, rfl, rfl, rfl, trivial⟩, HS.out⟩ ?_
 clear HF HS; clear a
 rintro k a w4 ⟨hk, HF, HS⟩
 replace HS := Bx.mk HS
 refine wp_sr ?_
 refine wl_y rfl HF rfl rfl (yl_lssI rfl (HF.ev rfl) (HF.ev rfl)) ?_; clear HF a; intro a HF
 refine wl_ne ?_
 refine wp_seq ?_
 refine HF.cases 20 rfl (fun cc1 HF1 => ?_) (fun cc1 HF1 => ?_)
 ·clear HF; have HF := HF1; clear HF1
  have dcc1 := of_decide_eq_true cc1
  refine wc_true HF rfl ?_
  refine wp_skip ?_
  refine ex_then ?_
  refine wp_seq ?_
  refine wp_block ?_
  refine wp_seq ?_
  obtain ⟨g0, o0, r0⟩ := HR.out.opn; have R0 := Bx.mk r0; clear r0
  have hok2 := ok_waits (hok k (by omega)); have hcl := colsPTo_len ps m k (by omega)
  refine wp_region_lit ?_
  refine wl_mv HF rfl rfl rfl rfl rfl ?_; clear HF a; intro a HF
  refine wl_y rfl HF rfl rfl (yl_indexAddrR (e := 44) (i := k) (size := 3) rfl (HF.ev rfl) (HF.ev rfl) (by kernel_rfl) rfl (by omega) (R0.out.ao k (by omega))) ?_; clear HF a; intro a HF
  refine wl_y rfl HF rfl rfl (yl_loadR (cs := [.slice ((ps.getD k default).a0) ((ps.getD k default).d.fCells.length) ((ps.getD k default).c0), .slice ((ps.getD k default).a1) ((ps.getD k default).d.fWaits.length) ((ps.getD k default).c1), .bool ((ps.getD k default).d.fGone)]) rfl (HF.ev rfl) (R0.out.elem HS.out (get_getD (xs := ps) (j := k) (d := default) (by omega))) (by kernel_rfl)) ?_; clear HF a; intro a HF
  refine wl_alloc rfl HF rfl rfl rfl (Z := [.slice none 0 0, .slice none 0 0, .bool false]) (by kernel_rfl) rfl HS.out ?_; clear HF HS a; intro a w5 b4 HF HS; replace HS := Bx.mk HS
  refine wl_as HF rfl rfl rfl rfl rfl ?_; clear HF a; intro a HF
  refine wl_storeBox rfl HF rfl rfl (HF.ev rfl) (HF.ev rfl) HS.out 0 rfl (cells_lit [.slice ((ps.getD k default).a0) ((ps.getD k default).d.fCells.length) ((ps.getD k default).c0), .slice ((ps.getD k default).a1) ((ps.getD k default).d.fWaits.length) ((ps.getD k default).c1), .bool ((ps.getD k default).d.fGone)] rfl rfl) (by kernel_rfl) ?_; clear HS; intro w6 HS; replace HS := Bx.mk HS
  have HS : Bx (St w0 ([boxA b4 3 44 (.agg #[.slice ((ps.getD k default).a0) ((ps.getD k default).d.fCells.length) ((ps.getD k default).c0), .slice ((ps.getD k default).a1) ((ps.getD k default).d.fWaits.length) ((ps.getD k default).c1), .bool ((ps.getD k default).d.fGone)]), rowA encS 1 9 (.slice (some ⟨b3, 0, none⟩) 3 3) (colsPTo ps m k), boxA b2 5 33 (.agg #[.int .i64 p.fAt, .int .i64 p.fBirth, .int .i64 p.fSize, .int .i64 p.fSum, .int .i64 p.fLevel]), boxA b1 1 25 (.agg #[.slice a0 ps.length c0])]) _) := HS
  refine wl_ne ?_
  refine wp_sr ?_
  refine wl_y rfl HF rfl rfl (yl_fieldAddr (j := 2) rfl (HF.ev rfl) (by kernel_rfl)) ?_; clear HF a; intro a HF
  refine wl_y rfl HF rfl rfl (yl_load (v := .bool ((ps.getD k default).d.fGone)) rfl (HF.ev rfl) (((HS.out.box 0 rfl).cell 2).trans rfl) (by kernel_rfl)) ?_; clear HF a; intro a HF
  refine wl_y rfl HF rfl rfl (yl_not rfl (HF.ev rfl)) ?_; clear HF a; intro a HF
  refine wl_ne ?_
  refine HF.cases 26 rfl (fun cc2 HF1 => ?_) (fun cc2 HF1 => ?_)
  ·clear HF; have HF := HF1; clear HF1
   refine wc_true HF rfl ?_
   refine wp_region_lit ?_
   refine wl_mv HF rfl rfl rfl rfl rfl ?_; clear HF a; intro a HF
   refine wl_mv HF rfl rfl rfl rfl rfl ?_; clear HF a; intro a HF
   refine wl_y rfl HF rfl rfl (yl_loadR (cs := [.slice ((ps.getD k default).a0) ((ps.getD k default).d.fCells.length) ((ps.getD k default).c0), .slice ((ps.getD k default).a1) ((ps.getD k default).d.fWaits.length) ((ps.getD k default).c1), .bool ((ps.getD k default).d.fGone)]) rfl (HF.ev rfl) ((HS.out.box 0 rfl).sub 0 3) (by kernel_rfl)) ?_; clear HF a; intro a HF
   refine wl_y rfl HF rfl rfl (yl_fieldAddr (j := 0) rfl (HF.ev rfl) (by kernel_rfl)) ?_; clear HF a; intro a HF
   refine wl_y rfl HF rfl rfl (yl_load (v := .int .i64 p.fAt) rfl (HF.ev rfl) (((HS.out.box 2 rfl).cell 0).trans rfl) (by kernel_rfl)) ?_; clear HF a; intro a HF
   refine wl_callB rfl HF rfl (enter_of Try.func73 (by kernel_rfl) rfl) (args := #[.agg #[.slice ((ps.getD k default).a0) ((ps.getD k default).d.fCells.length) ((ps.getD k default).c0), .slice ((ps.getD k default).a1) ((ps.getD k default).d.fWaits.length) ((ps.getD k default).c1), .bool ((ps.getD k default).d.fGone)], .int .i64 p.fAt]) rfl (v := .string ((ps.getD k default).d.look m)) ((by have := look_any (ps.getD k default).a0 (ps.getD k default).c0 (ps.getD k default).a1 (ps.getD k default).c1 (ps.getD k default).d m _ (by rw [hok2.1]; exact hm) (by omega) ((HP.out k (by omega)).below HS.out.bel).rc ((HP.out k (by omega)).below HS.out.bel).rw; rw [← hpa] at this; exact this)) rfl rfl HS.out ?_; clear HF HS a; intro w7 a HS HF; replace HS := Bx.mk HS
   refine wl_y rfl HF rfl rfl (yl_indexAddr (e := 9) (i := k) (size := 1) rfl (HF.ev rfl) (HF.ev rfl) (by kernel_rfl) rfl (by omega)) ?_; clear HF a; intro a HF
   refine wl_storeE encS_len rfl rfl rfl (HF.ev rfl) (HF.ev rfl) (by kernel_rfl) HS.out 1 rfl (by omega) (z := ((ps.getD k default).d.look m)) rfl rfl ?_; clear HS; intro w8 HS; replace HS := Bx.mk HS
   refine wpList_nil ?_
   refine ex_block ?_
   refine ex_then ?_
   refine wp_region_lit ?_
   refine wl_y rfl HF rfl rfl (yl_addI rfl (HF.ev rfl) (HF.ev rfl) (i64w (by omega))) ?_; clear HF a; intro a HF
   refine wl_mv HF rfl rfl rfl rfl rfl ?_; clear HF a; intro a HF
   refine wl_ne ?_
   have hgn : (ps.getD k default).d.fGone = false := by simpa using cc2
   have hcp : colP (ps.getD k default).d m = (ps.getD k default).d.look m := by unfold colP; rw [hgn]; rfl
   rw [colsPTo_succ ps m k (by omega) _ hcp] at HS
   replace HS : Bx (St w0 ([rowA encS 1 9 (.slice (some ⟨b3, 0, none⟩) 3 3) (colsPTo ps m (k + 1)), boxA b2 5 33 (.agg #[.int .i64 p.fAt, .int .i64 p.fBirth, .int .i64 p.fSize, .int .i64 p.fSum, .int .i64 p.fLevel]), boxA b1 1 25 (.agg #[.slice a0 ps.length c0]), boxA b4 3 44 (.agg #[.slice ((ps.getD k default).a0) ((ps.getD k default).d.fCells.length) ((ps.getD k default).c0), .slice ((ps.getD k default).a1) ((ps.getD k default).d.fWaits.length) ((ps.getD k default).c1), .bool ((ps.getD k default).d.fGone)])]) _) := ⟨(((HS.out).pick 3 rfl).pick 3 rfl).pick 3 rfl⟩
   exact ⟨k + 1, ⟨(by omega), HF.less _ ⟨rfl, rfl, rfl, rfl, rfl, rfl, rfl, rfl, trivial⟩, (HS.out.erase 3)⟩, (by omega)⟩
  ·clear HF; have HF := HF1; clear HF1
   refine wc_false HF rfl ?_
   refine wp_skip ?_
   refine ex_block ?_
   refine ex_then ?_
   refine wp_region_lit ?_
   refine wl_y rfl HF rfl rfl (yl_addI rfl (HF.ev rfl) (HF.ev rfl) (i64w (by omega))) ?_; clear HF a; intro a HF
   refine wl_mv HF rfl rfl rfl rfl rfl ?_; clear HF a; intro a HF
   refine wl_ne ?_
   have hgn : (ps.getD k default).d.fGone = true := by simpa using cc2
   have hcp : colP (ps.getD k default).d m = ByteArray.empty := by unfold colP; rw [hgn]; rfl
   rw [colsPTo_gone ps m k (by omega) hcp] at HS
   replace HS : Bx (St w0 ([rowA encS 1 9 (.slice (some ⟨b3, 0, none⟩) 3 3) (colsPTo ps m (k + 1)), boxA b2 5 33 (.agg #[.int .i64 p.fAt, .int .i64 p.fBirth, .int .i64 p.fSize, .int .i64 p.fSum, .int .i64 p.fLevel]), boxA b1 1 25 (.agg #[.slice a0 ps.length c0]), boxA b4 3 44 (.agg #[.slice ((ps.getD k default).a0) ((ps.getD k default).d.fCells.length) ((ps.getD k default).c0), .slice ((ps.getD k default).a1) ((ps.getD k default).d.fWaits.length) ((ps.getD k default).c1), .bool ((ps.getD k default).d.fGone)])]) _) := ⟨(((HS.out).pick 3 rfl).pick 3 rfl).pick 3 rfl⟩
   exact ⟨k + 1, ⟨(by omega), HF.less _ ⟨rfl, rfl, rfl, rfl, rfl, rfl, rfl, rfl, trivial⟩, (HS.out.erase 3)⟩, (by omega)⟩
 ·clear HF; have HF := HF1; clear HF1
  have dcc1 := of_decide_eq_false cc1
  refine wc_false HF rfl ?_
  refine wp_exit ?_
  refine ex_then_exit ?_
  refine ex_then_exit ?_
  refine ex_block_hit ?_
  refine ex_then ?_
  refine wp_seq ?_
  refine wp_sr ?_
  refine wl_as HF rfl rfl rfl rfl rfl ?_; clear HF a; intro a HF
  refine wl_ne ?_
  refine wp_block ?_
  obtain rfl : k = ps.length := by omega
  obtain ⟨y0, hy0⟩ : ∃ y, y = colP (ps.getD 0 default).d m := ⟨_, rfl⟩; obtain ⟨y1, hy1⟩ : ∃ y, y = colP (ps.getD 1 default).d m := ⟨_, rfl⟩; obtain ⟨y2, hy2⟩ : ∃ y, y = colP (ps.getD 2 default).d m := ⟨_, rfl⟩
  rw [colsPTo_three ps m hl, ← hy0, ← hy1, ← hy2] at HS; have hz0 : y0.size ≤ 1048576 := by rw [hy0]; exact hcz 0 (by omega)
  have hz1 : y1.size ≤ 1048576 := by rw [hy1]; exact hcz 1 (by omega)
  have hz2 : y2.size ≤ 1048576 := by rw [hy2]; exact hcz 2 (by omega)
  replace HS : Bx (St w0 ([rowA encS 1 9 (.slice (some ⟨b3, 0, none⟩) 3 3) ([y0, y1, y2]), boxA b2 5 33 (.agg #[.int .i64 p.fAt, .int .i64 p.fBirth, .int .i64 p.fSize, .int .i64 p.fSum, .int .i64 p.fLevel]), boxA b1 1 25 (.agg #[.slice a0 ps.length c0])]) _) := ⟨HS.out⟩
  refine wc_loop (ι := Nat) (fun j a w => (j ≤ 3 ∧ ∀ i, i < j → tryP ps y0 y1 y2 p n i = false) ∧ Fr 82 a [(2, .pointer (some ⟨b1, 0, none⟩)), (3, .pointer (some ⟨b2, 0, none⟩)), (6, .slice (some ⟨b3, 0, none⟩) 3 3), (9, .int .i64 ((j : Int) - 1))] ∧ St w0 ([rowA encS 1 9 (.slice (some ⟨b3, 0, none⟩) 3 3) ([y0, y1, y2]), boxA b2 5 33 (.agg #[.int .i64 p.fAt, .int .i64 p.fBirth, .int .i64 p.fSize, .int .i64 p.fSum, .int .i64 p.fLevel]), boxA b1 1 25 (.agg #[.slice a0 ps.length c0])]) w) (fun j => 3 - j) 0 ⟨⟨by omega, fun i hi => absurd hi (by omega)⟩, HF.less _ ⟨rfl, rfl, rfl, rfl, trivial⟩, HS.out⟩ ?_
  clear HF HS; clear a
  rintro j a w9 ⟨⟨hj, hb⟩, HF, HS⟩
  replace HS := Bx.mk HS
  refine wp_seq ?_
  refine wp_sr ?_
  refine wl_mv HF rfl rfl rfl rfl rfl ?_; clear HF a; intro a HF
  refine wl_y rfl HF rfl rfl (yl_lssI rfl (HF.ev rfl) (HF.ev rfl)) ?_; clear HF a; intro a HF
  refine wl_ne ?_
  refine HF.cases 36 rfl (fun cc3 HF1 => ?_) (fun cc3 HF1 => ?_)
  ·clear HF; have HF := HF1; clear HF1
   have dcc3 := of_decide_eq_true cc3
   refine wc_true HF rfl ?_
   refine wp_skip ?_
   refine ex_then ?_
   refine wp_seq ?_
   refine wp_block ?_
   refine wp_sr ?_
   refine wl_as HF rfl rfl rfl rfl rfl ?_; clear HF a; intro a HF
   refine wl_ne ?_
   refine wp_seq ?_
   refine wp_sr ?_
   refine wl_y rfl HF rfl rfl (yl_fieldAddr (j := 0) rfl (HF.ev rfl) (by kernel_rfl)) ?_; clear HF a; intro a HF
   refine wl_y rfl HF rfl rfl (yl_load (v := .slice a0 ps.length c0) rfl (HF.ev rfl) (((HS.out.box 2 rfl).cell 0).trans rfl) (by kernel_rfl)) ?_; clear HF a; intro a HF
   refine wl_y rfl HF rfl rfl (yl_lenL (e := 44) (size := 3) rfl (HF.ev rfl) (by kernel_rfl)) ?_; clear HF a; intro a HF
   refine wl_mv HF rfl rfl rfl rfl rfl ?_; clear HF a; intro a HF
   refine wl_ne ?_
   refine wp_block ?_
   refine wc_loop (ι := Nat) (fun k a w => (k ≤ ps.length) ∧ Fr 82 a [(2, .pointer (some ⟨b1, 0, none⟩)), (3, .pointer (some ⟨b2, 0, none⟩)), (6, .slice (some ⟨b3, 0, none⟩) 3 3), (9, .int .i64 ((j : Int) - 1)), (40, .slice a0 ps.length c0), (41, .int .i64 (ps.length : Int)), (10, .bool (goneT ps ((j : Int) - 1) k)), (42, .int .i64 (k : Int))] ∧ St w0 ([rowA encS 1 9 (.slice (some ⟨b3, 0, none⟩) 3 3) ([y0, y1, y2]), boxA b2 5 33 (.agg #[.int .i64 p.fAt, .int .i64 p.fBirth, .int .i64 p.fSize, .int .i64 p.fSum, .int .i64 p.fLevel]), boxA b1 1 25 (.agg #[.slice a0 ps.length c0])]) w) (fun k => ps.length - k) 0 ⟨Nat.zero_le _, HF.less _ ⟨rfl, rfl, rfl, rfl, rfl, rfl, rfl, rfl, trivial⟩, HS.out⟩ ?_
   clear HF HS; clear a
   rintro k a w10 ⟨hk, HF, HS⟩
   replace HS := Bx.mk HS
   refine wp_sr ?_
   refine wl_y rfl HF rfl rfl (yl_lssI rfl (HF.ev rfl) (HF.ev rfl)) ?_; clear HF a; intro a HF
   refine wl_ne ?_
   refine wp_seq ?_
   refine HF.cases 43 rfl (fun cc4 HF1 => ?_) (fun cc4 HF1 => ?_)
   ·clear HF; have HF := HF1; clear HF1
    have dcc4 := of_decide_eq_true cc4
    refine wc_true HF rfl ?_
    refine wp_skip ?_
    refine ex_then ?_
    refine wp_seq ?_
    refine wp_block ?_
    refine wp_seq ?_
    obtain ⟨g0, o0, r0⟩ := HR.out.opn; have R0 := Bx.mk r0; clear r0
    refine wp_region_lit ?_
    refine wl_mv HF rfl rfl rfl rfl rfl ?_; clear HF a; intro a HF
    refine wl_y rfl HF rfl rfl (yl_indexAddrR (e := 44) (i := k) (size := 3) rfl (HF.ev rfl) (HF.ev rfl) (by kernel_rfl) rfl (by omega) (R0.out.ao k (by omega))) ?_; clear HF a; intro a HF
    refine wl_y rfl HF rfl rfl (yl_loadR (cs := [.slice ((ps.getD k default).a0) ((ps.getD k default).d.fCells.length) ((ps.getD k default).c0), .slice ((ps.getD k default).a1) ((ps.getD k default).d.fWaits.length) ((ps.getD k default).c1), .bool ((ps.getD k default).d.fGone)]) rfl (HF.ev rfl) (R0.out.elem HS.out (get_getD (xs := ps) (j := k) (d := default) (by omega))) (by kernel_rfl)) ?_; clear HF a; intro a HF
    refine wl_alloc rfl HF rfl rfl rfl (Z := [.slice none 0 0, .slice none 0 0, .bool false]) (by kernel_rfl) rfl HS.out ?_; clear HF HS a; intro a w11 b5 HF HS; replace HS := Bx.mk HS
    refine wl_as HF rfl rfl rfl rfl rfl ?_; clear HF a; intro a HF
    refine wl_storeBox rfl HF rfl rfl (HF.ev rfl) (HF.ev rfl) HS.out 0 rfl (cells_lit [.slice ((ps.getD k default).a0) ((ps.getD k default).d.fCells.length) ((ps.getD k default).c0), .slice ((ps.getD k default).a1) ((ps.getD k default).d.fWaits.length) ((ps.getD k default).c1), .bool ((ps.getD k default).d.fGone)] rfl rfl) (by kernel_rfl) ?_; clear HS; intro w12 HS; replace HS := Bx.mk HS
    have HS : Bx (St w0 ([boxA b5 3 44 (.agg #[.slice ((ps.getD k default).a0) ((ps.getD k default).d.fCells.length) ((ps.getD k default).c0), .slice ((ps.getD k default).a1) ((ps.getD k default).d.fWaits.length) ((ps.getD k default).c1), .bool ((ps.getD k default).d.fGone)]), rowA encS 1 9 (.slice (some ⟨b3, 0, none⟩) 3 3) ([y0, y1, y2]), boxA b2 5 33 (.agg #[.int .i64 p.fAt, .int .i64 p.fBirth, .int .i64 p.fSize, .int .i64 p.fSum, .int .i64 p.fLevel]), boxA b1 1 25 (.agg #[.slice a0 ps.length c0])]) _) := HS
    refine wl_ne ?_
    refine wp_region_lit ?_
    refine wl_mv HF rfl rfl rfl rfl rfl ?_; clear HF a; intro a HF
    refine wl_mv HF rfl rfl rfl rfl rfl ?_; clear HF a; intro a HF
    refine HF.cases 48 rfl (fun cc5 HF1 => ?_) (fun cc5 HF1 => ?_)
    ·clear HF; have HF := HF1; clear HF1
     refine wl_skip HF rfl rfl rfl rfl rfl rfl ?_; clear HF a; intro a HF
     refine wl_skip HF rfl rfl rfl rfl rfl rfl ?_; clear HF a; intro a HF
     refine wl_skip HF rfl rfl rfl rfl rfl rfl ?_; clear HF a; intro a HF
     refine wl_skipU HF rfl rfl rfl rfl rfl ?_; clear HF a; intro a HF
     refine wl_skipU HF rfl rfl rfl rfl rfl ?_; clear HF a; intro a HF
     refine wl_skipU HF rfl rfl rfl rfl rfl ?_; clear HF a; intro a HF
     refine wl_skip HF rfl rfl rfl rfl rfl rfl ?_; clear HF a; intro a HF
     refine wl_skip HF rfl rfl rfl rfl rfl rfl ?_; clear HF a; intro a HF
     refine wl_skipU HF rfl rfl rfl rfl rfl ?_; clear HF a; intro a HF
     refine wl_skipU HF rfl rfl rfl rfl rfl ?_; clear HF a; intro a HF
     refine wl_skipU HF rfl rfl rfl rfl rfl ?_; clear HF a; intro a HF
     refine wl_skipU HF rfl rfl rfl rfl rfl ?_; clear HF a; intro a HF
     refine wl_skipU HF rfl rfl rfl rfl rfl ?_; clear HF a; intro a HF
     refine wl_skipU HF rfl rfl rfl rfl rfl ?_; clear HF a; intro a HF
     refine wl_skip HF rfl rfl rfl rfl rfl rfl ?_; clear HF a; intro a HF
     refine wl_y rfl HF rfl rfl (yl_pick_t rfl (HF.ev rfl) (HF.ev rfl)) ?_; clear HF a; intro a HF
     refine wl_as HF rfl rfl rfl rfl rfl ?_; clear HF a; intro a HF
     refine wpList_nil ?_
     refine ex_block ?_
     refine ex_then ?_
     refine wp_region_lit ?_
     refine wl_y rfl HF rfl rfl (yl_addI rfl (HF.ev rfl) (HF.ev rfl) (i64w (by omega))) ?_; clear HF a; intro a HF
     refine wl_mv HF rfl rfl rfl rfl rfl ?_; clear HF a; intro a HF
     refine wl_ne ?_
     have hnext : goneT ps ((j : Int) - 1) (k + 1) = true := by unfold goneT; simp only [cc5] <;> rfl
     replace HS : Bx (St w0 ([rowA encS 1 9 (.slice (some ⟨b3, 0, none⟩) 3 3) ([y0, y1, y2]), boxA b2 5 33 (.agg #[.int .i64 p.fAt, .int .i64 p.fBirth, .int .i64 p.fSize, .int .i64 p.fSum, .int .i64 p.fLevel]), boxA b1 1 25 (.agg #[.slice a0 ps.length c0]), boxA b5 3 44 (.agg #[.slice ((ps.getD k default).a0) ((ps.getD k default).d.fCells.length) ((ps.getD k default).c0), .slice ((ps.getD k default).a1) ((ps.getD k default).d.fWaits.length) ((ps.getD k default).c1), .bool ((ps.getD k default).d.fGone)])]) _) := ⟨(((HS.out).pick 3 rfl).pick 3 rfl).pick 3 rfl⟩
     exact ⟨k + 1, ⟨(by omega), HF.less _ ⟨rfl, rfl, rfl, rfl, rfl, rfl, (by show _ = some (Value.bool (goneT ps ((j : Int) - 1) (k + 1))); rw [hnext]; rfl), rfl, trivial⟩, (HS.out.erase 3)⟩, (by omega)⟩
    ·clear HF; have HF := HF1; clear HF1
     refine wl_yg HF rfl rfl rfl rfl rfl (yl_fieldAddr (j := 2) rfl (HF.ev rfl) (by kernel_rfl)) ?_; clear HF a; intro a HF
     refine wl_yg HF rfl rfl rfl rfl rfl (yl_load (v := .bool ((ps.getD k default).d.fGone)) rfl (HF.ev rfl) (((HS.out.box 0 rfl).cell 2).trans rfl) (by kernel_rfl)) ?_; clear HF a; intro a HF
     refine wl_yg HF rfl rfl rfl rfl rfl (yl_move rfl (HF.ev rfl)) ?_; clear HF a; intro a HF
     refine HF.cases 51 rfl (fun cc6 HF1 => ?_) (fun cc6 HF1 => ?_)
     ·clear HF; have HF := HF1; clear HF1
      refine wl_yg HF rfl rfl rfl rfl rfl (yl_move rfl (HF.ev rfl)) ?_; clear HF a; intro a HF
      refine wl_yg HF rfl rfl rfl rfl rfl (yl_move rfl (HF.ev rfl)) ?_; clear HF a; intro a HF
      refine wl_yg HF rfl rfl rfl rfl rfl (yl_neqI rfl (HF.ev rfl) (HF.ev rfl)) ?_; clear HF a; intro a HF
      refine wl_yg HF rfl rfl rfl rfl rfl (yl_pick_t rfl (HF.ev rfl) (HF.ev rfl)) ?_; clear HF a; intro a HF
      refine wl_yg HF rfl rfl rfl rfl rfl (yl_move rfl (HF.ev rfl)) ?_; clear HF a; intro a HF
      refine HF.cases 56 rfl (fun cc7 HF1 => ?_) (fun cc7 HF1 => ?_)
      ·clear HF; have HF := HF1; clear HF1
       have dcc7 := bne_iff_ne.1 cc7
       refine wl_yg HF rfl rfl rfl rfl rfl (yl_move rfl (HF.ev rfl)) ?_; clear HF a; intro a HF
       refine wl_yg HF rfl rfl rfl rfl rfl (yl_lssI rfl (HF.ev rfl) (HF.ev rfl)) ?_; clear HF a; intro a HF
       refine wl_yg HF rfl rfl rfl rfl rfl (yl_move rfl (HF.ev rfl)) ?_; clear HF a; intro a HF
       refine HF.cases 59 rfl (fun cc8 HF1 => ?_) (fun cc8 HF1 => ?_)
       ·clear HF; have HF := HF1; clear HF1
        have dcc8 := of_decide_eq_true cc8
        refine wl_skip HF rfl rfl rfl rfl rfl rfl ?_; clear HF a; intro a HF
        refine wl_skip HF rfl rfl rfl rfl rfl rfl ?_; clear HF a; intro a HF
        refine wl_yg HF rfl rfl rfl rfl rfl (yl_pick_t rfl (HF.ev rfl) (HF.ev rfl)) ?_; clear HF a; intro a HF
        refine wl_yg HF rfl rfl rfl rfl rfl (yl_pick_t rfl (HF.ev rfl) (HF.ev rfl)) ?_; clear HF a; intro a HF
        refine wl_y rfl HF rfl rfl (yl_pick_f rfl (HF.ev rfl) (HF.ev rfl)) ?_; clear HF a; intro a HF
        refine wl_as HF rfl rfl rfl rfl rfl ?_; clear HF a; intro a HF
        refine wpList_nil ?_
        refine ex_block ?_
        refine ex_then ?_
        refine wp_region_lit ?_
        refine wl_y rfl HF rfl rfl (yl_addI rfl (HF.ev rfl) (HF.ev rfl) (i64w (by omega))) ?_; clear HF a; intro a HF
        refine wl_mv HF rfl rfl rfl rfl rfl ?_; clear HF a; intro a HF
        refine wl_ne ?_
        have hnext : goneT ps ((j : Int) - 1) (k + 1) = true := by unfold goneT; simp only [cc5, cc6, cc7, cc8] <;> rfl
        replace HS : Bx (St w0 ([rowA encS 1 9 (.slice (some ⟨b3, 0, none⟩) 3 3) ([y0, y1, y2]), boxA b2 5 33 (.agg #[.int .i64 p.fAt, .int .i64 p.fBirth, .int .i64 p.fSize, .int .i64 p.fSum, .int .i64 p.fLevel]), boxA b1 1 25 (.agg #[.slice a0 ps.length c0]), boxA b5 3 44 (.agg #[.slice ((ps.getD k default).a0) ((ps.getD k default).d.fCells.length) ((ps.getD k default).c0), .slice ((ps.getD k default).a1) ((ps.getD k default).d.fWaits.length) ((ps.getD k default).c1), .bool ((ps.getD k default).d.fGone)])]) _) := ⟨(((HS.out).pick 3 rfl).pick 3 rfl).pick 3 rfl⟩
        exact ⟨k + 1, ⟨(by omega), HF.less _ ⟨rfl, rfl, rfl, rfl, rfl, rfl, (by show _ = some (Value.bool (goneT ps ((j : Int) - 1) (k + 1))); rw [hnext]; rfl), rfl, trivial⟩, (HS.out.erase 3)⟩, (by omega)⟩
       ·clear HF; have HF := HF1; clear HF1
        have dcc8 := of_decide_eq_false cc8
        refine wl_yg HF rfl rfl rfl rfl rfl (yl_move rfl (HF.ev rfl)) ?_; clear HF a; intro a HF
        refine wl_yg HF rfl rfl rfl rfl rfl (yl_geqI rfl (HF.ev rfl) (HF.ev rfl)) ?_; clear HF a; intro a HF
        refine wl_yg HF rfl rfl rfl rfl rfl (yl_pick_f rfl (HF.ev rfl) (HF.ev rfl)) ?_; clear HF a; intro a HF
        refine wl_yg HF rfl rfl rfl rfl rfl (yl_pick_t rfl (HF.ev rfl) (HF.ev rfl)) ?_; clear HF a; intro a HF
        refine wl_y rfl HF rfl rfl (yl_pick_f rfl (HF.ev rfl) (HF.ev rfl)) ?_; clear HF a; intro a HF
        refine wl_as HF rfl rfl rfl rfl rfl ?_; clear HF a; intro a HF
        refine wpList_nil ?_
        refine ex_block ?_
        refine ex_then ?_
        refine wp_region_lit ?_
        refine wl_y rfl HF rfl rfl (yl_addI rfl (HF.ev rfl) (HF.ev rfl) (i64w (by omega))) ?_; clear HF a; intro a HF
        refine wl_mv HF rfl rfl rfl rfl rfl ?_; clear HF a; intro a HF
        refine wl_ne ?_
        have hnext : goneT ps ((j : Int) - 1) (k + 1) = (decide ((0 : Int) ≤ ((j : Int) - 1))) := by unfold goneT; simp only [cc5, cc6, cc7, cc8] <;> rfl
        replace HS : Bx (St w0 ([rowA encS 1 9 (.slice (some ⟨b3, 0, none⟩) 3 3) ([y0, y1, y2]), boxA b2 5 33 (.agg #[.int .i64 p.fAt, .int .i64 p.fBirth, .int .i64 p.fSize, .int .i64 p.fSum, .int .i64 p.fLevel]), boxA b1 1 25 (.agg #[.slice a0 ps.length c0]), boxA b5 3 44 (.agg #[.slice ((ps.getD k default).a0) ((ps.getD k default).d.fCells.length) ((ps.getD k default).c0), .slice ((ps.getD k default).a1) ((ps.getD k default).d.fWaits.length) ((ps.getD k default).c1), .bool ((ps.getD k default).d.fGone)])]) _) := ⟨(((HS.out).pick 3 rfl).pick 3 rfl).pick 3 rfl⟩
        exact ⟨k + 1, ⟨(by omega), HF.less _ ⟨rfl, rfl, rfl, rfl, rfl, rfl, (by show _ = some (Value.bool (goneT ps ((j : Int) - 1) (k + 1))); rw [hnext]; rfl), rfl, trivial⟩, (HS.out.erase 3)⟩, (by omega)⟩
      ·clear HF; have HF := HF1; clear HF1
       have dcc7 := bne_eq_false_iff_eq.1 cc7
       refine wl_skip HF rfl rfl rfl rfl rfl rfl ?_; clear HF a; intro a HF
       refine wl_skip HF rfl rfl rfl rfl rfl rfl ?_; clear HF a; intro a HF
       refine wl_skip HF rfl rfl rfl rfl rfl rfl ?_; clear HF a; intro a HF
       refine wl_skipU HF rfl rfl rfl rfl rfl ?_; clear HF a; intro a HF
       refine wl_skipU HF rfl rfl rfl rfl rfl ?_; clear HF a; intro a HF
       refine wl_skip HF rfl rfl rfl rfl rfl rfl ?_; clear HF a; intro a HF
       refine wl_yg HF rfl rfl rfl rfl rfl (yl_pick_f rfl (HF.ev rfl) (HF.ev rfl)) ?_; clear HF a; intro a HF
       refine wl_y rfl HF rfl rfl (yl_pick_f rfl (HF.ev rfl) (HF.ev rfl)) ?_; clear HF a; intro a HF
       refine wl_as HF rfl rfl rfl rfl rfl ?_; clear HF a; intro a HF
       refine wpList_nil ?_
       refine ex_block ?_
       refine ex_then ?_
       refine wp_region_lit ?_
       refine wl_y rfl HF rfl rfl (yl_addI rfl (HF.ev rfl) (HF.ev rfl) (i64w (by omega))) ?_; clear HF a; intro a HF
       refine wl_mv HF rfl rfl rfl rfl rfl ?_; clear HF a; intro a HF
       refine wl_ne ?_
       have hnext : goneT ps ((j : Int) - 1) (k + 1) = false := by unfold goneT; simp only [cc5, cc6, cc7] <;> rfl
       replace HS : Bx (St w0 ([rowA encS 1 9 (.slice (some ⟨b3, 0, none⟩) 3 3) ([y0, y1, y2]), boxA b2 5 33 (.agg #[.int .i64 p.fAt, .int .i64 p.fBirth, .int .i64 p.fSize, .int .i64 p.fSum, .int .i64 p.fLevel]), boxA b1 1 25 (.agg #[.slice a0 ps.length c0]), boxA b5 3 44 (.agg #[.slice ((ps.getD k default).a0) ((ps.getD k default).d.fCells.length) ((ps.getD k default).c0), .slice ((ps.getD k default).a1) ((ps.getD k default).d.fWaits.length) ((ps.getD k default).c1), .bool ((ps.getD k default).d.fGone)])]) _) := ⟨(((HS.out).pick 3 rfl).pick 3 rfl).pick 3 rfl⟩
       exact ⟨k + 1, ⟨(by omega), HF.less _ ⟨rfl, rfl, rfl, rfl, rfl, rfl, (by show _ = some (Value.bool (goneT ps ((j : Int) - 1) (k + 1))); rw [hnext]; rfl), rfl, trivial⟩, (HS.out.erase 3)⟩, (by omega)⟩
     ·clear HF; have HF := HF1; clear HF1
      refine wl_skip HF rfl rfl rfl rfl rfl rfl ?_; clear HF a; intro a HF
      refine wl_skip HF rfl rfl rfl rfl rfl rfl ?_; clear HF a; intro a HF
      refine wl_skip HF rfl rfl rfl rfl rfl rfl ?_; clear HF a; intro a HF
      refine wl_yg HF rfl rfl rfl rfl rfl (yl_pick_f rfl (HF.ev rfl) (HF.ev rfl)) ?_; clear HF a; intro a HF
      refine wl_yg HF rfl rfl rfl rfl rfl (yl_move rfl (HF.ev rfl)) ?_; clear HF a; intro a HF
      refine wl_skip HF rfl rfl rfl rfl rfl rfl ?_; clear HF a; intro a HF
      refine wl_skip HF rfl rfl rfl rfl rfl rfl ?_; clear HF a; intro a HF
      refine wl_skip HF rfl rfl rfl rfl rfl rfl ?_; clear HF a; intro a HF
      refine wl_skipU HF rfl rfl rfl rfl rfl ?_; clear HF a; intro a HF
      refine wl_skipU HF rfl rfl rfl rfl rfl ?_; clear HF a; intro a HF
      refine wl_skip HF rfl rfl rfl rfl rfl rfl ?_; clear HF a; intro a HF
      refine wl_yg HF rfl rfl rfl rfl rfl (yl_pick_f rfl (HF.ev rfl) (HF.ev rfl)) ?_; clear HF a; intro a HF
      refine wl_y rfl HF rfl rfl (yl_pick_f rfl (HF.ev rfl) (HF.ev rfl)) ?_; clear HF a; intro a HF
      refine wl_as HF rfl rfl rfl rfl rfl ?_; clear HF a; intro a HF
      refine wpList_nil ?_
      refine ex_block ?_
      refine ex_then ?_
      refine wp_region_lit ?_
      refine wl_y rfl HF rfl rfl (yl_addI rfl (HF.ev rfl) (HF.ev rfl) (i64w (by omega))) ?_; clear HF a; intro a HF
      refine wl_mv HF rfl rfl rfl rfl rfl ?_; clear HF a; intro a HF
      refine wl_ne ?_
      have hnext : goneT ps ((j : Int) - 1) (k + 1) = false := by unfold goneT; simp only [cc5, cc6] <;> rfl
      replace HS : Bx (St w0 ([rowA encS 1 9 (.slice (some ⟨b3, 0, none⟩) 3 3) ([y0, y1, y2]), boxA b2 5 33 (.agg #[.int .i64 p.fAt, .int .i64 p.fBirth, .int .i64 p.fSize, .int .i64 p.fSum, .int .i64 p.fLevel]), boxA b1 1 25 (.agg #[.slice a0 ps.length c0]), boxA b5 3 44 (.agg #[.slice ((ps.getD k default).a0) ((ps.getD k default).d.fCells.length) ((ps.getD k default).c0), .slice ((ps.getD k default).a1) ((ps.getD k default).d.fWaits.length) ((ps.getD k default).c1), .bool ((ps.getD k default).d.fGone)])]) _) := ⟨(((HS.out).pick 3 rfl).pick 3 rfl).pick 3 rfl⟩
      exact ⟨k + 1, ⟨(by omega), HF.less _ ⟨rfl, rfl, rfl, rfl, rfl, rfl, (by show _ = some (Value.bool (goneT ps ((j : Int) - 1) (k + 1))); rw [hnext]; rfl), rfl, trivial⟩, (HS.out.erase 3)⟩, (by omega)⟩
   ·clear HF; have HF := HF1; clear HF1
    have dcc4 := of_decide_eq_false cc4
    refine wc_false HF rfl ?_
    refine wp_exit ?_
    refine ex_then_exit ?_
    refine ex_then_exit ?_
    refine ex_block_hit ?_
    refine ex_then ?_
    refine wp_seq ?_
    refine wp_seq ?_
    obtain rfl : k = ps.length := by omega
    refine wp_region_lit ?_
    refine wl_mv HF rfl rfl rfl rfl rfl ?_; clear HF a; intro a HF
    refine wl_ne ?_
    refine HF.cases 66 rfl (fun cc9 HF1 => ?_) (fun cc9 HF1 => ?_)
    ·clear HF; have HF := HF1; clear HF1
     refine wc_true HF rfl ?_
     refine wp_exit ?_
     refine ex_then_exit ?_
     refine ex_block_hit ?_
     refine ex_then ?_
     refine wp_region_lit ?_
     refine wl_mv HF rfl rfl rfl rfl rfl ?_; clear HF a; intro a HF
     refine wl_y rfl HF rfl rfl (yl_addI rfl (HF.ev rfl) (HF.ev rfl) (i64w (by omega))) ?_; clear HF a; intro a HF
     refine wl_as HF rfl rfl rfl rfl rfl ?_; clear HF a; intro a HF
     refine wl_ne ?_
     have hfail : tryP ps y0 y1 y2 p n j = false := by unfold tryP; simp only [cc9] <;> rfl
     have hnext : ∀ i, i < j + 1 → tryP ps y0 y1 y2 p n i = false := fun i hi => by
      by_cases h : i < j
      ·exact hb i h
      ·obtain rfl : i = j := by omega
       exact hfail
     exact ⟨j + 1, ⟨⟨by omega, hnext⟩, HF.less _ ⟨rfl, rfl, rfl, (by show _ = some (Value.int .i64 (((j + 1 : Nat) : Int) - 1)); rw [show (((j + 1 : Nat) : Int) - 1) = (j : Int) - 1 + 1 by omega]; rfl), trivial⟩, HS.out⟩, (by omega)⟩
    ·clear HF; have HF := HF1; clear HF1
     refine wc_false HF rfl ?_
     refine wp_skip ?_
     refine ex_then ?_
     refine wp_sr ?_
     refine wl_mv HF rfl rfl rfl rfl rfl ?_; clear HF a; intro a HF
     refine wl_y rfl HF rfl rfl (yl_fieldAddr (j := 2) rfl (HF.ev rfl) (by kernel_rfl)) ?_; clear HF a; intro a HF
     refine wl_y rfl HF rfl rfl (yl_load (v := .int .i64 p.fSize) rfl (HF.ev rfl) (((HS.out.box 1 rfl).cell 2).trans rfl) (by kernel_rfl)) ?_; clear HF a; intro a HF
     refine wl_mv HF rfl rfl rfl rfl rfl ?_; clear HF a; intro a HF
     refine wl_callB rfl HF rfl (enter_of Try.func19 (by kernel_rfl) rfl) (args := #[.slice (some ⟨b3, 0, none⟩) 3 3, .int .i64 p.fSize, .int .i64 ((j : Int) - 1)]) rfl (v := .tuple #[.string ((joinB y0 y1 y2 n ((j : Int) - 1)).getD ByteArray.empty), .bool ((joinB y0 y1 y2 n ((j : Int) - 1)).isSome)]) ((by have := joinJ_any (some ⟨b3, 0, none⟩) 3 y0 y1 y2 n j (by omega) _ hn1 hn2 hz0 hz1 hz2 (St.rdN HS.out encS_len 0 rfl); rw [← hps] at this; exact this)) rfl rfl HS.out ?_; clear HF HS a; intro w13 a HS HF; replace HS := Bx.mk HS
     refine wl_mv HF rfl rfl rfl rfl rfl ?_; clear HF a; intro a HF
     refine wl_y rfl HF rfl rfl (yl_extract rfl (HF.ev rfl) rfl) ?_; clear HF a; intro a HF
     refine wl_y rfl HF rfl rfl (yl_extract rfl (HF.ev rfl) rfl) ?_; clear HF a; intro a HF
     refine wl_as HF rfl rfl rfl rfl rfl ?_; clear HF a; intro a HF
     refine wl_as HF rfl rfl rfl rfl rfl ?_; clear HF a; intro a HF
     refine wl_ne ?_
     refine wp_sr ?_
     refine wl_mv HF rfl rfl rfl rfl rfl ?_; clear HF a; intro a HF
     refine wl_mv HF rfl rfl rfl rfl rfl ?_; clear HF a; intro a HF
     refine HF.cases 76 rfl (fun cc10 HF1 => ?_) (fun cc10 HF1 => ?_)
     ·clear HF; have HF := HF1; clear HF1
      refine wl_yg HF rfl rfl rfl rfl rfl (yl_loadR (cs := [.int .i64 p.fAt, .int .i64 p.fBirth, .int .i64 p.fSize, .int .i64 p.fSum, .int .i64 p.fLevel]) rfl (HF.ev rfl) ((HS.out.box 1 rfl).sub 0 5) (by kernel_rfl)) ?_; clear HF a; intro a HF
      refine wl_yg HF rfl rfl rfl rfl rfl (yl_move rfl (HF.ev rfl)) ?_; clear HF a; intro a HF
      refine wl_callBg HF rfl rfl rfl rfl (enter_of Try.func20 (by kernel_rfl) rfl) (args := #[.agg #[.int .i64 p.fAt, .int .i64 p.fBirth, .int .i64 p.fSize, .int .i64 p.fSum, .int .i64 p.fLevel], .string ((joinB y0 y1 y2 n ((j : Int) - 1)).getD ByteArray.empty)]) rfl (v := .bool (p.fits ((joinB y0 y1 y2 n ((j : Int) - 1)).getD ByteArray.empty))) (implFits_any p ((joinB y0 y1 y2 n ((j : Int) - 1)).getD ByteArray.empty) _ (by have := joinB_le y0 y1 y2 n ((j : Int) - 1) hn1; omega)) rfl rfl HS.out ?_; clear HF HS a; intro w14 a HS HF; replace HS := Bx.mk HS
      refine wl_y rfl HF rfl rfl (yl_pick_t rfl (HF.ev rfl) (HF.ev rfl)) ?_; clear HF a; intro a HF
      refine wl_ne ?_
      refine HF.cases 80 rfl (fun cc11 HF1 => ?_) (fun cc11 HF1 => ?_)
      ·clear HF; have HF := HF1; clear HF1
       refine wc_true HF rfl ?_
       refine wp_sr ?_
       refine wl_mv HF rfl rfl rfl rfl rfl ?_; clear HF a; intro a HF
       refine wl_as HF rfl rfl rfl rfl rfl ?_; clear HF a; intro a HF
       refine wl_as HF rfl rfl rfl rfl rfl ?_; clear HF a; intro a HF
       refine wl_ne ?_
       refine wp_ret ?_
       refine ex_block_ret ?_
       refine ex_then_ret ?_
       refine ex_then_ret ?_
       refine ex_block_ret ?_
       refine ex_then_ret ?_
       refine bp_ret2 HF Try.results64 (HF.res rfl) (HF.res rfl) ?_
       have hwin : tryP ps y0 y1 y2 p n j = true := by unfold tryP; simp only [cc9, cc10, cc11] <;> rfl
       exact ⟨by rw [← hy0, ← hy1, ← hy2, readPF_at (by omega) hb hwin] <;> rfl, HS.out.bel⟩
      ·clear HF; have HF := HF1; clear HF1
       refine wc_false HF rfl ?_
       refine wp_skip ?_
       refine ex_block ?_
       refine ex_then ?_
       refine wp_region_lit ?_
       refine wl_mv HF rfl rfl rfl rfl rfl ?_; clear HF a; intro a HF
       refine wl_y rfl HF rfl rfl (yl_addI rfl (HF.ev rfl) (HF.ev rfl) (i64w (by omega))) ?_; clear HF a; intro a HF
       refine wl_as HF rfl rfl rfl rfl rfl ?_; clear HF a; intro a HF
       refine wl_ne ?_
       have hfail : tryP ps y0 y1 y2 p n j = false := by unfold tryP; simp only [cc9, cc10, cc11] <;> rfl
       have hnext : ∀ i, i < j + 1 → tryP ps y0 y1 y2 p n i = false := fun i hi => by
        by_cases h : i < j
        ·exact hb i h
        ·obtain rfl : i = j := by omega
         exact hfail
       exact ⟨j + 1, ⟨⟨by omega, hnext⟩, HF.less _ ⟨rfl, rfl, rfl, (by show _ = some (Value.int .i64 (((j + 1 : Nat) : Int) - 1)); rw [show (((j + 1 : Nat) : Int) - 1) = (j : Int) - 1 + 1 by omega]; rfl), trivial⟩, HS.out⟩, (by omega)⟩
     ·clear HF; have HF := HF1; clear HF1
      refine wl_skip HF rfl rfl rfl rfl rfl rfl ?_; clear HF a; intro a HF
      refine wl_skip HF rfl rfl rfl rfl rfl rfl ?_; clear HF a; intro a HF
      refine wl_skip HF rfl rfl rfl rfl rfl rfl ?_; clear HF a; intro a HF
      refine wl_y rfl HF rfl rfl (yl_pick_f rfl (HF.ev rfl) (HF.ev rfl)) ?_; clear HF a; intro a HF
      refine wl_ne ?_
      refine wc_false HF rfl ?_
      refine wp_skip ?_
      refine ex_block ?_
      refine ex_then ?_
      refine wp_region_lit ?_
      refine wl_mv HF rfl rfl rfl rfl rfl ?_; clear HF a; intro a HF
      refine wl_y rfl HF rfl rfl (yl_addI rfl (HF.ev rfl) (HF.ev rfl) (i64w (by omega))) ?_; clear HF a; intro a HF
      refine wl_as HF rfl rfl rfl rfl rfl ?_; clear HF a; intro a HF
      refine wl_ne ?_
      have hfail : tryP ps y0 y1 y2 p n j = false := by unfold tryP; simp only [cc9, cc10] <;> rfl
      have hnext : ∀ i, i < j + 1 → tryP ps y0 y1 y2 p n i = false := fun i hi => by
       by_cases h : i < j
       ·exact hb i h
       ·obtain rfl : i = j := by omega
        exact hfail
      exact ⟨j + 1, ⟨⟨by omega, hnext⟩, HF.less _ ⟨rfl, rfl, rfl, (by show _ = some (Value.int .i64 (((j + 1 : Nat) : Int) - 1)); rw [show (((j + 1 : Nat) : Int) - 1) = (j : Int) - 1 + 1 by omega]; rfl), trivial⟩, HS.out⟩, (by omega)⟩
  ·clear HF; have HF := HF1; clear HF1
   have dcc3 := of_decide_eq_false cc3
   refine wc_false HF rfl ?_
   refine wp_exit ?_
   refine ex_then_exit ?_
   refine ex_then_exit ?_
   refine ex_block_hit ?_
   refine ex_then ?_
   refine wp_sr ?_
   refine wl_as HF rfl rfl rfl rfl rfl ?_; clear HF a; intro a HF
   refine wl_as HF rfl rfl rfl rfl rfl ?_; clear HF a; intro a HF
   refine wl_ne ?_
   refine wp_ret ?_
   refine bp_ret2 HF Try.results64 (HF.res rfl) (HF.res rfl) ?_
   obtain rfl : j = 3 := by omega
   exact ⟨by rw [← hy0, ← hy1, ← hy2, readPF_none hb] <;> rfl, HS.out.bel⟩

end Go.Proofs.Ytfijfjjleelphaa

/- The two readings agree. -/
namespace Go.Proofs.Ytfijfjjleelphaa
set_option maxHeartbeats 1000000
set_option maxRecDepth 100000
open Go.RowKit

def tryS (x0 x1 x2 : ByteArray) (p : PtrD) (n j : Nat) : Bool := (joinB x0 x1 x2 n ((j : Int) - 1)).isSome && p.fits ((joinB x0 x1 x2 n ((j : Int) - 1)).getD ByteArray.empty)
theorem readF_eq (x0 x1 x2 : ByteArray) (p : PtrD) (n : Nat) : readF x0 x1 x2 p n = bif tryS x0 x1 x2 p n 0 then ((joinB x0 x1 x2 n (-1)).getD ByteArray.empty, true)
  else bif tryS x0 x1 x2 p n 1 then ((joinB x0 x1 x2 n 0).getD ByteArray.empty, true)
  else bif tryS x0 x1 x2 p n 2 then ((joinB x0 x1 x2 n 1).getD ByteArray.empty, true) else (ByteArray.empty, false) := by
  unfold readF tryS
  have e0 : ((0 : Nat) : Int) - 1 = -1 := rfl
  have e1 : ((1 : Nat) : Int) - 1 = 0 := rfl
  have e2 : ((2 : Nat) : Int) - 1 = 1 := rfl
  rw [e0, e1, e2]
  cases (joinB x0 x1 x2 n (-1)).isSome <;> cases p.fits ((joinB x0 x1 x2 n (-1)).getD ByteArray.empty) <;> cases (joinB x0 x1 x2 n 0).isSome <;> cases p.fits ((joinB x0 x1 x2 n 0).getD ByteArray.empty) <;> cases (joinB x0 x1 x2 n 1).isSome <;> cases p.fits ((joinB x0 x1 x2 n 1).getD ByteArray.empty) <;> rfl
theorem joinN_of (c0 c1 c2 c2' : ByteArray) (n : Nat) : joinB c0 c1 c2 n (-1) = joinB c0 c1 c2' n (-1) := by
  unfold joinB
  simp
theorem joinZ_of (c0 c0' c1 c2 : ByteArray) (n : Nat) : joinB c0 c1 c2 n 0 = joinB c0' c1 c2 n 0 := by
  unfold joinB
  simp
theorem joinO_of (c0 c1 c1' c2 : ByteArray) (n : Nat) : joinB c0 c1 c2 n 1 = joinB c0 c1' c2 n 1 := by
  unfold joinB
  simp
theorem joinN_no (c0 c1 c2 : ByteArray) (n : Nat) (h1 : 1 ≤ n) (h2 : n ≤ 128) (h : c0.size = 200 ∨ c1.size = 200) : joinB c0 c1 c2 n (-1) = none := by
  have hb := half_bounds n h1
  have hh : half n ≤ 64 := by unfold half; omega
  unfold joinB
  rw [if_neg (by omega), if_neg (by omega), if_neg (by omega)]
theorem joinZ_no (c0 c1 c2 : ByteArray) (n : Nat) (h1 : 1 ≤ n) (h2 : n ≤ 128) (h : c1.size = 200 ∨ c2.size = 200) : joinB c0 c1 c2 n 0 = none := by
  have hb := half_bounds n h1
  have hh : half n ≤ 64 := by unfold half; omega
  unfold joinB
  rw [if_neg (by omega), if_neg (by omega), if_neg (by omega)]
theorem joinO_no (c0 c1 c2 : ByteArray) (n : Nat) (h1 : 1 ≤ n) (h2 : n ≤ 128) (h : c0.size = 200 ∨ c2.size = 200) : joinB c0 c1 c2 n 1 = none := by
  have hb := half_bounds n h1
  have hh : half n ≤ 64 := by unfold half; omega
  unfold joinB
  rw [if_neg (by omega), if_neg (by omega), if_neg (by omega)]
theorem colS_gone {d : DiskD} {m : Nat} (h : d.fGone = true) : (colS d m).size = 200 := by unfold colS; rw [h]; exact goneX_size
theorem colS_there {d : DiskD} {m : Nat} (h : d.fGone = false) : colP d m = colS d m := by unfold colS colP; rw [h]; rfl
/-- One way, both readings. -/
theorem try_eq (p0 p1 p2 : HD) (p : PtrD) (n m : Nat) (h1 : 1 ≤ n) (h2 : n ≤ 128) :
    (tryP [p0, p1, p2] (colP p0.d m) (colP p1.d m) (colP p2.d m) p n 0 = tryS (colS p0.d m) (colS p1.d m) (colS p2.d m) p n 0 ∧ (tryS (colS p0.d m) (colS p1.d m) (colS p2.d m) p n 0 = true → joinB (colP p0.d m) (colP p1.d m) (colP p2.d m) n (-1) = joinB (colS p0.d m) (colS p1.d m) (colS p2.d m) n (-1))) ∧
    (tryP [p0, p1, p2] (colP p0.d m) (colP p1.d m) (colP p2.d m) p n 1 = tryS (colS p0.d m) (colS p1.d m) (colS p2.d m) p n 1 ∧ (tryS (colS p0.d m) (colS p1.d m) (colS p2.d m) p n 1 = true → joinB (colP p0.d m) (colP p1.d m) (colP p2.d m) n 0 = joinB (colS p0.d m) (colS p1.d m) (colS p2.d m) n 0)) ∧
    (tryP [p0, p1, p2] (colP p0.d m) (colP p1.d m) (colP p2.d m) p n 2 = tryS (colS p0.d m) (colS p1.d m) (colS p2.d m) p n 2 ∧ (tryS (colS p0.d m) (colS p1.d m) (colS p2.d m) p n 2 = true → joinB (colP p0.d m) (colP p1.d m) (colP p2.d m) n 1 = joinB (colS p0.d m) (colS p1.d m) (colS p2.d m) n 1)) := by
  have e0 : ((0 : Nat) : Int) - 1 = -1 := rfl
  have e1 : ((1 : Nat) : Int) - 1 = 0 := rfl
  have e2 : ((2 : Nat) : Int) - 1 = 1 := rfl
  unfold tryP tryS
  rw [e0, e1, e2]
  have g0 : goneT [p0, p1, p2] (-1) [p0, p1, p2].length = (p0.d.fGone || p1.d.fGone) := by simp [goneT]
  have g1 : goneT [p0, p1, p2] 0 [p0, p1, p2].length = (p1.d.fGone || p2.d.fGone) := by simp [goneT]
  have g2 : goneT [p0, p1, p2] 1 [p0, p1, p2].length = (p0.d.fGone || p2.d.fGone) := by simp [goneT]
  rw [g0, g1, g2]
  refine ⟨?_, ?_, ?_⟩
  · cases h3 : p0.d.fGone with
    | true => rw [joinN_no _ _ _ n h1 h2 (.inl (colS_gone h3))]; exact ⟨rfl, fun h => by cases h⟩
    | false =>
      cases h4 : p1.d.fGone with
      | true => rw [joinN_no _ _ _ n h1 h2 (.inr (colS_gone h4))]; exact ⟨rfl, fun h => by cases h⟩
      | false => rw [colS_there h3, colS_there h4, joinN_of _ _ (colP p2.d m) (colS p2.d m)]; exact ⟨rfl, fun _ => rfl⟩
  · cases h3 : p1.d.fGone with
    | true => rw [joinZ_no _ _ _ n h1 h2 (.inl (colS_gone h3))]; exact ⟨rfl, fun h => by cases h⟩
    | false =>
      cases h4 : p2.d.fGone with
      | true => rw [joinZ_no _ _ _ n h1 h2 (.inr (colS_gone h4))]; exact ⟨rfl, fun h => by cases h⟩
      | false => rw [colS_there h3, colS_there h4, joinZ_of (colP p0.d m) (colS p0.d m)]; exact ⟨rfl, fun _ => rfl⟩
  · cases h3 : p0.d.fGone with
    | true => rw [joinO_no _ _ _ n h1 h2 (.inl (colS_gone h3))]; exact ⟨rfl, fun h => by cases h⟩
    | false =>
      cases h4 : p2.d.fGone with
      | true => rw [joinO_no _ _ _ n h1 h2 (.inr (colS_gone h4))]; exact ⟨rfl, fun h => by cases h⟩
      | false => rw [colS_there h3, colS_there h4, joinO_of _ (colP p1.d m) (colS p1.d m)]; exact ⟨rfl, fun _ => rfl⟩
theorem readPF_eq (p0 p1 p2 : HD) (p : PtrD) (n m : Nat) (h1 : 1 ≤ n) (h2 : n ≤ 128) : readPF [p0, p1, p2] (colP p0.d m) (colP p1.d m) (colP p2.d m) p n = readF (colS p0.d m) (colS p1.d m) (colS p2.d m) p n := by
  obtain ⟨⟨a0, b0⟩, ⟨a1, b1⟩, ⟨a2, b2⟩⟩ := try_eq p0 p1 p2 p n m h1 h2
  rw [readF_eq]
  unfold readPF
  rw [a0, a1, a2]
  cases h3 : tryS (colS p0.d m) (colS p1.d m) (colS p2.d m) p n 0 with
  | true => rw [b0 h3]; rfl
  | false =>
    cases h4 : tryS (colS p0.d m) (colS p1.d m) (colS p2.d m) p n 1 with
    | true => rw [b1 h4]; rfl
    | false =>
      cases h5 : tryS (colS p0.d m) (colS p1.d m) (colS p2.d m) p n 2 with
      | true => rw [b2 h5]; rfl
      | false => rfl
/-- What RaidRead returns. -/
def readR (ds : List DiskD) (p : PtrD) : ByteArray × Bool := bif okR ds && (p.ok && !p.hole) then readD ds p else (ByteArray.empty, false)
theorem colP_le {d : DiskD} (h : d.ok = true) (m : Nat) (hm : m < 64) : (colP d m).size ≤ 1048576 := by
  unfold colP
  cases d.fGone with
  | true => exact Nat.zero_le _
  | false => exact Nat.le_trans (look_le h m hm) (by decide)
theorem readD_any (a0 : Option Addr) (c0 : Nat) (ps : List HD) (w0 : World) (hk : okR (dsOf ps) = true) (p : PtrD) (h1 : p.ok = true) (h2 : p.hole = false) (hR : Rd HD.cells 3 w0 a0 ps.length ps) (hP : ∀ k, k < ps.length → (ps.getD k default).reads w0) : Calls Try.prog 64 #[.agg #[.slice a0 ps.length c0], .agg #[.int .i64 p.fAt, .int .i64 p.fBirth, .int .i64 p.fSize, .int .i64 p.fSum, .int .i64 p.fLevel]] w0 fun e w' => e = .returned (.tuple #[.string (readD (dsOf ps) p).1, .bool (readD (dsOf ps) p).2]) ∧ Below w0.heap.size w0 w' := by
  obtain ⟨hl, hok⟩ := okR_three hk
  have hbd := PtrD.ok_bounds h1 h2
  have := read_any a0 c0 ps w0 hl hok hR hP p p.fAt.toNat p.fSize.toNat (by omega) (by omega) (by omega) (by omega) (by omega) (fun k hk => colP_le (hok k (by omega)) _ (by omega))
  have e : readPF ps (colP (ps.getD 0 default).d p.fAt.toNat) (colP (ps.getD 1 default).d p.fAt.toNat) (colP (ps.getD 2 default).d p.fAt.toNat) p p.fSize.toNat = readD (dsOf ps) p := by
    match ps, hl with
    | [p0, p1, p2], _ => exact readPF_eq p0 p1 p2 p _ _ (by omega) (by omega)
  rw [e] at this
  exact this

theorem implRaidRead_any (a0 : Option Addr) (c0 : Nat) (ps : List HD) (w0 : World) (hl : ps.length ≤ 1048576) (hf : ∀ k, (ps.getD k default).d.fits) (hR : Rd HD.cells 3 w0 a0 ps.length ps) (hP : ∀ k, k < ps.length → (ps.getD k default).reads w0) (p : PtrD) : Calls Try.prog 16 #[.agg #[.slice a0 ps.length c0], .agg #[.int .i64 p.fAt, .int .i64 p.fBirth, .int .i64 p.fSize, .int .i64 p.fSum, .int .i64 p.fLevel]] w0 fun e w' => e = .returned (.tuple #[.string (readR (dsOf ps) p).1, .bool (readR (dsOf ps) p).2]) ∧ Below w0.heap.size w0 w' := by
 have HR := Bx.mk hR; have HP := Bx.mk hP; clear hR hP
 have HS := Bx.mk (St.start w0)
 refine wc_enter Try.func16 rfl Try.ntmps16 [(0, .agg #[.slice a0 ps.length c0]), (1, .agg #[.int .i64 p.fAt, .int .i64 p.fBirth, .int .i64 p.fSize, .int .i64 p.fSum, .int .i64 p.fLevel])] ⟨rfl, rfl, trivial⟩ rfl ?_; intro a HF
 refine wp_sr ?_
 refine wl_box rfl HF rfl (HF.ev rfl) (Z := [.slice a0 ps.length c0]) rfl rfl rfl rfl HS.out ?_; clear HF HS a; intro a w1 b1 HF HS; replace HS := Bx.mk HS
 refine wl_box rfl HF rfl (HF.ev rfl) (Z := [.int .i64 p.fAt, .int .i64 p.fBirth, .int .i64 p.fSize, .int .i64 p.fSum, .int .i64 p.fLevel]) rfl rfl rfl rfl HS.out ?_; clear HF HS a; intro a w2 b2 HF HS; replace HS := Bx.mk HS
 refine wl_as HF rfl rfl rfl rfl rfl ?_; clear HF a; intro a HF
 refine wl_as HF rfl rfl rfl rfl rfl ?_; clear HF a; intro a HF
 refine wl_ne ?_
 refine wp_seq ?_
 refine wp_sr ?_
 refine wl_y rfl HF rfl rfl (yl_loadR (cs := [.slice a0 ps.length c0]) rfl (HF.ev rfl) ((HS.out.box 1 rfl).sub 0 1) (by kernel_rfl)) ?_; clear HF a; intro a HF
 refine wl_callB rfl HF rfl (enter_of Try.func45 (by kernel_rfl) rfl) (args := #[.agg #[.slice a0 ps.length c0]]) rfl (v := .bool (okR (dsOf ps))) (implRaidOk_any a0 c0 ps _ hl hf (HR.out.below HS.out.bel) (fun k hk => (HP.out k hk).below HS.out.bel)) rfl rfl HS.out ?_; clear HF HS a; intro w3 a HS HF; replace HS := Bx.mk HS
 refine wl_y rfl HF rfl rfl (yl_not rfl (HF.ev rfl)) ?_; clear HF a; intro a HF
 refine wl_mv HF rfl rfl rfl rfl rfl ?_; clear HF a; intro a HF
 refine HF.cases 9 rfl (fun cc1 HF1 => ?_) (fun cc1 HF1 => ?_)
 ·clear HF; have HF := HF1; clear HF1
  have q1 : okR (dsOf ps) = false := by simpa using cc1
  refine wl_skip HF rfl rfl rfl rfl rfl rfl ?_; clear HF a; intro a HF
  refine wl_skip HF rfl rfl rfl rfl rfl rfl ?_; clear HF a; intro a HF
  refine wl_skip HF rfl rfl rfl rfl rfl rfl ?_; clear HF a; intro a HF
  refine wl_y rfl HF rfl rfl (yl_pick_t rfl (HF.ev rfl) (HF.ev rfl)) ?_; clear HF a; intro a HF
  refine wl_mv HF rfl rfl rfl rfl rfl ?_; clear HF a; intro a HF
  refine wl_skip HF rfl rfl rfl rfl rfl rfl ?_; clear HF a; intro a HF
  refine wl_skip HF rfl rfl rfl rfl rfl rfl ?_; clear HF a; intro a HF
  refine wl_y rfl HF rfl rfl (yl_pick_t rfl (HF.ev rfl) (HF.ev rfl)) ?_; clear HF a; intro a HF
  refine wl_ne ?_
  refine wc_true HF rfl ?_
  refine wp_sr ?_
  refine wl_as HF rfl rfl rfl rfl rfl ?_; clear HF a; intro a HF
  refine wl_as HF rfl rfl rfl rfl rfl ?_; clear HF a; intro a HF
  refine wl_ne ?_
  refine wp_ret ?_
  refine ex_then_ret ?_
  refine bp_ret2 HF Try.results16 (HF.res rfl) (HF.res rfl) ?_
  have hfn : readR (dsOf ps) p = (ByteArray.empty, false) := by unfold readR; rw [q1]; simp
  exact ⟨by rw [hfn] <;> rfl, HS.out.bel⟩
 ·clear HF; have HF := HF1; clear HF1
  have q1 : okR (dsOf ps) = true := by simpa using cc1
  refine wl_yg HF rfl rfl rfl rfl rfl (yl_loadR (cs := [.int .i64 p.fAt, .int .i64 p.fBirth, .int .i64 p.fSize, .int .i64 p.fSum, .int .i64 p.fLevel]) rfl (HF.ev rfl) ((HS.out.box 0 rfl).sub 0 5) (by kernel_rfl)) ?_; clear HF a; intro a HF
  refine wl_callBg HF rfl rfl rfl rfl (enter_of Try.func60 (by kernel_rfl) rfl) (args := #[.agg #[.int .i64 p.fAt, .int .i64 p.fBirth, .int .i64 p.fSize, .int .i64 p.fSum, .int .i64 p.fLevel]]) rfl (v := .bool p.ok) (implPtrOk_any p _) rfl rfl HS.out ?_; clear HF HS a; intro w4 a HS HF; replace HS := Bx.mk HS
  refine wl_yg HF rfl rfl rfl rfl rfl (yl_not rfl (HF.ev rfl)) ?_; clear HF a; intro a HF
  refine wl_y rfl HF rfl rfl (yl_pick_f rfl (HF.ev rfl) (HF.ev rfl)) ?_; clear HF a; intro a HF
  refine wl_mv HF rfl rfl rfl rfl rfl ?_; clear HF a; intro a HF
  refine HF.cases 14 rfl (fun cc2 HF1 => ?_) (fun cc2 HF1 => ?_)
  ·clear HF; have HF := HF1; clear HF1
   have q2 : p.ok = false := by simpa using cc2
   refine wl_skip HF rfl rfl rfl rfl rfl rfl ?_; clear HF a; intro a HF
   refine wl_skip HF rfl rfl rfl rfl rfl rfl ?_; clear HF a; intro a HF
   refine wl_y rfl HF rfl rfl (yl_pick_t rfl (HF.ev rfl) (HF.ev rfl)) ?_; clear HF a; intro a HF
   refine wl_ne ?_
   refine wc_true HF rfl ?_
   refine wp_sr ?_
   refine wl_as HF rfl rfl rfl rfl rfl ?_; clear HF a; intro a HF
   refine wl_as HF rfl rfl rfl rfl rfl ?_; clear HF a; intro a HF
   refine wl_ne ?_
   refine wp_ret ?_
   refine ex_then_ret ?_
   refine bp_ret2 HF Try.results16 (HF.res rfl) (HF.res rfl) ?_
   have hfn : readR (dsOf ps) p = (ByteArray.empty, false) := by unfold readR; rw [q1, q2]; simp
   exact ⟨by rw [hfn] <;> rfl, HS.out.bel⟩
  ·clear HF; have HF := HF1; clear HF1
   have q2 : p.ok = true := by simpa using cc2
   refine wl_yg HF rfl rfl rfl rfl rfl (yl_loadR (cs := [.int .i64 p.fAt, .int .i64 p.fBirth, .int .i64 p.fSize, .int .i64 p.fSum, .int .i64 p.fLevel]) rfl (HF.ev rfl) ((HS.out.box 0 rfl).sub 0 5) (by kernel_rfl)) ?_; clear HF a; intro a HF
   refine wl_callBg HF rfl rfl rfl rfl (enter_of Try.func63 (by kernel_rfl) rfl) (args := #[.agg #[.int .i64 p.fAt, .int .i64 p.fBirth, .int .i64 p.fSize, .int .i64 p.fSum, .int .i64 p.fLevel]]) rfl (v := .bool p.hole) (implHole_any p _) rfl rfl HS.out ?_; clear HF HS a; intro w5 a HS HF; replace HS := Bx.mk HS
   refine wl_y rfl HF rfl rfl (yl_pick_f rfl (HF.ev rfl) (HF.ev rfl)) ?_; clear HF a; intro a HF
   refine wl_ne ?_
   refine HF.cases 17 rfl (fun cc3 HF1 => ?_) (fun cc3 HF1 => ?_)
   ·clear HF; have HF := HF1; clear HF1
    have q3 : p.hole = true := by simpa using cc3
    refine wc_true HF rfl ?_
    refine wp_sr ?_
    refine wl_as HF rfl rfl rfl rfl rfl ?_; clear HF a; intro a HF
    refine wl_as HF rfl rfl rfl rfl rfl ?_; clear HF a; intro a HF
    refine wl_ne ?_
    refine wp_ret ?_
    refine ex_then_ret ?_
    refine bp_ret2 HF Try.results16 (HF.res rfl) (HF.res rfl) ?_
    have hfn : readR (dsOf ps) p = (ByteArray.empty, false) := by unfold readR; rw [q1, q2, q3]; simp
    exact ⟨by rw [hfn] <;> rfl, HS.out.bel⟩
   ·clear HF; have HF := HF1; clear HF1
    have q3 : p.hole = false := by simpa using cc3
    refine wc_false HF rfl ?_
    refine wp_skip ?_
    refine ex_then ?_
    refine wp_sr ?_
    refine wl_y rfl HF rfl rfl (yl_loadR (cs := [.slice a0 ps.length c0]) rfl (HF.ev rfl) ((HS.out.box 1 rfl).sub 0 1) (by kernel_rfl)) ?_; clear HF a; intro a HF
    refine wl_y rfl HF rfl rfl (yl_loadR (cs := [.int .i64 p.fAt, .int .i64 p.fBirth, .int .i64 p.fSize, .int .i64 p.fSum, .int .i64 p.fLevel]) rfl (HF.ev rfl) ((HS.out.box 0 rfl).sub 0 5) (by kernel_rfl)) ?_; clear HF a; intro a HF
    refine wl_callB rfl HF rfl (enter_of Try.func64 (by kernel_rfl) rfl) (args := #[.agg #[.slice a0 ps.length c0], .agg #[.int .i64 p.fAt, .int .i64 p.fBirth, .int .i64 p.fSize, .int .i64 p.fSum, .int .i64 p.fLevel]]) rfl (v := .tuple #[.string ((readD (dsOf ps) p).1), .bool ((readD (dsOf ps) p).2)]) (readD_any a0 c0 ps _ q1 p q2 q3 (HR.out.below HS.out.bel) (fun k hk => (HP.out k hk).below HS.out.bel)) rfl rfl HS.out ?_; clear HF HS a; intro w6 a HS HF; replace HS := Bx.mk HS
    refine wl_y rfl HF rfl rfl (yl_extract rfl (HF.ev rfl) rfl) ?_; clear HF a; intro a HF
    refine wl_y rfl HF rfl rfl (yl_extract rfl (HF.ev rfl) rfl) ?_; clear HF a; intro a HF
    refine wl_as HF rfl rfl rfl rfl rfl ?_; clear HF a; intro a HF
    refine wl_as HF rfl rfl rfl rfl rfl ?_; clear HF a; intro a HF
    refine wl_ne ?_
    refine wp_ret ?_
    refine bp_ret2 HF Try.results16 (HF.res rfl) (HF.res rfl) ?_
    have hfn : readR (dsOf ps) p = readD (dsOf ps) p := by unfold readR; rw [q1, q2, q3]; simp
    exact ⟨by rw [hfn] <;> rfl, HS.out.bel⟩

end Go.Proofs.Ytfijfjjleelphaa

/- A round over the disks, by a function value. -/
namespace Go.Proofs.Ytfijfjjleelphaa
set_option maxHeartbeats 1000000
set_option maxRecDepth 100000
open Go.RowKit

theorem each_any (w0 w : World) (a0 : Option Addr) (c0 : Nat) (ps : List HD) (f : FuncId) (caps : Array Value) (step : Nat → DiskD → Option DiskD) (C : Nat → List Asr) (F : List Asr) (hl : ps.length ≤ 1048576) (HE : ∀ (args : Array Value) (w : World), (callFunc f args).run Try.prog w = .ok (.enter f args) w) (hR : Rd HD.cells 3 w0 a0 ps.length ps) (hf : ∀ k, k < ps.length → ∀ (w : World) (X : List Asr), (∃ xs, eachTo step (dsOf ps) k = some xs) → St w0 (C k ++ X) w → Calls Try.prog f (#[] ++ #[.int .i64 (k : Int), .agg #[.slice ((ps.getD k default).a0) ((ps.getD k default).d.fCells.length) ((ps.getD k default).c0), .slice ((ps.getD k default).a1) ((ps.getD k default).d.fWaits.length) ((ps.getD k default).c1), .bool ((ps.getD k default).d.fGone)]] ++ caps) w fun e w' => (step k (ps.getD k default).d = none ∧ ∃ q : HD, e = .returned (.tuple #[.agg #[.slice q.a0 q.d.fCells.length q.c0, .slice q.a1 q.d.fWaits.length q.c1, .bool q.d.fGone], .bool false]) ∧ St w0 X w') ∨ (∃ q : HD, step k (ps.getD k default).d = some q.d ∧ e = .returned (.tuple #[.agg #[.slice q.a0 q.d.fCells.length q.c0, .slice q.a1 q.d.fWaits.length q.c1, .bool q.d.fGone], .bool true]) ∧ St w0 (q.asr :: (C (k + 1) ++ X)) w')) (hS : St w0 (C 0 ++ F) w) : Calls Try.prog 47 #[.agg #[.slice a0 ps.length c0], .func (.func f) #[] caps] w fun e w' => (eachTo step (dsOf ps) ps.length = none ∧ e = .returned (.tuple #[.agg #[.slice none 0 0], .bool false]) ∧ St w0 F w') ∨ (∃ ao cp qs, eachTo step (dsOf ps) ps.length = some (dsOf qs) ∧ e = .returned (.tuple #[.agg #[.slice ao qs.length cp], .bool true]) ∧ St w0 (rowA HD.cells 3 44 (.slice ao qs.length cp) qs :: sepA (qs.map HD.asr) :: (C ps.length ++ F)) w') := by
 have HR := Bx.mk hR; have HF0 := Bx.mk hf; clear hR hf
 have HS := Bx.mk hS; clear hS
 refine wc_enter Try.func47 rfl Try.ntmps47 [(0, .agg #[.slice a0 ps.length c0]), (1, .func (.func f) #[] caps)] ⟨rfl, rfl, trivial⟩ rfl ?_; intro a HF
 refine wp_sr ?_
 refine wl_box rfl HF rfl (HF.ev rfl) (Z := [.slice a0 ps.length c0]) rfl rfl rfl rfl HS.out ?_; clear HF HS a; intro a w1 b1 HF HS; replace HS := Bx.mk HS
 refine wl_alloc rfl HF rfl rfl rfl (Z := [.slice none 0 0]) (by kernel_rfl) rfl HS.out ?_; clear HF HS a; intro a w2 b2 HF HS; replace HS := Bx.mk HS
 refine wl_as HF rfl rfl rfl rfl rfl ?_; clear HF a; intro a HF
 refine wl_ne ?_
 refine wp_sr ?_
 refine wl_alloc rfl HF rfl rfl rfl (Z := [.slice none 0 0]) (by kernel_rfl) rfl HS.out ?_; clear HF HS a; intro a w3 b3 HF HS; replace HS := Bx.mk HS
 refine wl_ne ?_
 refine wp_seq ?_
 refine wp_sr ?_
 refine wl_y rfl HF rfl rfl (yl_fieldAddr (j := 0) rfl (HF.ev rfl) (by kernel_rfl)) ?_; clear HF a; intro a HF
 refine wl_y rfl HF rfl rfl (yl_load (v := .slice a0 ps.length c0) rfl (HF.ev rfl) (((HS.out.box 2 rfl).cell 0).trans rfl) (by kernel_rfl)) ?_; clear HF a; intro a HF
 refine wl_y rfl HF rfl rfl (yl_lenL (e := 44) (size := 3) rfl (HF.ev rfl) (by kernel_rfl)) ?_; clear HF a; intro a HF
 refine wl_mv HF rfl rfl rfl rfl rfl ?_; clear HF a; intro a HF
 refine wl_ne ?_
 refine wp_block ?_
 replace HS := Bx.mk ((HS.out.hdNil).nilRow HD.cells 3 44 none)
 refine wc_loop (ι := Nat) (fun k a w => ∃ (ao : Option Addr) (cp : Nat) (qs : List HD), (k ≤ ps.length ∧ qs.length = k ∧ eachTo step (dsOf ps) k = some (dsOf qs)) ∧ Fr 37 a [(1, .func (.func f) #[] caps), (2, .pointer (some ⟨b1, 0, none⟩)), (4, .pointer (some ⟨b2, 0, none⟩)), (5, .bool false), (6, .pointer (some ⟨b3, 0, none⟩)), (12, .slice a0 ps.length c0), (13, .int .i64 (ps.length : Int)), (14, .int .i64 (k : Int))] ∧ St w0 (rowA HD.cells 3 44 (.slice ao qs.length cp) qs :: sepA (qs.map HD.asr) :: boxA b3 1 25 (.agg #[.slice ao qs.length cp]) :: boxA b2 1 25 (.agg #[.slice none 0 0]) :: boxA b1 1 25 (.agg #[.slice a0 ps.length c0]) :: (C k ++ F)) w) (fun k => ps.length - k) 0 ⟨_, _, [], ⟨Nat.zero_le _, rfl, rfl⟩, HF.less _ ⟨rfl, rfl, rfl, rfl, rfl, rfl, rfl, rfl, trivial⟩, HS.out⟩ ?_
 clear HF HS; clear a
 rintro k a w4 ⟨ao, cp, qs, ⟨hk, hql, hq⟩, HF, HS⟩
 replace HS := Bx.mk HS
 refine wp_sr ?_
 refine wl_y rfl HF rfl rfl (yl_lssI rfl (HF.ev rfl) (HF.ev rfl)) ?_; clear HF a; intro a HF
 refine wl_ne ?_
 refine wp_seq ?_
 refine HF.cases 15 rfl (fun cc1 HF1 => ?_) (fun cc1 HF1 => ?_)
 ·clear HF; have HF := HF1; clear HF1
  have dcc1 := of_decide_eq_true cc1
  refine wc_true HF rfl ?_
  refine wp_skip ?_
  refine ex_then ?_
  refine wp_seq ?_
  refine wp_block ?_
  refine wp_seq ?_
  obtain ⟨g0, o0, r0⟩ := HR.out.opn; have R0 := Bx.mk r0; clear r0
  refine wp_region_lit ?_
  refine wl_mv HF rfl rfl rfl rfl rfl ?_; clear HF a; intro a HF
  refine wl_y rfl HF rfl rfl (yl_indexAddrR (e := 44) (i := k) (size := 3) rfl (HF.ev rfl) (HF.ev rfl) (by kernel_rfl) rfl (by omega) (R0.out.ao k (by omega))) ?_; clear HF a; intro a HF
  refine wl_y rfl HF rfl rfl (yl_loadR (cs := [.slice ((ps.getD k default).a0) ((ps.getD k default).d.fCells.length) ((ps.getD k default).c0), .slice ((ps.getD k default).a1) ((ps.getD k default).d.fWaits.length) ((ps.getD k default).c1), .bool ((ps.getD k default).d.fGone)]) rfl (HF.ev rfl) (R0.out.elem HS.out (get_getD (xs := ps) (j := k) (d := default) (by omega))) (by kernel_rfl)) ?_; clear HF a; intro a HF
  refine wl_alloc rfl HF rfl rfl rfl (Z := [.slice none 0 0, .slice none 0 0, .bool false]) (by kernel_rfl) rfl HS.out ?_; clear HF HS a; intro a w5 b4 HF HS; replace HS := Bx.mk HS
  refine wl_as HF rfl rfl rfl rfl rfl ?_; clear HF a; intro a HF
  refine wl_storeBox rfl HF rfl rfl (HF.ev rfl) (HF.ev rfl) HS.out 0 rfl (cells_lit [.slice ((ps.getD k default).a0) ((ps.getD k default).d.fCells.length) ((ps.getD k default).c0), .slice ((ps.getD k default).a1) ((ps.getD k default).d.fWaits.length) ((ps.getD k default).c1), .bool ((ps.getD k default).d.fGone)] rfl rfl) (by kernel_rfl) ?_; clear HS; intro w6 HS; replace HS := Bx.mk HS
  have HS : Bx (St w0 (boxA b4 3 44 (.agg #[.slice ((ps.getD k default).a0) ((ps.getD k default).d.fCells.length) ((ps.getD k default).c0), .slice ((ps.getD k default).a1) ((ps.getD k default).d.fWaits.length) ((ps.getD k default).c1), .bool ((ps.getD k default).d.fGone)]) :: rowA HD.cells 3 44 (.slice ao qs.length cp) qs :: sepA (qs.map HD.asr) :: boxA b3 1 25 (.agg #[.slice ao qs.length cp]) :: boxA b2 1 25 (.agg #[.slice none 0 0]) :: boxA b1 1 25 (.agg #[.slice a0 ps.length c0]) :: (C k ++ F)) _) := HS
  refine wl_ne ?_
  refine wp_sr ?_
  refine wl_mv HF rfl rfl rfl rfl rfl ?_; clear HF a; intro a HF
  refine wl_mv HF rfl rfl rfl rfl rfl ?_; clear HF a; intro a HF
  refine wl_y rfl HF rfl rfl (yl_loadR (cs := [.slice ((ps.getD k default).a0) ((ps.getD k default).d.fCells.length) ((ps.getD k default).c0), .slice ((ps.getD k default).a1) ((ps.getD k default).d.fWaits.length) ((ps.getD k default).c1), .bool ((ps.getD k default).d.fGone)]) rfl (HF.ev rfl) ((HS.out.box 0 rfl).sub 0 3) (by kernel_rfl)) ?_; clear HF a; intro a HF
  refine wl_callv rfl HF rfl (HF.ev rfl) HE (args := #[.int .i64 (k : Int), .agg #[.slice ((ps.getD k default).a0) ((ps.getD k default).d.fCells.length) ((ps.getD k default).c0), .slice ((ps.getD k default).a1) ((ps.getD k default).d.fWaits.length) ((ps.getD k default).c1), .bool ((ps.getD k default).d.fGone)]]) rfl (HF0.out k (by omega) _ ([boxA b4 3 44 (.agg #[.slice ((ps.getD k default).a0) ((ps.getD k default).d.fCells.length) ((ps.getD k default).c0), .slice ((ps.getD k default).a1) ((ps.getD k default).d.fWaits.length) ((ps.getD k default).c1), .bool ((ps.getD k default).d.fGone)]), rowA HD.cells 3 44 (.slice ao qs.length cp) qs, sepA (qs.map HD.asr), boxA b3 1 25 (.agg #[.slice ao qs.length cp]), boxA b2 1 25 (.agg #[.slice none 0 0]), boxA b1 1 25 (.agg #[.slice a0 ps.length c0])] ++ F) ⟨_, hq⟩ (St.midl (L := [boxA b4 3 44 (.agg #[.slice ((ps.getD k default).a0) ((ps.getD k default).d.fCells.length) ((ps.getD k default).c0), .slice ((ps.getD k default).a1) ((ps.getD k default).d.fWaits.length) ((ps.getD k default).c1), .bool ((ps.getD k default).d.fGone)]), rowA HD.cells 3 44 (.slice ao qs.length cp) qs, sepA (qs.map HD.asr), boxA b3 1 25 (.agg #[.slice ao qs.length cp]), boxA b2 1 25 (.agg #[.slice none 0 0]), boxA b1 1 25 (.agg #[.slice a0 ps.length c0])]) HS.out)) rfl rfl ?_
  rintro _ w7 (⟨hev, q, rfl, hs⟩ | ⟨q, hev, rfl, hs⟩)
  ·skip
   refine ⟨_, rfl, ?_⟩; replace HS := Bx.mk hs; clear hs HF; clear a; intro a HF
   replace HS : Bx (St w0 (boxA b4 3 44 (.agg #[.slice ((ps.getD k default).a0) ((ps.getD k default).d.fCells.length) ((ps.getD k default).c0), .slice ((ps.getD k default).a1) ((ps.getD k default).d.fWaits.length) ((ps.getD k default).c1), .bool ((ps.getD k default).d.fGone)]) :: rowA HD.cells 3 44 (.slice ao qs.length cp) qs :: sepA (qs.map HD.asr) :: boxA b3 1 25 (.agg #[.slice ao qs.length cp]) :: boxA b2 1 25 (.agg #[.slice none 0 0]) :: boxA b1 1 25 (.agg #[.slice a0 ps.length c0]) :: F) _) := ⟨HS.out⟩
   refine wl_mv HF rfl rfl rfl rfl rfl ?_; clear HF a; intro a HF
   refine wl_y rfl HF rfl rfl (yl_extract rfl (HF.ev rfl) rfl) ?_; clear HF a; intro a HF
   refine wl_y rfl HF rfl rfl (yl_extract rfl (HF.ev rfl) rfl) ?_; clear HF a; intro a HF
   refine wl_alloc rfl HF rfl rfl rfl (Z := [.slice none 0 0, .slice none 0 0, .bool false]) (by kernel_rfl) rfl HS.out ?_; clear HF HS a; intro a w8 b5 HF HS; replace HS := Bx.mk HS
   refine wl_storeBox rfl HF rfl rfl (HF.ev rfl) (HF.ev rfl) HS.out 0 rfl (cells_lit [.slice q.a0 q.d.fCells.length q.c0, .slice q.a1 q.d.fWaits.length q.c1, .bool q.d.fGone] rfl rfl) (by kernel_rfl) ?_; clear HS; intro w9 HS; replace HS := Bx.mk HS
   have HS : Bx (St w0 (boxA b5 3 44 (.agg #[.slice q.a0 q.d.fCells.length q.c0, .slice q.a1 q.d.fWaits.length q.c1, .bool q.d.fGone]) :: boxA b4 3 44 (.agg #[.slice ((ps.getD k default).a0) ((ps.getD k default).d.fCells.length) ((ps.getD k default).c0), .slice ((ps.getD k default).a1) ((ps.getD k default).d.fWaits.length) ((ps.getD k default).c1), .bool ((ps.getD k default).d.fGone)]) :: rowA HD.cells 3 44 (.slice ao qs.length cp) qs :: sepA (qs.map HD.asr) :: boxA b3 1 25 (.agg #[.slice ao qs.length cp]) :: boxA b2 1 25 (.agg #[.slice none 0 0]) :: boxA b1 1 25 (.agg #[.slice a0 ps.length c0]) :: F) _) := HS
   refine wl_as HF rfl rfl rfl rfl rfl ?_; clear HF a; intro a HF
   refine wl_ne ?_
   refine wp_seq ?_
   refine wp_sr ?_
   refine wl_mv HF rfl rfl rfl rfl rfl ?_; clear HF a; intro a HF
   refine wl_y rfl HF rfl rfl (yl_not rfl (HF.ev rfl)) ?_; clear HF a; intro a HF
   refine wl_ne ?_
   refine wc_true HF rfl ?_
   refine wp_sr ?_
   refine wl_y rfl HF rfl rfl (yl_build HF rfl (ps := []) rfl (cs := #[.slice none 0 0]) (by kernel_rfl)) ?_; clear HF a; intro a HF
   refine wl_storeBox rfl HF rfl rfl (HF.ev rfl) (HF.ev rfl) HS.out 5 rfl (cells_lit [.slice none 0 0] rfl rfl) (by kernel_rfl) ?_; clear HS; intro w10 HS; replace HS := Bx.mk HS
   have HS : Bx (St w0 (boxA b5 3 44 (.agg #[.slice q.a0 q.d.fCells.length q.c0, .slice q.a1 q.d.fWaits.length q.c1, .bool q.d.fGone]) :: boxA b4 3 44 (.agg #[.slice ((ps.getD k default).a0) ((ps.getD k default).d.fCells.length) ((ps.getD k default).c0), .slice ((ps.getD k default).a1) ((ps.getD k default).d.fWaits.length) ((ps.getD k default).c1), .bool ((ps.getD k default).d.fGone)]) :: rowA HD.cells 3 44 (.slice ao qs.length cp) qs :: sepA (qs.map HD.asr) :: boxA b3 1 25 (.agg #[.slice ao qs.length cp]) :: boxA b2 1 25 (.agg #[.slice none 0 0]) :: boxA b1 1 25 (.agg #[.slice a0 ps.length c0]) :: F) _) := HS
   refine wl_as HF rfl rfl rfl rfl rfl ?_; clear HF a; intro a HF
   refine wl_ne ?_
   refine wp_ret ?_
   refine ex_then_ret ?_
   refine ex_block_ret ?_
   refine ex_then_ret ?_
   refine ex_then_ret ?_
   refine ex_block_ret ?_
   refine ex_then_ret ?_
   refine bp_ret2 HF Try.results47 (HF.resBox rfl (HS.out.box 5 rfl) (by kernel_rfl)) (HF.res rfl) ?_
   exact .inl ⟨eachTo_fail (k := k) (by rw [dsOf_get]; exact hev) (by omega), rfl, (((((((HS.out.erase 6).erase 5).erase 4).erase 3).erase 2).erase 1).erase 0)⟩
  ·skip
   refine ⟨_, rfl, ?_⟩; replace HS := Bx.mk (St.midl (L := C (k + 1)) (C := HD.asr q :: [boxA b4 3 44 (.agg #[.slice ((ps.getD k default).a0) ((ps.getD k default).d.fCells.length) ((ps.getD k default).c0), .slice ((ps.getD k default).a1) ((ps.getD k default).d.fWaits.length) ((ps.getD k default).c1), .bool ((ps.getD k default).d.fGone)]), rowA HD.cells 3 44 (.slice ao qs.length cp) qs, sepA (qs.map HD.asr), boxA b3 1 25 (.agg #[.slice ao qs.length cp]), boxA b2 1 25 (.agg #[.slice none 0 0]), boxA b1 1 25 (.agg #[.slice a0 ps.length c0])]) (St.midl (L := [HD.asr q]) hs)); clear hs HF; clear a; intro a HF
   replace HS : Bx (St w0 (HD.asr q :: boxA b4 3 44 (.agg #[.slice ((ps.getD k default).a0) ((ps.getD k default).d.fCells.length) ((ps.getD k default).c0), .slice ((ps.getD k default).a1) ((ps.getD k default).d.fWaits.length) ((ps.getD k default).c1), .bool ((ps.getD k default).d.fGone)]) :: rowA HD.cells 3 44 (.slice ao qs.length cp) qs :: sepA (qs.map HD.asr) :: boxA b3 1 25 (.agg #[.slice ao qs.length cp]) :: boxA b2 1 25 (.agg #[.slice none 0 0]) :: boxA b1 1 25 (.agg #[.slice a0 ps.length c0]) :: (C (k + 1) ++ F)) _) := ⟨HS.out⟩
   refine wl_mv HF rfl rfl rfl rfl rfl ?_; clear HF a; intro a HF
   refine wl_y rfl HF rfl rfl (yl_extract rfl (HF.ev rfl) rfl) ?_; clear HF a; intro a HF
   refine wl_y rfl HF rfl rfl (yl_extract rfl (HF.ev rfl) rfl) ?_; clear HF a; intro a HF
   refine wl_alloc rfl HF rfl rfl rfl (Z := [.slice none 0 0, .slice none 0 0, .bool false]) (by kernel_rfl) rfl HS.out ?_; clear HF HS a; intro a w11 b6 HF HS; replace HS := Bx.mk HS
   refine wl_storeBox rfl HF rfl rfl (HF.ev rfl) (HF.ev rfl) HS.out 0 rfl (cells_lit [.slice q.a0 q.d.fCells.length q.c0, .slice q.a1 q.d.fWaits.length q.c1, .bool q.d.fGone] rfl rfl) (by kernel_rfl) ?_; clear HS; intro w12 HS; replace HS := Bx.mk HS
   have HS : Bx (St w0 (boxA b6 3 44 (.agg #[.slice q.a0 q.d.fCells.length q.c0, .slice q.a1 q.d.fWaits.length q.c1, .bool q.d.fGone]) :: HD.asr q :: boxA b4 3 44 (.agg #[.slice ((ps.getD k default).a0) ((ps.getD k default).d.fCells.length) ((ps.getD k default).c0), .slice ((ps.getD k default).a1) ((ps.getD k default).d.fWaits.length) ((ps.getD k default).c1), .bool ((ps.getD k default).d.fGone)]) :: rowA HD.cells 3 44 (.slice ao qs.length cp) qs :: sepA (qs.map HD.asr) :: boxA b3 1 25 (.agg #[.slice ao qs.length cp]) :: boxA b2 1 25 (.agg #[.slice none 0 0]) :: boxA b1 1 25 (.agg #[.slice a0 ps.length c0]) :: (C (k + 1) ++ F)) _) := HS
   refine wl_as HF rfl rfl rfl rfl rfl ?_; clear HF a; intro a HF
   refine wl_ne ?_
   refine wp_seq ?_
   refine wp_sr ?_
   refine wl_mv HF rfl rfl rfl rfl rfl ?_; clear HF a; intro a HF
   refine wl_y rfl HF rfl rfl (yl_not rfl (HF.ev rfl)) ?_; clear HF a; intro a HF
   refine wl_ne ?_
   refine wc_false HF rfl ?_
   refine wp_skip ?_
   refine ex_then ?_
   refine wp_region_lit ?_
   refine wl_y rfl HF rfl rfl (yl_fieldAddr (j := 0) rfl (HF.ev rfl) (by kernel_rfl)) ?_; clear HF a; intro a HF
   refine wl_y rfl HF rfl rfl (yl_load (v := .slice ao qs.length cp) rfl (HF.ev rfl) (((HS.out.box 5 rfl).cell 0).trans rfl) (by kernel_rfl)) ?_; clear HF a; intro a HF
   refine wl_y rfl HF rfl rfl (yl_loadR (cs := [.slice q.a0 q.d.fCells.length q.c0, .slice q.a1 q.d.fWaits.length q.c1, .bool q.d.fGone]) rfl (HF.ev rfl) ((HS.out.box 0 rfl).sub 0 3) (by kernel_rfl)) ?_; clear HF a; intro a HF
   refine wl_buildS (enc := HD.cells) (e := 44) (size := 3) rfl HF rfl rfl rfl (ps := [(0, .agg #[.slice q.a0 q.d.fCells.length q.c0, .slice q.a1 q.d.fWaits.length q.c1, .bool q.d.fGone])]) rfl (cells := [.slice q.a0 q.d.fCells.length q.c0, .slice q.a1 q.d.fWaits.length q.c1, .bool q.d.fGone]) (by kernel_rfl) [q] rfl rfl (by unfold maxLen; omega) rfl HS.out ?_; clear HF HS a; intro b7 a w13 HF HS; replace HS := Bx.mk HS
   refine wl_appL rfl HF rfl rfl rfl (HF.ev rfl) (HF.ev rfl) elemD HD.cells_len HS.out 4 (xs := qs) rfl (ys := [q]) (St.rdN HS.out HD.cells_len 0 rfl) (cells_one_D _) (by unfold maxLen; simp only [List.length_cons, List.length_nil]; omega) (by simp only [List.length_cons, List.length_nil]; omega) ?_; clear HF HS a; intro ao8 cp9 w14 a HF HS; replace HS := Bx.mk HS
   replace HS : Bx (St w0 (rowA HD.cells 3 44 (.slice (some ⟨b7, 0, none⟩) 1 1) ([q]) :: boxA b6 3 44 (.agg #[.slice q.a0 q.d.fCells.length q.c0, .slice q.a1 q.d.fWaits.length q.c1, .bool q.d.fGone]) :: HD.asr q :: boxA b4 3 44 (.agg #[.slice ((ps.getD k default).a0) ((ps.getD k default).d.fCells.length) ((ps.getD k default).c0), .slice ((ps.getD k default).a1) ((ps.getD k default).d.fWaits.length) ((ps.getD k default).c1), .bool ((ps.getD k default).d.fGone)]) :: rowA HD.cells 3 44 (.slice ao8 (qs.length + ([q]).length) cp9) (qs ++ ([q])) :: sepA (qs.map HD.asr) :: boxA b3 1 25 (.agg #[.slice ao qs.length cp]) :: boxA b2 1 25 (.agg #[.slice none 0 0]) :: boxA b1 1 25 (.agg #[.slice a0 ps.length c0]) :: (C (k + 1) ++ F)) _) := ⟨HS.out⟩
   refine wl_y rfl HF rfl rfl (yl_fieldAddr (j := 0) rfl (HF.ev rfl) (by kernel_rfl)) ?_; clear HF a; intro a HF
   refine wl_storeF rfl rfl rfl (HF.ev rfl) (HF.ev rfl) (by kernel_rfl) HS.out 6 rfl rfl rfl ?_; clear HS; intro w15 HS; replace HS := Bx.mk HS
   have HS : Bx (St w0 (rowA HD.cells 3 44 (.slice (some ⟨b7, 0, none⟩) 1 1) ([q]) :: boxA b6 3 44 (.agg #[.slice q.a0 q.d.fCells.length q.c0, .slice q.a1 q.d.fWaits.length q.c1, .bool q.d.fGone]) :: HD.asr q :: boxA b4 3 44 (.agg #[.slice ((ps.getD k default).a0) ((ps.getD k default).d.fCells.length) ((ps.getD k default).c0), .slice ((ps.getD k default).a1) ((ps.getD k default).d.fWaits.length) ((ps.getD k default).c1), .bool ((ps.getD k default).d.fGone)]) :: rowA HD.cells 3 44 (.slice ao8 (qs.length + ([q]).length) cp9) (qs ++ ([q])) :: sepA (qs.map HD.asr) :: boxA b3 1 25 (.agg #[.slice ao8 (qs.length + ([q]).length) cp9]) :: boxA b2 1 25 (.agg #[.slice none 0 0]) :: boxA b1 1 25 (.agg #[.slice a0 ps.length c0]) :: (C (k + 1) ++ F)) _) := HS
   refine wpList_nil ?_
   refine ex_block ?_
   refine ex_then ?_
   refine wp_region_lit ?_
   refine wl_y rfl HF rfl rfl (yl_addI rfl (HF.ev rfl) (HF.ev rfl) (i64w (by omega))) ?_; clear HF a; intro a HF
   refine wl_mv HF rfl rfl rfl rfl rfl ?_; clear HF a; intro a HF
   refine wl_ne ?_
   have hz : qs.length + [q].length = (qs ++ [q]).length := (List.length_append ..).symm
   rw [hz] at HS
   replace HS := Bx.mk (St.hdSnoc (((HS.out).pick 5 rfl).pick 3 rfl))
   replace HS := Bx.mk ((((((((((HS.out).pick 7 rfl).pick 7 rfl).pick 7 rfl).pick 3 rfl).pick 7 rfl).erase 7).erase 6).erase 5))
   have hnext : eachTo step (dsOf ps) (k + 1) = some (dsOf (qs ++ [q])) := by rw [dsOf_append]; exact eachTo_next (x := q.d) hq (by rw [dsOf_get]; exact hev)
   exact ⟨k + 1, ⟨_, _, qs ++ [q], ⟨by omega, by rw [List.length_append]; show qs.length + 1 = k + 1; omega, hnext⟩, HF.less _ ⟨rfl, rfl, rfl, rfl, rfl, rfl, rfl, rfl, trivial⟩, HS.out⟩, (by omega)⟩
 ·clear HF; have HF := HF1; clear HF1
  have dcc1 := of_decide_eq_false cc1
  refine wc_false HF rfl ?_
  refine wp_exit ?_
  refine ex_then_exit ?_
  refine ex_then_exit ?_
  refine ex_block_hit ?_
  refine ex_then ?_
  refine wp_sr ?_
  refine wl_y rfl HF rfl rfl (yl_loadR (cs := [.slice ao qs.length cp]) rfl (HF.ev rfl) ((HS.out.box 2 rfl).sub 0 1) (by kernel_rfl)) ?_; clear HF a; intro a HF
  refine wl_storeBox rfl HF rfl rfl (HF.ev rfl) (HF.ev rfl) HS.out 3 rfl (cells_lit [.slice ao qs.length cp] rfl rfl) (by kernel_rfl) ?_; clear HS; intro w16 HS; replace HS := Bx.mk HS
  have HS : Bx (St w0 (rowA HD.cells 3 44 (.slice ao qs.length cp) qs :: sepA (qs.map HD.asr) :: boxA b3 1 25 (.agg #[.slice ao qs.length cp]) :: boxA b2 1 25 (.agg #[.slice ao qs.length cp]) :: boxA b1 1 25 (.agg #[.slice a0 ps.length c0]) :: (C k ++ F)) _) := HS
  refine wl_as HF rfl rfl rfl rfl rfl ?_; clear HF a; intro a HF
  refine wl_ne ?_
  refine wp_ret ?_
  refine bp_ret2 HF Try.results47 (HF.resBox rfl (HS.out.box 3 rfl) (by kernel_rfl)) (HF.res rfl) ?_
  replace HS : Bx (St w0 (rowA HD.cells 3 44 (.slice ao qs.length cp) qs :: sepA (qs.map HD.asr) :: boxA b3 1 25 (.agg #[.slice ao qs.length cp]) :: boxA b2 1 25 (.agg #[.slice ao qs.length cp]) :: boxA b1 1 25 (.agg #[.slice a0 ps.length c0]) :: (C k ++ F)) _) := ⟨((HS.out).pick 1 rfl).pick 1 rfl⟩
  obtain rfl : k = ps.length := by omega
  exact .inr ⟨_, _, qs, hq, rfl, (((HS.out.erase 4).erase 3).erase 2)⟩

end Go.Proofs.Ytfijfjjleelphaa

/- Healing a set of disks, by the program. -/
namespace Go.Proofs.Ytfijfjjleelphaa
set_option maxHeartbeats 1000000
set_option maxRecDepth 100000
open Go.RowKit

theorem inB_yes {n lo hi : Int} (h1 : lo ≤ n) (h2 : n ≤ hi) : inB n lo hi = true := by
  unfold inB; simp [h1, h2]
end Go.Proofs.Ytfijfjjleelphaa

/- New disks and sets of disks; a set of disks flushed. -/
namespace Go.Proofs.Ytfijfjjleelphaa
set_option maxHeartbeats 1000000
set_option maxRecDepth 100000
open Go.RowKit

theorem diskNew_any (w0 : World) : Calls Try.prog 158 #[] w0 fun e w' => ∃ q : HD, q.d = newD ∧ e = .returned (.agg #[.slice q.a0 q.d.fCells.length q.c0, .slice q.a1 q.d.fWaits.length q.c1, .bool q.d.fGone]) ∧ St w0 [q.asr] w' := by
 have HS := Bx.mk (St.start w0)
 refine wc_enter Try.func158 rfl Try.ntmps158 [] trivial rfl ?_; intro a HF
 refine wp_sr ?_
 refine wl_alloc rfl HF rfl rfl rfl (Z := [.slice none 0 0, .slice none 0 0, .bool false]) (by kernel_rfl) rfl HS.out ?_; clear HF HS a; intro a w1 b1 HF HS; replace HS := Bx.mk HS
 refine wl_ne ?_
 refine wp_sr ?_
 refine wl_makeS (enc := encS) (n := 64) rfl HF rfl rfl rfl elemS (HF.ev rfl) (HF.ev rfl) (by omega) (by omega) (by omega) (by unfold maxLen; omega) ByteArray.empty (by kernel_rfl) rfl rfl HS.out ?_; clear HF HS a; intro b2 a w2 HF HS; replace HS := Bx.mk HS
 refine wl_empty (e := 144) (size := 2) rfl HF rfl rfl rfl (by kernel_rfl) HS.out ?_; clear HF HS a; intro a w3 b3 HF HS; replace HS := Bx.mk HS
 refine wl_y rfl HF rfl rfl (yl_build HF rfl (ps := [(0, .slice (some ⟨b2, 0, none⟩) 64 64), (1, .slice (some ⟨b3, 0, none⟩) 0 0)]) rfl (cs := #[.slice (some ⟨b2, 0, none⟩) 64 64, .slice (some ⟨b3, 0, none⟩) 0 0, .bool false]) (by kernel_rfl)) ?_; clear HF a; intro a HF
 refine wl_storeBox rfl HF rfl rfl (HF.ev rfl) (HF.ev rfl) HS.out 1 rfl (cells_lit [.slice (some ⟨b2, 0, none⟩) 64 64, .slice (some ⟨b3, 0, none⟩) 0 0, .bool false] rfl rfl) (by kernel_rfl) ?_; clear HS; intro w4 HS; replace HS := Bx.mk HS
 have HS : Bx (St w0 ([rowA encS 1 9 (.slice (some ⟨b2, 0, none⟩) 64 64) (List.replicate 64 ByteArray.empty), boxA b1 3 44 (.agg #[.slice (some ⟨b2, 0, none⟩) 64 64, .slice (some ⟨b3, 0, none⟩) 0 0, .bool false])]) _) := HS
 refine wl_ne ?_
 refine wp_ret ?_
 refine bp_ret1 HF Try.results158 (HF.resBox rfl (HS.out.box 1 rfl) (by kernel_rfl)) ?_
 replace HS := Bx.mk (HS.out.nilRow WaitD.cells 2 144 (some ⟨b3, 0, none⟩))
 exact ⟨⟨some ⟨b2, 0, none⟩, 64, some ⟨b3, 0, none⟩, 0, newD⟩, rfl, rfl, (St.join (r := [_, _]) (s := [])).1 (((HS.out.pick 1 rfl).erase 2))⟩

theorem specLose_any (w0 : World) : Calls Try.prog 114 #[] w0 fun e w' => ∃ q : HD, q.d = lostD ∧ e = .returned (.agg #[.slice q.a0 q.d.fCells.length q.c0, .slice q.a1 q.d.fWaits.length q.c1, .bool q.d.fGone]) ∧ St w0 [q.asr] w' := by
 have HS := Bx.mk (St.start w0)
 refine wc_enter Try.func114 rfl Try.ntmps114 [] trivial rfl ?_; intro a HF
 refine wp_sr ?_
 refine wl_alloc rfl HF rfl rfl rfl (Z := [.slice none 0 0, .slice none 0 0, .bool false]) (by kernel_rfl) rfl HS.out ?_; clear HF HS a; intro a w1 b1 HF HS; replace HS := Bx.mk HS
 refine wl_ne ?_
 refine wp_sr ?_
 refine wl_call rfl HF rfl (enter_of Try.func158 (by kernel_rfl) rfl) (args := #[]) rfl (diskNew_any _) rfl rfl ?_
 rintro _ w2 ⟨⟨qa2, qc2, qb2, qe2, qd⟩, hqd, rfl, hs⟩; obtain rfl : qd = newD := hqd; refine ⟨_, rfl, ?_⟩
 replace HS := Bx.mk ((HS.out.add hs)); clear hs HF; clear a; intro a HF
 replace HS : Bx (St w0 ([HD.asr ⟨qa2, qc2, qb2, qe2, newD⟩, boxA b1 3 44 (.agg #[.slice none 0 0, .slice none 0 0, .bool false])]) _) := ⟨HS.out⟩
 refine wl_alloc rfl HF rfl rfl rfl (Z := [.slice none 0 0, .slice none 0 0, .bool false]) (by kernel_rfl) rfl HS.out ?_; clear HF HS a; intro a w3 b3 HF HS; replace HS := Bx.mk HS
 refine wl_storeBox rfl HF rfl rfl (HF.ev rfl) (HF.ev rfl) HS.out 0 rfl (cells_lit [.slice qa2 newD.fCells.length qc2, .slice qb2 newD.fWaits.length qe2, .bool newD.fGone] rfl rfl) (by kernel_rfl) ?_; clear HS; intro w4 HS; replace HS := Bx.mk HS
 have HS : Bx (St w0 ([boxA b3 3 44 (.agg #[.slice qa2 newD.fCells.length qc2, .slice qb2 newD.fWaits.length qe2, .bool newD.fGone]), HD.asr ⟨qa2, qc2, qb2, qe2, newD⟩, boxA b1 3 44 (.agg #[.slice none 0 0, .slice none 0 0, .bool false])]) _) := HS
 refine wl_ne ?_
 refine wp_sr ?_
 refine wl_y rfl HF rfl rfl (yl_fieldAddr (j := 2) rfl (HF.ev rfl) (by kernel_rfl)) ?_; clear HF a; intro a HF
 refine wl_storeF rfl rfl rfl (HF.ev rfl) (HF.ev rfl) (by kernel_rfl) HS.out 0 rfl rfl rfl ?_; clear HS; intro w5 HS; replace HS := Bx.mk HS
 have HS : Bx (St w0 ([boxA b3 3 44 (.agg #[.slice qa2 newD.fCells.length qc2, .slice qb2 newD.fWaits.length qe2, .bool true]), HD.asr ⟨qa2, qc2, qb2, qe2, newD⟩, boxA b1 3 44 (.agg #[.slice none 0 0, .slice none 0 0, .bool false])]) _) := HS
 refine wl_ne ?_
 refine wp_sr ?_
 refine wl_y rfl HF rfl rfl (yl_loadR (cs := [.slice qa2 newD.fCells.length qc2, .slice qb2 newD.fWaits.length qe2, .bool true]) rfl (HF.ev rfl) ((HS.out.box 0 rfl).sub 0 3) (by kernel_rfl)) ?_; clear HF a; intro a HF
 refine wl_storeBox rfl HF rfl rfl (HF.ev rfl) (HF.ev rfl) HS.out 2 rfl (cells_lit [.slice qa2 newD.fCells.length qc2, .slice qb2 newD.fWaits.length qe2, .bool true] rfl rfl) (by kernel_rfl) ?_; clear HS; intro w6 HS; replace HS := Bx.mk HS
 have HS : Bx (St w0 ([boxA b3 3 44 (.agg #[.slice qa2 newD.fCells.length qc2, .slice qb2 newD.fWaits.length qe2, .bool true]), HD.asr ⟨qa2, qc2, qb2, qe2, newD⟩, boxA b1 3 44 (.agg #[.slice qa2 newD.fCells.length qc2, .slice qb2 newD.fWaits.length qe2, .bool true])]) _) := HS
 refine wl_ne ?_
 refine wp_ret ?_
 refine bp_ret1 HF Try.results114 (HF.resBox rfl (HS.out.box 2 rfl) (by kernel_rfl)) ?_
 replace HS : Bx (St w0 ([HD.asr ⟨qa2, qc2, qb2, qe2, newD⟩, boxA b3 3 44 (.agg #[.slice qa2 newD.fCells.length qc2, .slice qb2 newD.fWaits.length qe2, .bool true]), boxA b1 3 44 (.agg #[.slice qa2 newD.fCells.length qc2, .slice qb2 newD.fWaits.length qe2, .bool true])]) _) := ⟨(HS.out).pick 1 rfl⟩
 exact ⟨⟨qa2, qc2, qb2, qe2, lostD⟩, rfl, rfl, ((HS.out.erase 2).erase 1)⟩

theorem raidNew_any (w0 : World) : Calls Try.prog 109 #[] w0 fun e w' => ∃ (g c : Nat) (qs : List HD), dsOf qs = [newD, newD, newD] ∧ e = .returned (.agg #[.slice (some ⟨g, 0, none⟩) qs.length c]) ∧ St w0 [rowA HD.cells 3 44 (.slice (some ⟨g, 0, none⟩) qs.length c) qs, sepA (qs.map HD.asr)] w' := by
 have HS := Bx.mk (St.start w0)
 refine wc_enter Try.func109 rfl Try.ntmps109 [] trivial rfl ?_; intro a HF
 refine wp_sr ?_
 refine wl_alloc rfl HF rfl rfl rfl (Z := [.slice none 0 0]) (by kernel_rfl) rfl HS.out ?_; clear HF HS a; intro a w1 b1 HF HS; replace HS := Bx.mk HS
 refine wl_ne ?_
 refine wp_sr ?_
 refine wl_empty (e := 44) (size := 3) rfl HF rfl rfl rfl (by kernel_rfl) HS.out ?_; clear HF HS a; intro a w2 b2 HF HS; replace HS := Bx.mk HS
 refine wl_y rfl HF rfl rfl (yl_build HF rfl (ps := [(0, .slice (some ⟨b2, 0, none⟩) 0 0)]) rfl (cs := #[.slice (some ⟨b2, 0, none⟩) 0 0]) (by kernel_rfl)) ?_; clear HF a; intro a HF
 refine wl_alloc rfl HF rfl rfl rfl (Z := [.slice none 0 0]) (by kernel_rfl) rfl HS.out ?_; clear HF HS a; intro a w3 b3 HF HS; replace HS := Bx.mk HS
 refine wl_storeBox rfl HF rfl rfl (HF.ev rfl) (HF.ev rfl) HS.out 0 rfl (cells_lit [.slice (some ⟨b2, 0, none⟩) 0 0] rfl rfl) (by kernel_rfl) ?_; clear HS; intro w4 HS; replace HS := Bx.mk HS
 have HS : Bx (St w0 ([boxA b3 1 25 (.agg #[.slice (some ⟨b2, 0, none⟩) 0 0]), boxA b1 1 25 (.agg #[.slice none 0 0])]) _) := HS
 refine wl_ne ?_
 refine wp_seq ?_
 refine wp_sr ?_
 refine wl_as HF rfl rfl rfl rfl rfl ?_; clear HF a; intro a HF
 refine wl_ne ?_
 refine wp_block ?_
 replace HS := Bx.mk ((HS.out.hdNil).nilRow HD.cells 3 44 (some ⟨b2, 0, none⟩))
 refine wc_loop (ι := Nat) (fun k a w => ∃ (ao : Option Addr) (cp : Nat) (qs : List HD), (k ≤ 3 ∧ qs.length = k ∧ dsOf qs = List.replicate k newD) ∧ Fr 16 a [(0, .pointer (some ⟨b1, 0, none⟩)), (1, .pointer (some ⟨b3, 0, none⟩)), (2, .int .i64 (k : Int))] ∧ St w0 ([rowA HD.cells 3 44 (.slice ao qs.length cp) qs, sepA (qs.map HD.asr), boxA b3 1 25 (.agg #[.slice ao qs.length cp]), boxA b1 1 25 (.agg #[.slice none 0 0])]) w) (fun k => 3 - k) 0 ⟨_, _, [], ⟨Nat.zero_le _, rfl, rfl⟩, HF.less _ ⟨rfl, rfl, rfl, trivial⟩, HS.out⟩ ?_
 clear HF HS; clear a
 rintro k a w5 ⟨ao, cp, qs, ⟨hk, hql, hq⟩, HF, HS⟩
 replace HS := Bx.mk HS
 refine wp_seq ?_
 refine wp_sr ?_
 refine wl_mv HF rfl rfl rfl rfl rfl ?_; clear HF a; intro a HF
 refine wl_y rfl HF rfl rfl (yl_lssI rfl (HF.ev rfl) (HF.ev rfl)) ?_; clear HF a; intro a HF
 refine wl_ne ?_
 refine HF.cases 6 rfl (fun cc1 HF1 => ?_) (fun cc1 HF1 => ?_)
 ·clear HF; have HF := HF1; clear HF1
  have dcc1 := of_decide_eq_true cc1
  refine wc_true HF rfl ?_
  refine wp_skip ?_
  refine ex_then ?_
  refine wp_seq ?_
  refine wp_block ?_
  refine wr_marked (W := w0) (s := [sepA (qs.map HD.asr), boxA b3 1 25 (.agg #[.slice ao qs.length cp]), boxA b1 1 25 (.agg #[.slice none 0 0])]) 6 (by kernel_rfl) ?_
  have HS2 := Bx.mk HS.out.drew; replace HS := Bx.mk (show St w0 ([sepA (qs.map HD.asr), boxA b3 1 25 (.agg #[.slice ao qs.length cp]), boxA b1 1 25 (.agg #[.slice none 0 0])]) _ from (HS.out.drew.erase 0)); generalize World.drew _ = w6 at HS HS2 ⊢
  refine wm_t 0 rfl (by kernel_rfl) (by kernel_rfl) (by kernel_rfl) (fun _ _ _ h => h) (by decide) rfl HF rfl rfl (fun _ _ => (yl_fieldAddr (j := 0) rfl (HF.ev rfl) (by kernel_rfl))) (fun _ => HS.out) ?_; clear HF a; intro a HF
  refine wm_y 1 rfl (by kernel_rfl) (by kernel_rfl) (by kernel_rfl) (fun _ _ _ h => h) (by decide) (by kernel_rfl) (by kernel_rfl) rfl HF rfl rfl (fun _ HS => (yl_load (v := .slice ao qs.length cp) rfl (HF.ev rfl) (((HS.box 1 rfl).cell 0).trans rfl) (by kernel_rfl))) HS.out ?_; clear HF a; intro a HF
  refine wm_one 2 (by kernel_rfl) ?_
  refine wo_call rfl rfl HF rfl (enter_of Try.func158 (by kernel_rfl) rfl) (args := #[]) rfl (diskNew_any _) rfl rfl ?_
  rintro _ w7 ⟨⟨qa4, qc4, qb4, qe4, qd⟩, hqd, rfl, hs⟩; obtain rfl : qd = newD := hqd; refine ⟨_, rfl, ?_⟩
  replace HS := Bx.mk (HS.out.later hs.bel)
  replace HS2 := Bx.mk ((HS2.out.add hs)); clear hs HF; clear a; intro a HF
  replace HS2 : Bx (St w0 ([HD.asr ⟨qa4, qc4, qb4, qe4, newD⟩, rowA HD.cells 3 44 (.slice ao qs.length cp) qs, sepA (qs.map HD.asr), boxA b3 1 25 (.agg #[.slice ao qs.length cp]), boxA b1 1 25 (.agg #[.slice none 0 0])]) _) := ⟨HS2.out⟩
  refine ⟨fun _ => HS.out, ?_⟩
  refine wm_one 3 (by kernel_rfl) ?_
  refine wo_buildS (enc := HD.cells) (e := 44) (size := 3) rfl rfl HF rfl rfl rfl (ps := [(0, .agg #[.slice qa4 newD.fCells.length qc4, .slice qb4 newD.fWaits.length qe4, .bool newD.fGone])]) rfl (cells := [.slice qa4 newD.fCells.length qc4, .slice qb4 newD.fWaits.length qe4, .bool newD.fGone]) (by kernel_rfl) [(⟨qa4, qc4, qb4, qe4, newD⟩ : HD)] rfl rfl (by unfold maxLen; omega) rfl HS2.out HS.out ?_; clear HF HS HS2 a; intro b5 a w8 HF HS2 HS; replace HS := Bx.mk HS; replace HS2 := Bx.mk HS2; refine ⟨fun _ => HS.out, ?_⟩
  refine wm_one 4 (by kernel_rfl) ?_
  refine wo_appL rfl rfl HF rfl rfl rfl (HF.ev rfl) (HF.ev rfl) elemD HD.cells_len HS2.out 2 (xs := qs) rfl (ys := [(⟨qa4, qc4, qb4, qe4, newD⟩ : HD)]) (St.rdN HS2.out HD.cells_len 0 rfl) (cells_one_D _) (by unfold maxLen; simp only [List.length_cons, List.length_nil]; omega) (by simp only [List.length_cons, List.length_nil]; omega) ?_; clear HF HS HS2 a; intro ao6 cp7 w9 a HF HS2; replace HS2 := Bx.mk HS2
  replace HS2 : Bx (St w0 ([rowA HD.cells 3 44 (.slice (some ⟨b5, 0, none⟩) 1 1) ([(⟨qa4, qc4, qb4, qe4, newD⟩ : HD)]), HD.asr ⟨qa4, qc4, qb4, qe4, newD⟩, rowA HD.cells 3 44 (.slice ao6 (qs.length + ([(⟨qa4, qc4, qb4, qe4, newD⟩ : HD)]).length) cp7) (qs ++ ([(⟨qa4, qc4, qb4, qe4, newD⟩ : HD)])), sepA (qs.map HD.asr), boxA b3 1 25 (.agg #[.slice ao qs.length cp]), boxA b1 1 25 (.agg #[.slice none 0 0])]) _) := ⟨HS2.out⟩
  have HS : Bx (St w0 ([sepA (qs.map HD.asr), boxA b3 1 25 (.agg #[.slice ao qs.length cp]), boxA b1 1 25 (.agg #[.slice none 0 0])]) _) := ⟨(((HS2.out.erase 2).erase 1).erase 0)⟩
  refine ⟨fun _ => HS.out, ?_⟩
  refine wm_t 5 rfl (by kernel_rfl) (by kernel_rfl) (by kernel_rfl) (fun _ _ _ h => h) (by decide) rfl HF rfl rfl (fun _ _ => (yl_fieldAddr (j := 0) rfl (HF.ev rfl) (by kernel_rfl))) (fun _ => HS.out) ?_; clear HF a; intro a HF
  refine wm_one 6 (by kernel_rfl) ?_
  refine wo_storeF rfl rfl rfl rfl (HF.ev rfl) (HF.ev rfl) (by kernel_rfl) HS2.out 4 rfl rfl rfl ?_
  clear HS2; intro w10 HS2; replace HS2 : Bx (St w0 ([rowA HD.cells 3 44 (.slice (some ⟨b5, 0, none⟩) 1 1) ([(⟨qa4, qc4, qb4, qe4, newD⟩ : HD)]), HD.asr ⟨qa4, qc4, qb4, qe4, newD⟩, rowA HD.cells 3 44 (.slice ao6 (qs.length + ([(⟨qa4, qc4, qb4, qe4, newD⟩ : HD)]).length) cp7) (qs ++ ([(⟨qa4, qc4, qb4, qe4, newD⟩ : HD)])), sepA (qs.map HD.asr), boxA b3 1 25 (.agg #[.slice ao6 (qs.length + ([(⟨qa4, qc4, qb4, qe4, newD⟩ : HD)]).length) cp7]), boxA b1 1 25 (.agg #[.slice none 0 0])]) _) := ⟨HS2⟩; refine ⟨(fun h => absurd (show true = false from h) (by decide)), ?_⟩
  refine wm_done (by kernel_rfl) ?_
  clear HS; have HS := HS2; clear HS2
  refine ex_block ?_
  refine ex_then ?_
  refine wp_region_lit ?_
  refine wl_mv HF rfl rfl rfl rfl rfl ?_; clear HF a; intro a HF
  refine wl_y rfl HF rfl rfl (yl_addI rfl (HF.ev rfl) (HF.ev rfl) (i64w (by omega))) ?_; clear HF a; intro a HF
  refine wl_as HF rfl rfl rfl rfl rfl ?_; clear HF a; intro a HF
  refine wl_ne ?_
  have hz : qs.length + [(⟨qa4, qc4, qb4, qe4, newD⟩ : HD)].length = (qs ++ [(⟨qa4, qc4, qb4, qe4, newD⟩ : HD)]).length := (List.length_append ..).symm
  rw [hz] at HS
  replace HS := Bx.mk (St.hdSnoc (((HS.out).pick 3 rfl).pick 2 rfl))
  replace HS := Bx.mk (((((((HS.out).pick 4 rfl).pick 4 rfl).pick 2 rfl).pick 4 rfl).erase 4))
  have hnext : dsOf (qs ++ [(⟨qa4, qc4, qb4, qe4, newD⟩ : HD)]) = List.replicate (k + 1) newD := by rw [dsOf_append, hq, List.replicate_succ']; rfl
  exact ⟨k + 1, ⟨_, _, qs ++ [(⟨qa4, qc4, qb4, qe4, newD⟩ : HD)], ⟨by omega, by rw [List.length_append]; show qs.length + 1 = k + 1; omega, hnext⟩, HF.less _ ⟨rfl, rfl, rfl, trivial⟩, HS.out⟩, (by omega)⟩
 ·clear HF; have HF := HF1; clear HF1
  have dcc1 := of_decide_eq_false cc1
  refine wc_false HF rfl ?_
  refine wp_exit ?_
  refine ex_then_exit ?_
  refine ex_then_exit ?_
  refine ex_block_hit ?_
  refine ex_then ?_
  refine wp_sr ?_
  refine wl_y rfl HF rfl rfl (yl_loadR (cs := [.slice ao qs.length cp]) rfl (HF.ev rfl) ((HS.out.box 2 rfl).sub 0 1) (by kernel_rfl)) ?_; clear HF a; intro a HF
  refine wl_storeBox rfl HF rfl rfl (HF.ev rfl) (HF.ev rfl) HS.out 3 rfl (cells_lit [.slice ao qs.length cp] rfl rfl) (by kernel_rfl) ?_; clear HS; intro w11 HS; replace HS := Bx.mk HS
  have HS : Bx (St w0 ([rowA HD.cells 3 44 (.slice ao qs.length cp) qs, sepA (qs.map HD.asr), boxA b3 1 25 (.agg #[.slice ao qs.length cp]), boxA b1 1 25 (.agg #[.slice ao qs.length cp])]) _) := HS
  refine wl_ne ?_
  refine wp_ret ?_
  refine bp_ret1 HF Try.results109 (HF.resBox rfl (HS.out.box 3 rfl) (by kernel_rfl)) ?_
  replace HS : Bx (St w0 ([rowA HD.cells 3 44 (.slice ao qs.length cp) qs, sepA (qs.map HD.asr), boxA b3 1 25 (.agg #[.slice ao qs.length cp]), boxA b1 1 25 (.agg #[.slice ao qs.length cp])]) _) := ⟨((HS.out).pick 1 rfl).pick 1 rfl⟩
  obtain rfl : k = 3 := by omega
  replace HS := Bx.mk ((HS.out.erase 3).erase 2)
  obtain ⟨g, rfl, _, _, _, _⟩ := HS.out.rowOpen 0 rfl (by omega)
  exact ⟨g, cp, qs, hq, rfl, HS.out⟩

theorem flush_c (d : DiskD) : d.flush.fCells.length = d.fCells.length := flush_len _ _
theorem l3FlushH_any (w0 w : World) (p : HD) (F : List Asr) (hc : 0 < p.d.fCells.length) (hw : p.d.fWaits.length ≤ 1000) (hA : ∀ k, k < p.d.fWaits.length → 0 ≤ (p.d.fWaits.getD k default).fAt ∧ (p.d.fWaits.getD k default).fAt < p.d.fCells.length) (hS : St w0 (p.asr :: F) w) : Calls Try.prog 115 #[.agg #[.slice p.a0 p.d.fCells.length p.c0, .slice p.a1 p.d.fWaits.length p.c1, .bool p.d.fGone]] w fun e w' => ∃ q : HD, q.d = p.d.flush ∧ e = .returned (.agg #[.slice q.a0 q.d.fCells.length q.c0, .slice q.a1 q.d.fWaits.length q.c1, .bool q.d.fGone]) ∧ St w0 (q.asr :: F) w' := by
  obtain ⟨a0, c0, a1, c1, d⟩ := p
  have h1 := (St.join (r := [_, _]) (s := F)).2 hS
  obtain ⟨g, rfl, _, _, _, _⟩ := h1.rowOpen 0 rfl hc
  refine (l3Flush_any w0 w g c0 a1 c1 d F hw hA h1).mono ?_
  rintro e w' ⟨b, rfl, hs⟩
  refine ⟨⟨some ⟨g, 0, none⟩, c0, some ⟨b, 0, none⟩, 0, d.flush⟩, rfl, by show _ = Ending.returned (.agg #[.slice (some ⟨g, 0, none⟩) d.flush.fCells.length c0, .slice (some ⟨b, 0, none⟩) 0 0, .bool d.fGone]); rw [flush_c], (St.join (r := [_, _]) (s := F)).1 ?_⟩
  have h2 := (hs.nilRow WaitD.cells 2 144 (some ⟨b, 0, none⟩)).swap
  rw [← flush_c d] at h2
  exact h2

theorem l4Flush_any (w0 w : World) (g c0 : Nat) (ps : List HD) (F : List Asr) (hl : ps.length ≤ 1048576) (hc : ∀ k, k < ps.length → 0 < (ps.getD k default).d.fCells.length) (hw : ∀ k, k < ps.length → (ps.getD k default).d.fWaits.length ≤ 1000) (hA : ∀ i, i < ps.length → ∀ k, k < (ps.getD i default).d.fWaits.length → 0 ≤ ((ps.getD i default).d.fWaits.getD k default).fAt ∧ ((ps.getD i default).d.fWaits.getD k default).fAt < (ps.getD i default).d.fCells.length) (hS : St w0 (rowA HD.cells 3 44 (.slice (some ⟨g, 0, none⟩) ps.length c0) ps :: sepA (ps.map HD.asr) :: F) w) : Calls Try.prog 113 #[.agg #[.slice (some ⟨g, 0, none⟩) ps.length c0]] w fun e w' => ∃ qs : List HD, qs.length = ps.length ∧ dsOf qs = (dsOf ps).map DiskD.flush ∧ e = .returned (.agg #[.slice (some ⟨g, 0, none⟩) ps.length c0]) ∧ St w0 (rowA HD.cells 3 44 (.slice (some ⟨g, 0, none⟩) ps.length c0) qs :: sepA (qs.map HD.asr) :: F) w' := by
 have HS := Bx.mk hS; clear hS
 refine wc_enter Try.func113 rfl Try.ntmps113 [(0, .agg #[.slice (some ⟨g, 0, none⟩) ps.length c0])] ⟨rfl, trivial⟩ rfl ?_; intro a HF
 refine wp_sr ?_
 refine wl_box rfl HF rfl (HF.ev rfl) (Z := [.slice (some ⟨g, 0, none⟩) ps.length c0]) rfl rfl rfl rfl HS.out ?_; clear HF HS a; intro a w1 b1 HF HS; replace HS := Bx.mk HS
 refine wl_alloc rfl HF rfl rfl rfl (Z := [.slice none 0 0]) (by kernel_rfl) rfl HS.out ?_; clear HF HS a; intro a w2 b2 HF HS; replace HS := Bx.mk HS
 refine wl_ne ?_
 refine wp_seq ?_
 refine wp_sr ?_
 refine wl_as HF rfl rfl rfl rfl rfl ?_; clear HF a; intro a HF
 refine wl_ne ?_
 refine wp_block ?_
 replace HS : Bx (St w0 (rowA HD.cells 3 44 (.slice (some ⟨g, 0, none⟩) ps.length c0) ps :: sepA (ps.map HD.asr) :: boxA b2 1 25 (.agg #[.slice none 0 0]) :: boxA b1 1 25 (.agg #[.slice (some ⟨g, 0, none⟩) ps.length c0]) :: F) _) := ⟨((HS.out).pick 3 rfl).pick 3 rfl⟩
 refine wc_loop (ι := Nat) (fun k a w => ∃ (qs : List HD), (k ≤ ps.length ∧ qs.length = ps.length ∧ dsOf (qs.take k) = (dsOf (ps.take k)).map DiskD.flush ∧ qs.drop k = ps.drop k) ∧ Fr 22 a [(1, .pointer (some ⟨b1, 0, none⟩)), (2, .pointer (some ⟨b2, 0, none⟩)), (3, .int .i64 (k : Int))] ∧ St w0 (rowA HD.cells 3 44 (.slice (some ⟨g, 0, none⟩) ps.length c0) qs :: sepA (qs.map HD.asr) :: boxA b2 1 25 (.agg #[.slice none 0 0]) :: boxA b1 1 25 (.agg #[.slice (some ⟨g, 0, none⟩) ps.length c0]) :: F) w) (fun k => ps.length - k) 0 ⟨ps, ⟨Nat.zero_le _, rfl, rfl, rfl⟩, HF.less _ ⟨rfl, rfl, rfl, trivial⟩, HS.out⟩ ?_
 clear HF HS; clear a
 rintro k a w3 ⟨qs, ⟨hk, hql, hq, hqd0⟩, HF, HS⟩
 replace HS := Bx.mk HS
 refine wp_seq ?_
 refine wp_sr ?_
 refine wl_mv HF rfl rfl rfl rfl rfl ?_; clear HF a; intro a HF
 refine wl_y rfl HF rfl rfl (yl_fieldAddr (j := 0) rfl (HF.ev rfl) (by kernel_rfl)) ?_; clear HF a; intro a HF
 refine wl_y rfl HF rfl rfl (yl_load (v := .slice (some ⟨g, 0, none⟩) ps.length c0) rfl (HF.ev rfl) (((HS.out.box 3 rfl).cell 0).trans rfl) (by kernel_rfl)) ?_; clear HF a; intro a HF
 refine wl_y rfl HF rfl rfl (yl_lenL (e := 44) (size := 3) rfl (HF.ev rfl) (by kernel_rfl)) ?_; clear HF a; intro a HF
 refine wl_y rfl HF rfl rfl (yl_lssI rfl (HF.ev rfl) (HF.ev rfl)) ?_; clear HF a; intro a HF
 refine wl_ne ?_
 refine HF.cases 8 rfl (fun cc1 HF1 => ?_) (fun cc1 HF1 => ?_)
 ·clear HF; have HF := HF1; clear HF1
  have dcc1 := of_decide_eq_true cc1
  refine wc_true HF rfl ?_
  refine wp_skip ?_
  refine ex_then ?_
  refine wp_seq ?_
  refine wp_block ?_
  have hgk := list_split hql (show k < ps.length by omega) hqd0
  refine wr_marked (W := w0) (s := rowA HD.cells 3 44 (.slice (some ⟨g, 0, none⟩) ps.length c0) qs :: boxA b2 1 25 (.agg #[.slice none 0 0]) :: boxA b1 1 25 (.agg #[.slice (some ⟨g, 0, none⟩) ps.length c0]) :: F) 10 (by kernel_rfl) ?_
  have HS2 := Bx.mk HS.out.drew; replace HS := Bx.mk (show St w0 (rowA HD.cells 3 44 (.slice (some ⟨g, 0, none⟩) ps.length c0) qs :: boxA b2 1 25 (.agg #[.slice none 0 0]) :: boxA b1 1 25 (.agg #[.slice (some ⟨g, 0, none⟩) ps.length c0]) :: F) _ from (HS.out.drew.erase 1)); generalize World.drew _ = w4 at HS HS2 ⊢
  refine wm_t 0 rfl (by kernel_rfl) (by kernel_rfl) (by kernel_rfl) (fun _ _ _ h => h) (by decide) rfl HF rfl rfl (fun _ _ => (yl_fieldAddr (j := 0) rfl (HF.ev rfl) (by kernel_rfl))) (fun _ => HS.out) ?_; clear HF a; intro a HF
  refine wm_y 1 rfl (by kernel_rfl) (by kernel_rfl) (by kernel_rfl) (fun _ _ _ h => h) (by decide) (by kernel_rfl) (by kernel_rfl) rfl HF rfl rfl (fun _ HS => (yl_load (v := .slice (some ⟨g, 0, none⟩) ps.length c0) rfl (HF.ev rfl) (((HS.box 2 rfl).cell 0).trans rfl) (by kernel_rfl))) HS.out ?_; clear HF a; intro a HF
  refine wm_t 2 rfl (by kernel_rfl) (by kernel_rfl) (by kernel_rfl) (fun _ _ _ h => h) (by decide) rfl HF rfl rfl (fun _ _ => (yl_move rfl (HF.ev rfl))) (fun _ => HS.out) ?_; clear HF a; intro a HF
  refine wm_t 3 rfl (by kernel_rfl) (by kernel_rfl) (by kernel_rfl) (fun _ _ _ h => h) (by decide) rfl HF rfl rfl (fun _ _ => (yl_fieldAddr (j := 0) rfl (HF.ev rfl) (by kernel_rfl))) (fun _ => HS.out) ?_; clear HF a; intro a HF
  refine wm_y 4 rfl (by kernel_rfl) (by kernel_rfl) (by kernel_rfl) (fun _ _ _ h => h) (by decide) (by kernel_rfl) (by kernel_rfl) rfl HF rfl rfl (fun _ HS => (yl_load (v := .slice (some ⟨g, 0, none⟩) ps.length c0) rfl (HF.ev rfl) (((HS.box 2 rfl).cell 0).trans rfl) (by kernel_rfl))) HS.out ?_; clear HF a; intro a HF
  refine wm_t 5 rfl (by kernel_rfl) (by kernel_rfl) (by kernel_rfl) (fun _ _ _ h => h) (by decide) rfl HF rfl rfl (fun _ _ => (yl_move rfl (HF.ev rfl))) (fun _ => HS.out) ?_; clear HF a; intro a HF
  refine wm_y 6 rfl (by kernel_rfl) (by kernel_rfl) (by kernel_rfl) (fun _ _ _ h => h) (by decide) (by kernel_rfl) (by kernel_rfl) rfl HF rfl rfl (fun _ HS => (yl_indexAddr (e := 44) (i := k) (size := 3) rfl (HF.ev rfl) (HF.ev rfl) (by kernel_rfl) rfl (by omega))) HS.out ?_; clear HF a; intro a HF
  refine wm_y 7 rfl (by kernel_rfl) (by kernel_rfl) (by kernel_rfl) (fun _ _ _ h => h) (by decide) (by kernel_rfl) (by kernel_rfl) rfl HF rfl rfl (fun _ HS => (yl_loadR (cs := [.slice ((qs.getD k default).a0) ((qs.getD k default).d.fCells.length) ((qs.getD k default).c0), .slice ((qs.getD k default).a1) ((qs.getD k default).d.fWaits.length) ((qs.getD k default).c1), .bool ((qs.getD k default).d.fGone)]) rfl (HF.ev rfl) (HS.elem HD.cells_len 0 rfl (get_getD (xs := qs) (j := k) (d := default) (by omega))) (by kernel_rfl))) HS.out ?_; clear HF a; intro a HF
  refine wm_one 8 (by kernel_rfl) ?_
  replace HS2 := Bx.mk ((HS2.out.pick 1 rfl).hdOut k (by omega))
  replace HS2 : Bx (St w0 (HD.asr (qs.getD k default) :: sepA ((qs.eraseIdx k).map HD.asr) :: rowA HD.cells 3 44 (.slice (some ⟨g, 0, none⟩) ps.length c0) qs :: boxA b2 1 25 (.agg #[.slice none 0 0]) :: boxA b1 1 25 (.agg #[.slice (some ⟨g, 0, none⟩) ps.length c0]) :: F) _) := ⟨HS2.out⟩
  replace HS2 : Bx (St w0 (HD.asr (qs.getD k default) :: sepA ((qs.eraseIdx k).map HD.asr) :: rowA HD.cells 3 44 (.slice (some ⟨g, 0, none⟩) ps.length c0) qs :: boxA b2 1 25 (.agg #[.slice none 0 0]) :: boxA b1 1 25 (.agg #[.slice (some ⟨g, 0, none⟩) ps.length c0]) :: F) _) := ⟨(HS2.out).pick 0 rfl⟩
  refine wo_call rfl rfl HF rfl (enter_of Try.func115 (by kernel_rfl) rfl) (args := #[.agg #[.slice ((qs.getD k default).a0) ((qs.getD k default).d.fCells.length) ((qs.getD k default).c0), .slice ((qs.getD k default).a1) ((qs.getD k default).d.fWaits.length) ((qs.getD k default).c1), .bool ((qs.getD k default).d.fGone)]]) rfl (l3FlushH_any w0 _ (qs.getD k default) _ (by rw [hgk]; exact hc k (by omega)) (by rw [hgk]; exact hw k (by omega)) (by rw [hgk]; exact hA k (by omega)) HS2.out) rfl rfl ?_
  rintro _ w5 ⟨q, hqd, rfl, hs1⟩
  refine ⟨_, rfl, ?_⟩; replace HS2 := Bx.mk hs1; clear hs1 HF; clear a; intro a HF
  replace HS2 : Bx (St w0 (HD.asr q :: sepA ((qs.eraseIdx k).map HD.asr) :: rowA HD.cells 3 44 (.slice (some ⟨g, 0, none⟩) ps.length c0) qs :: boxA b2 1 25 (.agg #[.slice none 0 0]) :: boxA b1 1 25 (.agg #[.slice (some ⟨g, 0, none⟩) ps.length c0]) :: F) _) := ⟨HS2.out⟩
  clear HS; have HS : Bx (St w0 (rowA HD.cells 3 44 (.slice (some ⟨g, 0, none⟩) ps.length c0) qs :: boxA b2 1 25 (.agg #[.slice none 0 0]) :: boxA b1 1 25 (.agg #[.slice (some ⟨g, 0, none⟩) ps.length c0]) :: F) _) := ⟨((HS2.out.erase 1).erase 0)⟩
  refine ⟨fun _ => HS.out, ?_⟩
  refine wm_y 9 rfl (by kernel_rfl) (by kernel_rfl) (by kernel_rfl) (fun _ _ _ h => h) (by decide) (by kernel_rfl) (by kernel_rfl) rfl HF rfl rfl (fun _ HS => (yl_indexAddr (e := 44) (i := k) (size := 3) rfl (HF.ev rfl) (HF.ev rfl) (by kernel_rfl) rfl (by omega))) HS.out ?_; clear HF a; intro a HF
  refine wm_one 10 (by kernel_rfl) ?_
  refine wo_storeEn HD.cells_len rfl rfl rfl rfl (HF.ev rfl) (HF.ev rfl) (by kernel_rfl) HS2.out 2 rfl (by omega) (z := q) rfl (by first | rfl | simp [Value.oneCell']) ?_
  clear HS2; intro w6 HS2; replace HS2 : Bx (St w0 (HD.asr q :: sepA ((qs.eraseIdx k).map HD.asr) :: rowA HD.cells 3 44 (.slice (some ⟨g, 0, none⟩) ps.length c0) (qs.set k q) :: boxA b2 1 25 (.agg #[.slice none 0 0]) :: boxA b1 1 25 (.agg #[.slice (some ⟨g, 0, none⟩) ps.length c0]) :: F) _) := ⟨HS2⟩; refine ⟨(fun h => absurd (show true = false from h) (by decide)), ?_⟩
  refine wm_done (by kernel_rfl) ?_
  clear HS; have HS := HS2; clear HS2
  refine ex_block ?_
  refine ex_then ?_
  refine wp_region_lit ?_
  refine wl_mv HF rfl rfl rfl rfl rfl ?_; clear HF a; intro a HF
  refine wl_y rfl HF rfl rfl (yl_addI rfl (HF.ev rfl) (HF.ev rfl) (i64w (by omega))) ?_; clear HF a; intro a HF
  refine wl_as HF rfl rfl rfl rfl rfl ?_; clear HF a; intro a HF
  refine wl_ne ?_
  replace HS := Bx.mk (St.hdIn (((HS.out).pick 1 rfl).pick 1 rfl) (by omega))
  replace HS := Bx.mk ((((((HS.out).pick 3 rfl).pick 3 rfl).pick 2 rfl).pick 3 rfl))
  have hnext : dsOf ((qs.set k q).take (k + 1)) = (dsOf (ps.take (k + 1))).map DiskD.flush := by rw [take_set_succ _ _ _ (by omega), dsOf_append, hq, dsOf_take_succ _ _ (by omega), List.map_append, ← hgk]; show _ ++ [q.d] = _ ++ [_]; rw [hqd]
  exact ⟨k + 1, ⟨qs.set k q, ⟨by omega, by rw [List.length_set]; exact hql, hnext, by rw [drop_set_succ, ← List.drop_drop, ← List.drop_drop, hqd0]⟩, HF.less _ ⟨rfl, rfl, rfl, trivial⟩, HS.out⟩, (by omega)⟩
 ·clear HF; have HF := HF1; clear HF1
  have dcc1 := of_decide_eq_false cc1
  refine wc_false HF rfl ?_
  refine wp_exit ?_
  refine ex_then_exit ?_
  refine ex_then_exit ?_
  refine ex_block_hit ?_
  refine ex_then ?_
  refine wp_sr ?_
  refine wl_y rfl HF rfl rfl (yl_loadR (cs := [.slice (some ⟨g, 0, none⟩) ps.length c0]) rfl (HF.ev rfl) ((HS.out.box 3 rfl).sub 0 1) (by kernel_rfl)) ?_; clear HF a; intro a HF
  refine wl_storeBox rfl HF rfl rfl (HF.ev rfl) (HF.ev rfl) HS.out 2 rfl (cells_lit [.slice (some ⟨g, 0, none⟩) ps.length c0] rfl rfl) (by kernel_rfl) ?_; clear HS; intro w7 HS; replace HS := Bx.mk HS
  have HS : Bx (St w0 (rowA HD.cells 3 44 (.slice (some ⟨g, 0, none⟩) ps.length c0) qs :: sepA (qs.map HD.asr) :: boxA b2 1 25 (.agg #[.slice (some ⟨g, 0, none⟩) ps.length c0]) :: boxA b1 1 25 (.agg #[.slice (some ⟨g, 0, none⟩) ps.length c0]) :: F) _) := HS
  refine wl_ne ?_
  refine wp_ret ?_
  refine bp_ret1 HF Try.results113 (HF.resBox rfl (HS.out.box 2 rfl) (by kernel_rfl)) ?_
  replace HS : Bx (St w0 (rowA HD.cells 3 44 (.slice (some ⟨g, 0, none⟩) ps.length c0) qs :: sepA (qs.map HD.asr) :: boxA b2 1 25 (.agg #[.slice (some ⟨g, 0, none⟩) ps.length c0]) :: boxA b1 1 25 (.agg #[.slice (some ⟨g, 0, none⟩) ps.length c0]) :: F) _) := ⟨((HS.out).pick 1 rfl).pick 1 rfl⟩
  obtain rfl : k = ps.length := by omega
  rw [← hql, List.take_length, hql, List.take_length] at hq
  exact ⟨qs, hql, hq, rfl, ((HS.out.erase 3).erase 2)⟩

end Go.Proofs.Ytfijfjjleelphaa

/- Sets of disks: read, owned, apart. -/
namespace Go.Proofs.Ytfijfjjleelphaa
set_option maxHeartbeats 1000000
set_option maxRecDepth 100000
open Go.RowKit

structure RaidD where
  fDisks : List DiskD
def RaidD.Reads (w : World) (v : Value) (x : RaidD) : Prop := ∃ (a : Option Addr) (c : Nat) (ps : List HD), v = .agg #[.slice a ps.length c] ∧ dsOf ps = x.fDisks ∧ Rd HD.cells 3 w a ps.length ps ∧ ∀ k, k < ps.length → (ps.getD k default).reads w
theorem RaidD.Reads.below {w w' : World} {v : Value} {x : RaidD} (h : RaidD.Reads w v x) (hb : Below w.heap.size w w') : RaidD.Reads w' v x := by
  obtain ⟨a, c, ps, e, hx, hr, hp⟩ := h
  exact ⟨a, c, ps, e, hx, hr.below hb, fun k hk => (hp k hk).below hb⟩
/-- The slices of a disk, of a set of disks. -/
def HD.vs (p : HD) : List Value := [.slice p.a0 p.d.fCells.length p.c0, .slice p.a1 p.d.fWaits.length p.c1]
def vsOf (a : Option Addr) (c : Nat) (ps : List HD) : List Value := .slice a ps.length c :: ps.flatMap HD.vs
def HD.own (w : World) (B B1 : Nat) (p : HD) : Prop := RowO encS 1 9 w B B1 (.slice p.a0 p.d.fCells.length p.c0) p.d.fCells ∧ RowO WaitD.cells 2 144 w B B1 (.slice p.a1 p.d.fWaits.length p.c1) p.d.fWaits
def RaidD.Own (w : World) (B B1 : Nat) (v : Value) (x : RaidD) : Prop := ∃ (a : Option Addr) (c : Nat) (ps : List HD), v = .agg #[.slice a ps.length c] ∧ dsOf ps = x.fDisks ∧ RowO HD.cells 3 44 w B B1 (.slice a ps.length c) ps ∧ (∀ p, p ∈ ps → p.own w B B1) ∧ (vsOf a c ps).Pairwise Apart
theorem RaidD.Own.cells {w : World} {B B1 : Nat} {v : Value} {x : RaidD} (h : RaidD.Own w B B1 v x) : Cells 1 v := by
  obtain ⟨a, c, ps, rfl, _⟩ := h
  exact cells_lit [_] rfl rfl
theorem RaidD.Own.rd {w : World} {B B1 : Nat} {v : Value} {x : RaidD} (h : RaidD.Own w B B1 v x) : RaidD.Reads w v x := by
  obtain ⟨a, c, ps, e, hx, hr, hp, ha⟩ := h
  refine ⟨a, c, ps, e, hx, ?_, fun k hk => ?_⟩
  · obtain ⟨u, e0, k0, d0⟩ := hr.rd HD.cells_len
    simp only [Value.slice.injEq, true_and] at k0
    obtain ⟨rfl, rfl⟩ := k0
    exact d0
  · rw [getD_get hk]
    obtain ⟨h1, h2⟩ := hp _ (List.getElem_mem hk)
    obtain ⟨u, e0, k0, d0⟩ := h1.rd encS_len
    simp only [Value.slice.injEq, true_and] at k0
    obtain ⟨rfl, rfl⟩ := k0
    obtain ⟨u, e0, k0, d1⟩ := h2.rd WaitD.cells_len
    simp only [Value.slice.injEq, true_and] at k0
    obtain ⟨rfl, rfl⟩ := k0
    exact ⟨d0, d1⟩
def blk (v : Value) : List Nat := (Value.rowBlock v).toList
theorem sep_hds {w : World} : ∀ {ps : List HD} {f : List Nat}, sepP (ps.map HD.asr) w f → f = (ps.flatMap HD.vs).flatMap blk ∧ ∀ p, p ∈ ps → ∃ B1, p.own w 0 B1
  | [], f, h => ⟨h, fun _ h => by cases h⟩
  | p :: ps, f, h => by
    obtain ⟨f1, f2, rfl, ⟨g1, g2, rfl, ⟨e1, B1, r1⟩, ⟨g3, g4, rfl, ⟨e3, B3, r3⟩, e4⟩⟩, h2⟩ := h
    obtain ⟨e2, h3⟩ := sep_hds h2
    refine ⟨?_, fun q hq => ?_⟩
    · have e4 : g4 = [] := e4
      rw [e1, e2, e3, e4]
      simp [HD.vs, blk]
    · rcases List.mem_cons.1 hq with rfl | hq
      · exact ⟨max B1 B3, r1.mono (Nat.le_refl _) (by omega), r3.mono (Nat.le_refl _) (by omega)⟩
      · exact h3 q hq
end Go.Proofs.Ytfijfjjleelphaa

/- Laws for the draws, 3: sets of disks that read. -/
namespace Go.Proofs.Ytfijfjjleelphaa
set_option maxHeartbeats 1000000
set_option maxRecDepth 100000
open Go.RowKit
theorem elemP : ElemT Try.prog 63 33 5 40 := by
  obtain ⟨i0, hi, hz0, hz1, hz2⟩ := info_parts (P := Try.prog) (e := 33) (z := .agg #[.int .i64 0, .int .i64 0, .int .i64 0, .int .i64 0, .int .i64 0]) (size := 5) (bytes := 40) (by kernel_rfl)
  exact ⟨Try.underlying63, ⟨i0, _, hi, hz0, hz1, hz2, rfl⟩, by decide⟩
/-- A set of disks reads. -/
def rdsP (ao : Option Addr) (ps : List HD) (w : World) : Prop := Rd HD.cells 3 w ao ps.length ps ∧ ∀ p, p ∈ ps → p.reads w
def allP (ps : List HD) (w : World) : Prop := ∀ p, p ∈ ps → p.reads w
theorem own_reads {w : World} {B B1 : Nat} {p : HD} (h : p.own w B B1) : p.reads w := by
  obtain ⟨h1, h2⟩ := h
  obtain ⟨u, e0, k0, d0⟩ := h1.rd encS_len
  simp only [Value.slice.injEq, true_and] at k0
  obtain ⟨rfl, rfl⟩ := k0
  obtain ⟨u, e0, k0, d1⟩ := h2.rd WaitD.cells_len
  simp only [Value.slice.injEq, true_and] at k0
  obtain ⟨rfl, rfl⟩ := k0
  exact ⟨d0, d1⟩
theorem hds_allP {ps : List HD} {w : World} {f : List Nat} (h : (sepA (ps.map HD.asr)).P w f) : allP ps w := fun p hp => by
  obtain ⟨B1, ho⟩ := (sep_hds h).2 p hp
  exact own_reads ho
theorem sep2 {a b : Asr} {P Q R : World → Prop} (ha : ∀ w f, a.P w f → P w) (hb : ∀ w f, b.P w f → Q w) (h : ∀ w, P w → Q w → R w) : ∀ w f, (sepA [a, b]).P w f → R w := by
  rintro w f ⟨f1, f2, rfl, h1, ⟨f3, f4, rfl, h2, h3⟩⟩
  exact h w (ha w _ h1) (hb w _ h2)
theorem sep3 {a b c : Asr} {P Q S R : World → Prop} (ha : ∀ w f, a.P w f → P w) (hb : ∀ w f, b.P w f → Q w) (hc : ∀ w f, c.P w f → S w) (h : ∀ w, P w → Q w → S w → R w) : ∀ w f, (sepA [a, b, c]).P w f → R w := by
  rintro w f ⟨f1, f2, rfl, h1, ⟨f3, f4, rfl, h2, ⟨f5, f6, rfl, h3, h4⟩⟩⟩
  exact h w (ha w _ h1) (hb w _ h2) (hc w _ h3)
theorem holds_P {P : World → Prop} : ∀ w f, (holdsA P).P w f → P w := fun w f h => h w (Nat.le_refl _) fun _ _ => rfl
theorem allP_set {ps : List HD} {k : Nat} {q : HD} {w : World} (h : allP ps w) (hq : q.reads w) : allP (ps.set k q) w := fun p hp => (List.mem_or_eq_of_mem_set hp).elim (h p) fun e => by rw [e]; exact hq
theorem allP_cons {ps : List HD} {q : HD} {k : Nat} {w : World} (h : allP (ps.eraseIdx k) w) (hq : q.reads w) (hk : k < ps.length) : allP (ps.set k q) w := fun p hp => by
  have hm := (set_pick ps k q hk).mem_iff.2 hp
  rcases List.mem_cons.1 hm with rfl | hm
  · exact hq
  · exact h p hm
/-- A row by its cells alone. -/
theorem rowA_congr {α : Type} {enc : α → List Value} {size : Nat} {T : TypeId} {v : Value} {xs ys : List α} (hl : xs.length = ys.length) (hf : xs.flatMap enc = ys.flatMap enc) {w : World} {f : List Nat} (h : (rowA enc size T v xs).P w f) : (rowA enc size T v ys).P w f := by
  obtain ⟨h1, B1, ao, cap, h2, h3, h4⟩ := h
  refine ⟨h1, B1, ao, cap, by rw [← hl]; exact h2, ?_, h4⟩
  rcases h3 with ⟨h3, rfl⟩ | h3
  · exact .inl ⟨h3, List.length_eq_zero_iff.1 (by rw [← hl]; rfl)⟩
  · exact .inr (by rw [← hl, ← hf]; exact h3)
theorem flatMap_set_same {qs : List HD} {k : Nat} {q q' : HD} (h : q'.cells = q.cells) : (qs.set k q).flatMap HD.cells = (qs.set k q').flatMap HD.cells := by
  induction qs generalizing k with
  | nil => rfl
  | cons x xs ih =>
    cases k with
    | zero => simp [h]
    | succ k => simp only [List.set_cons_succ, List.flatMap_cons]; rw [ih]
def fitsL (ps : List HD) : Prop := ∀ p, p ∈ ps → p.d.fits
theorem default_fits : (default : HD).d.fits := ⟨Nat.zero_le _, Nat.zero_le _, fun k => Nat.zero_le _, fun k => Nat.zero_le _⟩
theorem fitsL.at {ps : List HD} (h : fitsL ps) (k : Nat) : (ps.getD k default).d.fits := by
  by_cases hk : k < ps.length
  · rw [getD_get hk]; exact h _ (List.getElem_mem hk)
  · rw [show ps.getD k default = default by simp [List.getD, List.getElem?_eq_none (Nat.le_of_not_lt hk)]]
    exact default_fits
theorem fitsL.set {ps : List HD} (h : fitsL ps) {q : HD} (hq : q.d.fits) (k : Nat) : fitsL (ps.set k q) := fun p hp => (List.mem_or_eq_of_mem_set hp).elim (h p) fun e => by rw [e]; exact hq
theorem fitsL.drop {ps : List HD} (h : fitsL ps) (k : Nat) : fitsL (ps.drop k) := fun p hp => h p (List.mem_of_mem_drop hp)
theorem niceS.fitsL {n : Nat} {ps : List HD} (h : niceS n (dsOf ps)) (hn : n ≤ 1000) : fitsL ps := fun p hp => (h.2 p.d (List.mem_map_of_mem hp)).fits hn
theorem niceS.len {n : Nat} {ps : List HD} (h : niceS n (dsOf ps)) : ps.length = 3 := by rw [← dsOf_len]; exact h.1
theorem niceS.get {n : Nat} {ps : List HD} (h : niceS n (dsOf ps)) {k : Nat} (hk : k < 3) : (ps.getD k default).d.nice n := by rw [← dsOf_get]; exact h.at hk
theorem niceS.wl {n : Nat} {ps : List HD} (h : niceS n (dsOf ps)) (hn : n ≤ 1000) (k : Nat) : (ps.getD k default).d.fWaits.length ≤ 1000 := by
  by_cases hk : k < 3
  · have := (h.get hk).w; omega
  · rw [show ps.getD k default = default by simp [List.getD, List.getElem?_eq_none (show ps.length ≤ k by rw [h.len]; omega)]]
    exact Nat.zero_le _
theorem rdsP.at {ao : Option Addr} {ps : List HD} {w : World} (h : rdsP ao ps w) : ∀ k, k < ps.length → (ps.getD k default).reads w := fun k hk => by rw [getD_get hk]; exact h.2 _ (List.getElem_mem hk)
theorem raid_hold {W w : World} {F : List Asr} {g c n : Nat} {ps : List HD} (hn : n = ps.length) (h : St W (rowA HD.cells 3 44 (.slice (some ⟨g, 0, none⟩) n c) ps :: holdsA (allP ps) :: F) w) : St W (holdsA (rdsP (some ⟨g, 0, none⟩) ps) :: F) w := by
  subst hn
  exact ((St.join (r := [_, _]) (s := F)).1 h).hold (sep2 (fun w f h => row_reads HD.cells_len h) holds_P fun w h1 h2 => ⟨h1, h2⟩)
theorem raid_holdD {W w : World} {F : List Asr} {g c n : Nat} {ps : List HD} (hn : n = ps.length) (h1 : 1 ≤ n) (h : St W (rowA HD.cells 3 44 (.slice (some ⟨g, 0, none⟩) n c) ps :: holdsA (allP ps) :: F) w) : St W (holdsA (rdsP (some ⟨g, 0 + 1 * 3, none⟩) (ps.drop 1)) :: F) w := by
  subst hn
  refine ((St.join (r := [_, _]) (s := F)).1 h).hold (sep2 (fun w f h => row_reads HD.cells_len h) holds_P fun w h2 h3 => ⟨?_, fun p hp => h3 p (List.mem_of_mem_drop hp)⟩)
  rw [List.length_drop]
  exact h2.drop (k := 1) h1
theorem raid_holdS {W w : World} {F : List Asr} {g c n k : Nat} {ps : List HD} {q : HD} (hn : n = ps.length) (h : St W (rowA HD.cells 3 44 (.slice (some ⟨g, 0, none⟩) n c) (ps.set k q) :: holdsA (allP ps) :: holdsA (fun w => q.reads w) :: F) w) : St W (holdsA (rdsP (some ⟨g, 0, none⟩) (ps.set k q)) :: F) w := by
  subst hn
  refine ((St.join (r := [_, _, _]) (s := F)).1 h).hold (sep3 (fun w f h => row_reads HD.cells_len h) holds_P holds_P fun w h1 h2 h3 => ⟨?_, allP_set h2 h3⟩)
  rw [List.length_set]; exact h1
theorem nice3 : niceS 0 [newD, newD, newD] := ⟨rfl, fun d hd => by
  have : d = newD := by simpa using hd
  rw [this]; exact nice_new⟩
theorem ptrOf_at {a b l : Int} {s : ByteArray} (h : 0 ≤ a ∧ a ≤ 63) : 0 ≤ (ptrOf a b l s).fAt ∧ (ptrOf a b l s).fAt ≤ 63 := by
  unfold ptrOf
  split
  · exact h
  · exact ⟨Int.le_refl _, by decide⟩
end Go.Proofs.Ytfijfjjleelphaa

/- What the laws over sets of disks compare and count. -/
namespace Go.Proofs.Ytfijfjjleelphaa
set_option maxHeartbeats 1000000
set_option maxRecDepth 100000
open Go.RowKit

theorem eqWaitW (x : WaitD) (w : World) : (Op.equalIn 10000 144 (.agg #[.int .i64 x.fAt, .string x.fText]) (.agg #[.int .i64 x.fAt, .string x.fText])).run Try.prog w = .ok true w := by
  have hS : Try.prog.underlying 144 = some (.struct (Try.prog.fieldsOf 144)) := by kernel_rfl
  have hp : Try.prog.stoodInHeld 144 = false := by kernel_rfl
  rw [show (10000 : Nat) = 9999 + 1 from rfl, run_equalIn_agg w 9999 144 _ _ hS hp]
  simp only [Program.fieldsOf, Try.underlying144]
  go_simp
theorem yl_neqWt {w : World} {o : Oper} {a : Act} {x y : Operand} {t' : TypeId} (z : WaitD) (ho : o.op = .binOp .neq 144 x y t') (hx : a.eval x = .agg #[.int .i64 z.fAt, .string z.fText]) (hy : a.eval y = .agg #[.int .i64 z.fAt, .string z.fText]) : Yl Try.prog w o a (.bool false) := by
  have he := eqWaitW z w
  unfold Yl execOp
  simp only [ho, hx, hy]
  simp [eqGuard, binOp, go_sem, Op.equal]
  rw [show Op.maxDepth = 10000 from rfl, he]; rfl

theorem pfTexts_yes (a0 a1 : Option Addr) (c0 c1 : Nat) (xs : List ByteArray) (w0 : World) (hl : xs.length ≤ 1048576) (hR : Rd encS 1 w0 a0 xs.length xs) (hR2 : Rd encS 1 w0 a1 xs.length xs) : Calls Try.prog 126 #[.slice a0 xs.length c0, .slice a1 xs.length c1] w0 fun e w' => e = .returned (.bool true) ∧ Below w0.heap.size w0 w' := by
 obtain ⟨g0, o0, r0⟩ := hR.opn; have RA := Bx.mk r0; obtain ⟨g1, o1, r1⟩ := hR2.opn; have RB := Bx.mk r1; clear r0 r1 hR hR2
 have HS := Bx.mk (St.start w0)
 refine wc_enter Try.func126 rfl Try.ntmps126 [(0, .slice a0 xs.length c0), (1, .slice a1 xs.length c1)] ⟨rfl, rfl, trivial⟩ rfl ?_; intro a HF
 refine wp_sr ?_
 refine wl_as HF rfl rfl rfl rfl rfl ?_; clear HF a; intro a HF
 refine wl_ne ?_
 refine wp_seq ?_
 refine wp_sr ?_
 refine wl_mv HF rfl rfl rfl rfl rfl ?_; clear HF a; intro a HF
 refine wl_y rfl HF rfl rfl (yl_lenL (e := 9) (size := 1) rfl (HF.ev rfl) (by kernel_rfl)) ?_; clear HF a; intro a HF
 refine wl_mv HF rfl rfl rfl rfl rfl ?_; clear HF a; intro a HF
 refine wl_y rfl HF rfl rfl (yl_lenL (e := 9) (size := 1) rfl (HF.ev rfl) (by kernel_rfl)) ?_; clear HF a; intro a HF
 refine wl_y rfl HF rfl rfl (yl_neqI rfl (HF.ev rfl) (HF.ev rfl)) ?_; clear HF a; intro a HF
 refine wl_ne ?_
 refine HF.cases 10 rfl (fun cc1 HF1 => ?_) (fun cc1 HF1 => ?_)
 ·clear HF; have HF := HF1; clear HF1
  exact absurd cc1 (by simp)
 ·clear HF; have HF := HF1; clear HF1
  have dcc1 := bne_eq_false_iff_eq.1 cc1
  refine wc_false HF rfl ?_
  refine wp_skip ?_
  refine ex_then ?_
  refine wp_seq ?_
  refine wp_sr ?_
  refine wl_as HF rfl rfl rfl rfl rfl ?_; clear HF a; intro a HF
  refine wl_ne ?_
  refine wp_block ?_
  refine wc_loop (ι := Nat) (fun k a w => (k ≤ xs.length) ∧ Fr 26 a [(0, .slice a0 xs.length c0), (1, .slice a1 xs.length c1), (4, .bool false), (5, .int .i64 (k : Int))] ∧ St w0 ([]) w) (fun k => xs.length - k) 0 ⟨Nat.zero_le _, HF.less _ ⟨rfl, rfl, rfl, rfl, trivial⟩, HS.out⟩ ?_
  clear HF HS; clear a
  rintro k a w1 ⟨hk, HF, HS⟩
  replace HS := Bx.mk HS
  refine wp_seq ?_
  refine wp_sr ?_
  refine wl_mv HF rfl rfl rfl rfl rfl ?_; clear HF a; intro a HF
  refine wl_mv HF rfl rfl rfl rfl rfl ?_; clear HF a; intro a HF
  refine wl_y rfl HF rfl rfl (yl_lenL (e := 9) (size := 1) rfl (HF.ev rfl) (by kernel_rfl)) ?_; clear HF a; intro a HF
  refine wl_y rfl HF rfl rfl (yl_lssI rfl (HF.ev rfl) (HF.ev rfl)) ?_; clear HF a; intro a HF
  refine wl_ne ?_
  refine HF.cases 14 rfl (fun cc2 HF1 => ?_) (fun cc2 HF1 => ?_)
  ·clear HF; have HF := HF1; clear HF1
   have dcc2 := of_decide_eq_true cc2
   refine wc_true HF rfl ?_
   refine wp_skip ?_
   refine ex_then ?_
   refine wp_seq ?_
   refine wp_block ?_
   refine wp_seq ?_
   refine wr_quiet (by kernel_rfl) (by kernel_rfl) HS.out ?_
   refine wq_y rfl HF rfl rfl (fun _ HS => (yl_move rfl (HF.ev rfl))) ?_; clear HF a; intro a HF
   refine wq_y rfl HF rfl rfl (fun _ HS => (yl_move rfl (HF.ev rfl))) ?_; clear HF a; intro a HF
   refine wq_y rfl HF rfl rfl (fun _ HS => (yl_indexAddrR (e := 9) (i := k) (size := 1) rfl (HF.ev rfl) (HF.ev rfl) (by kernel_rfl) rfl (by omega) (RA.out.ao k (by omega)))) ?_; clear HF a; intro a HF
   refine wq_y rfl HF rfl rfl (fun _ HS => (yl_load (v := .string (xs.getD k ByteArray.empty)) rfl (HF.ev rfl) (RA.out.elem1 HS (get_getD (xs := xs) (j := k) (d := ByteArray.empty) (by omega)) rfl) (by kernel_rfl))) ?_; clear HF a; intro a HF
   refine wq_y rfl HF rfl rfl (fun _ HS => (yl_move rfl (HF.ev rfl))) ?_; clear HF a; intro a HF
   refine wq_y rfl HF rfl rfl (fun _ HS => (yl_move rfl (HF.ev rfl))) ?_; clear HF a; intro a HF
   refine wq_y rfl HF rfl rfl (fun _ HS => (yl_indexAddrR (e := 9) (i := k) (size := 1) rfl (HF.ev rfl) (HF.ev rfl) (by kernel_rfl) rfl (by omega) (RB.out.ao k (by omega)))) ?_; clear HF a; intro a HF
   refine wq_y rfl HF rfl rfl (fun _ HS => (yl_load (v := .string (xs.getD k ByteArray.empty)) rfl (HF.ev rfl) (RB.out.elem1 HS (get_getD (xs := xs) (j := k) (d := ByteArray.empty) (by omega)) rfl) (by kernel_rfl))) ?_; clear HF a; intro a HF
   refine wq_y rfl HF rfl rfl (fun _ HS => (yl_neqS rfl (HF.ev rfl) (HF.ev rfl))) ?_; clear HF a; intro a HF
   refine wpQuiet_nil ?_; intro w2 HS; replace HS := Bx.mk HS
   refine ex_then ?_
   refine HF.cases 25 rfl (fun cc3 HF1 => ?_) (fun cc3 HF1 => ?_)
   ·clear HF; have HF := HF1; clear HF1
    exact absurd cc3 (by simp)
   ·clear HF; have HF := HF1; clear HF1
    refine wc_false HF rfl ?_
    refine wp_skip ?_
    refine ex_block ?_
    refine ex_then ?_
    refine wp_region_lit ?_
    refine wl_mv HF rfl rfl rfl rfl rfl ?_; clear HF a; intro a HF
    refine wl_y rfl HF rfl rfl (yl_addI rfl (HF.ev rfl) (HF.ev rfl) (i64w (by omega))) ?_; clear HF a; intro a HF
    refine wl_as HF rfl rfl rfl rfl rfl ?_; clear HF a; intro a HF
    refine wl_ne ?_
    exact ⟨k + 1, ⟨(by omega), HF.less _ ⟨rfl, rfl, rfl, rfl, trivial⟩, HS.out⟩, (by omega)⟩
  ·clear HF; have HF := HF1; clear HF1
   have dcc2 := of_decide_eq_false cc2
   refine wc_false HF rfl ?_
   refine wp_exit ?_
   refine ex_then_exit ?_
   refine ex_then_exit ?_
   refine ex_block_hit ?_
   refine ex_then ?_
   refine wp_sr ?_
   refine wl_as HF rfl rfl rfl rfl rfl ?_; clear HF a; intro a HF
   refine wl_ne ?_
   refine wp_ret ?_
   refine bp_ret1 HF Try.results126 (HF.res rfl) ?_
   exact ⟨rfl, HS.out.bel⟩

theorem pfDisk_yes (p q : HD) (hd : q.d = p.d) (w0 : World) (hf : p.d.fits) (hp : p.reads w0) (hq : q.reads w0) : Calls Try.prog 57 #[.agg #[.slice p.a0 p.d.fCells.length p.c0, .slice p.a1 p.d.fWaits.length p.c1, .bool p.d.fGone], .agg #[.slice q.a0 q.d.fCells.length q.c0, .slice q.a1 q.d.fWaits.length q.c1, .bool q.d.fGone]] w0 fun e w' => e = .returned (.bool true) ∧ Below w0.heap.size w0 w' := by
 obtain ⟨a0, c0, a1, c1, d⟩ := p; obtain ⟨z0, e0, z1, e1, d2⟩ := q; obtain rfl : d2 = d := hd
 have hw : d2.fWaits.length ≤ 1048576 := hf.w
 obtain ⟨d, rfl⟩ : ∃ d, d = d2 := ⟨_, rfl⟩
 have HP := Bx.mk hp; have HQ := Bx.mk hq; clear hp hq
 obtain ⟨g0, o0, r0⟩ := HP.out.rw.opn; have RA : Bx (Rg WaitD.cells 2 w0 a1 d.fWaits.length g0 o0 d.fWaits) := ⟨r0⟩; obtain ⟨g1, o1, r1⟩ := HQ.out.rw.opn; have RB : Bx (Rg WaitD.cells 2 w0 z1 d.fWaits.length g1 o1 d.fWaits) := ⟨r1⟩; clear r0 r1
 have HS := Bx.mk (St.start w0)
 refine wc_enter Try.func57 rfl Try.ntmps57 [(0, .agg #[.slice a0 d.fCells.length c0, .slice a1 d.fWaits.length c1, .bool d.fGone]), (1, .agg #[.slice z0 d.fCells.length e0, .slice z1 d.fWaits.length e1, .bool d.fGone])] ⟨rfl, rfl, trivial⟩ rfl ?_; intro a HF
 refine wp_sr ?_
 refine wl_box rfl HF rfl (HF.ev rfl) (Z := [.slice a0 d.fCells.length c0, .slice a1 d.fWaits.length c1, .bool d.fGone]) rfl rfl rfl rfl HS.out ?_; clear HF HS a; intro a w1 b1 HF HS; replace HS := Bx.mk HS
 refine wl_box rfl HF rfl (HF.ev rfl) (Z := [.slice z0 d.fCells.length e0, .slice z1 d.fWaits.length e1, .bool d.fGone]) rfl rfl rfl rfl HS.out ?_; clear HF HS a; intro a w2 b2 HF HS; replace HS := Bx.mk HS
 refine wl_as HF rfl rfl rfl rfl rfl ?_; clear HF a; intro a HF
 refine wl_ne ?_
 refine wp_seq ?_
 refine wp_sr ?_
 refine wl_y rfl HF rfl rfl (yl_fieldAddr (j := 0) rfl (HF.ev rfl) (by kernel_rfl)) ?_; clear HF a; intro a HF
 refine wl_y rfl HF rfl rfl (yl_load (v := .slice a0 d.fCells.length c0) rfl (HF.ev rfl) (((HS.out.box 1 rfl).cell 0).trans rfl) (by kernel_rfl)) ?_; clear HF a; intro a HF
 refine wl_y rfl HF rfl rfl (yl_fieldAddr (j := 0) rfl (HF.ev rfl) (by kernel_rfl)) ?_; clear HF a; intro a HF
 refine wl_y rfl HF rfl rfl (yl_load (v := .slice z0 d.fCells.length e0) rfl (HF.ev rfl) (((HS.out.box 0 rfl).cell 0).trans rfl) (by kernel_rfl)) ?_; clear HF a; intro a HF
 refine wl_callB rfl HF rfl (enter_of Try.func126 (by kernel_rfl) rfl) (args := #[.slice a0 d.fCells.length c0, .slice z0 d.fCells.length e0]) rfl (v := .bool true) ((pfTexts_yes _ _ _ _ _ _ hf.c (HP.out.rc.below HS.out.bel) (HQ.out.rc.below HS.out.bel))) rfl rfl HS.out ?_; clear HF HS a; intro w3 a HS HF; replace HS := Bx.mk HS
 refine wl_y rfl HF rfl rfl (yl_not rfl (HF.ev rfl)) ?_; clear HF a; intro a HF
 refine wl_mv HF rfl rfl rfl rfl rfl ?_; clear HF a; intro a HF
 refine wl_yg HF rfl rfl rfl rfl rfl (yl_fieldAddr (j := 1) rfl (HF.ev rfl) (by kernel_rfl)) ?_; clear HF a; intro a HF
 refine wl_yg HF rfl rfl rfl rfl rfl (yl_load (v := .slice a1 d.fWaits.length c1) rfl (HF.ev rfl) (((HS.out.box 1 rfl).cell 1).trans rfl) (by kernel_rfl)) ?_; clear HF a; intro a HF
 refine wl_yg HF rfl rfl rfl rfl rfl (yl_lenL (e := 144) (size := 2) rfl (HF.ev rfl) (by kernel_rfl)) ?_; clear HF a; intro a HF
 refine wl_yg HF rfl rfl rfl rfl rfl (yl_fieldAddr (j := 1) rfl (HF.ev rfl) (by kernel_rfl)) ?_; clear HF a; intro a HF
 refine wl_yg HF rfl rfl rfl rfl rfl (yl_load (v := .slice z1 d.fWaits.length e1) rfl (HF.ev rfl) (((HS.out.box 0 rfl).cell 1).trans rfl) (by kernel_rfl)) ?_; clear HF a; intro a HF
 refine wl_yg HF rfl rfl rfl rfl rfl (yl_lenL (e := 144) (size := 2) rfl (HF.ev rfl) (by kernel_rfl)) ?_; clear HF a; intro a HF
 refine wl_yg HF rfl rfl rfl rfl rfl (yl_neqI rfl (HF.ev rfl) (HF.ev rfl)) ?_; clear HF a; intro a HF
 refine wl_y rfl HF rfl rfl (yl_pick_f rfl (HF.ev rfl) (HF.ev rfl)) ?_; clear HF a; intro a HF
 refine wl_mv HF rfl rfl rfl rfl rfl ?_; clear HF a; intro a HF
 refine HF.cases 21 rfl (fun cc1 HF1 => ?_) (fun cc1 HF1 => ?_)
 ·clear HF; have HF := HF1; clear HF1
  exact absurd cc1 (by simp)
 ·clear HF; have HF := HF1; clear HF1
  have dcc1 := bne_eq_false_iff_eq.1 cc1
  refine wl_yg HF rfl rfl rfl rfl rfl (yl_fieldAddr (j := 2) rfl (HF.ev rfl) (by kernel_rfl)) ?_; clear HF a; intro a HF
  refine wl_yg HF rfl rfl rfl rfl rfl (yl_load (v := .bool d.fGone) rfl (HF.ev rfl) (((HS.out.box 1 rfl).cell 2).trans rfl) (by kernel_rfl)) ?_; clear HF a; intro a HF
  refine wl_yg HF rfl rfl rfl rfl rfl (yl_fieldAddr (j := 2) rfl (HF.ev rfl) (by kernel_rfl)) ?_; clear HF a; intro a HF
  refine wl_yg HF rfl rfl rfl rfl rfl (yl_load (v := .bool d.fGone) rfl (HF.ev rfl) (((HS.out.box 0 rfl).cell 2).trans rfl) (by kernel_rfl)) ?_; clear HF a; intro a HF
  refine wl_yg HF rfl rfl rfl rfl rfl (yl_neqBs rfl (HF.ev rfl) (HF.ev rfl) (by kernel_rfl)) ?_; clear HF a; intro a HF
  refine wl_y rfl HF rfl rfl (yl_pick_f rfl (HF.ev rfl) (HF.ev rfl)) ?_; clear HF a; intro a HF
  refine wl_ne ?_
  refine wc_false HF rfl ?_
  refine wp_skip ?_
  refine ex_then ?_
  refine wp_seq ?_
  refine wp_sr ?_
  refine wl_as HF rfl rfl rfl rfl rfl ?_; clear HF a; intro a HF
  refine wl_ne ?_
  refine wp_block ?_
  refine wc_loop (ι := Nat) (fun k a w => (k ≤ d.fWaits.length) ∧ Fr 46 a [(2, .pointer (some ⟨b1, 0, none⟩)), (3, .pointer (some ⟨b2, 0, none⟩)), (4, .bool false), (5, .int .i64 (k : Int))] ∧ St w0 ([boxA b2 3 44 (.agg #[.slice z0 d.fCells.length e0, .slice z1 d.fWaits.length e1, .bool d.fGone]), boxA b1 3 44 (.agg #[.slice a0 d.fCells.length c0, .slice a1 d.fWaits.length c1, .bool d.fGone])]) w) (fun k => d.fWaits.length - k) 0 ⟨Nat.zero_le _, HF.less _ ⟨rfl, rfl, rfl, rfl, trivial⟩, HS.out⟩ ?_
  clear HF HS; clear a
  rintro k a w4 ⟨hk, HF, HS⟩
  replace HS := Bx.mk HS
  refine wp_seq ?_
  refine wp_sr ?_
  refine wl_mv HF rfl rfl rfl rfl rfl ?_; clear HF a; intro a HF
  refine wl_y rfl HF rfl rfl (yl_fieldAddr (j := 1) rfl (HF.ev rfl) (by kernel_rfl)) ?_; clear HF a; intro a HF
  refine wl_y rfl HF rfl rfl (yl_load (v := .slice a1 d.fWaits.length c1) rfl (HF.ev rfl) (((HS.out.box 1 rfl).cell 1).trans rfl) (by kernel_rfl)) ?_; clear HF a; intro a HF
  refine wl_y rfl HF rfl rfl (yl_lenL (e := 144) (size := 2) rfl (HF.ev rfl) (by kernel_rfl)) ?_; clear HF a; intro a HF
  refine wl_y rfl HF rfl rfl (yl_lssI rfl (HF.ev rfl) (HF.ev rfl)) ?_; clear HF a; intro a HF
  refine wl_ne ?_
  refine HF.cases 32 rfl (fun cc2 HF1 => ?_) (fun cc2 HF1 => ?_)
  ·clear HF; have HF := HF1; clear HF1
   have dcc2 := of_decide_eq_true cc2
   refine wc_true HF rfl ?_
   refine wp_skip ?_
   refine ex_then ?_
   refine wp_seq ?_
   refine wp_block ?_
   refine wp_seq ?_
   refine wr_quiet (by kernel_rfl) (by kernel_rfl) HS.out ?_
   refine wq_y rfl HF rfl rfl (fun _ HS => (yl_fieldAddr (j := 1) rfl (HF.ev rfl) (by kernel_rfl))) ?_; clear HF a; intro a HF
   refine wq_y rfl HF rfl rfl (fun _ HS => (yl_load (v := .slice a1 d.fWaits.length c1) rfl (HF.ev rfl) (((HS.box 1 rfl).cell 1).trans rfl) (by kernel_rfl))) ?_; clear HF a; intro a HF
   refine wq_y rfl HF rfl rfl (fun _ HS => (yl_move rfl (HF.ev rfl))) ?_; clear HF a; intro a HF
   refine wq_y rfl HF rfl rfl (fun _ HS => (yl_indexAddrR (e := 144) (i := k) (size := 2) rfl (HF.ev rfl) (HF.ev rfl) (by kernel_rfl) rfl (by omega) (RA.out.ao k (by omega)))) ?_; clear HF a; intro a HF
   refine wq_y rfl HF rfl rfl (fun _ HS => (yl_loadR (cs := [.int .i64 ((d.fWaits.getD k default).fAt), .string ((d.fWaits.getD k default).fText)]) rfl (HF.ev rfl) (RA.out.elem HS (get_getD (xs := d.fWaits) (j := k) (d := default) (by omega))) (by kernel_rfl))) ?_; clear HF a; intro a HF
   refine wq_y rfl HF rfl rfl (fun _ HS => (yl_fieldAddr (j := 1) rfl (HF.ev rfl) (by kernel_rfl))) ?_; clear HF a; intro a HF
   refine wq_y rfl HF rfl rfl (fun _ HS => (yl_load (v := .slice z1 d.fWaits.length e1) rfl (HF.ev rfl) (((HS.box 0 rfl).cell 1).trans rfl) (by kernel_rfl))) ?_; clear HF a; intro a HF
   refine wq_y rfl HF rfl rfl (fun _ HS => (yl_move rfl (HF.ev rfl))) ?_; clear HF a; intro a HF
   refine wq_y rfl HF rfl rfl (fun _ HS => (yl_indexAddrR (e := 144) (i := k) (size := 2) rfl (HF.ev rfl) (HF.ev rfl) (by kernel_rfl) rfl (by omega) (RB.out.ao k (by omega)))) ?_; clear HF a; intro a HF
   refine wq_y rfl HF rfl rfl (fun _ HS => (yl_loadR (cs := [.int .i64 ((d.fWaits.getD k default).fAt), .string ((d.fWaits.getD k default).fText)]) rfl (HF.ev rfl) (RB.out.elem HS (get_getD (xs := d.fWaits) (j := k) (d := default) (by omega))) (by kernel_rfl))) ?_; clear HF a; intro a HF
   refine wq_y rfl HF rfl rfl (fun _ HS => (yl_neqWt (d.fWaits.getD k default) rfl (HF.ev rfl) (HF.ev rfl))) ?_; clear HF a; intro a HF
   refine wpQuiet_nil ?_; intro w5 HS; replace HS := Bx.mk HS
   refine ex_then ?_
   refine wc_false HF rfl ?_
   refine wp_skip ?_
   refine ex_block ?_
   refine ex_then ?_
   refine wp_region_lit ?_
   refine wl_mv HF rfl rfl rfl rfl rfl ?_; clear HF a; intro a HF
   refine wl_y rfl HF rfl rfl (yl_addI rfl (HF.ev rfl) (HF.ev rfl) (i64w (by omega))) ?_; clear HF a; intro a HF
   refine wl_as HF rfl rfl rfl rfl rfl ?_; clear HF a; intro a HF
   refine wl_ne ?_
   exact ⟨k + 1, ⟨(by omega), HF.less _ ⟨rfl, rfl, rfl, rfl, trivial⟩, HS.out⟩, (by omega)⟩
  ·clear HF; have HF := HF1; clear HF1
   have dcc2 := of_decide_eq_false cc2
   refine wc_false HF rfl ?_
   refine wp_exit ?_
   refine ex_then_exit ?_
   refine ex_then_exit ?_
   refine ex_block_hit ?_
   refine ex_then ?_
   refine wp_sr ?_
   refine wl_as HF rfl rfl rfl rfl rfl ?_; clear HF a; intro a HF
   refine wl_ne ?_
   refine wp_ret ?_
   refine bp_ret1 HF Try.results57 (HF.res rfl) ?_
   exact ⟨rfl, HS.out.bel⟩

theorem pfRaid_yes (a0 a1 : Option Addr) (c0 c1 n : Nat) (ps qs : List HD) (hn : n = qs.length) (hd : dsOf qs = dsOf ps) (w0 : World) (hl : ps.length ≤ 1048576) (hf : fitsL ps) (hp : rdsP a0 ps w0) (hq : rdsP a1 qs w0) : Calls Try.prog 12 #[.agg #[.slice a0 ps.length c0], .agg #[.slice a1 n c1]] w0 fun e w' => e = .returned (.bool true) ∧ Below w0.heap.size w0 w' := by
 have hql : qs.length = ps.length := by rw [← dsOf_len, hd, dsOf_len]
 rw [hql] at hn; subst hn
 have hP := hp.at; have hQ := hq.at; rw [hql] at hQ
 have hpq : ∀ k, (qs.getD k default).d = (ps.getD k default).d := fun k => by rw [← dsOf_get, hd, dsOf_get]
 obtain ⟨g0, o0, r0⟩ := hp.1.opn; have RA := Bx.mk r0; obtain ⟨g1, o1, r1⟩ := hq.1.opn; rw [hql] at r1; have RB := Bx.mk r1; clear r0 r1 hp hq
 have HS := Bx.mk (St.start w0)
 refine wc_enter Try.func12 rfl Try.ntmps12 [(0, .agg #[.slice a0 ps.length c0]), (1, .agg #[.slice a1 ps.length c1])] ⟨rfl, rfl, trivial⟩ rfl ?_; intro a HF
 refine wp_sr ?_
 refine wl_box rfl HF rfl (HF.ev rfl) (Z := [.slice a0 ps.length c0]) rfl rfl rfl rfl HS.out ?_; clear HF HS a; intro a w1 b1 HF HS; replace HS := Bx.mk HS
 refine wl_box rfl HF rfl (HF.ev rfl) (Z := [.slice a1 ps.length c1]) rfl rfl rfl rfl HS.out ?_; clear HF HS a; intro a w2 b2 HF HS; replace HS := Bx.mk HS
 refine wl_as HF rfl rfl rfl rfl rfl ?_; clear HF a; intro a HF
 refine wl_ne ?_
 refine wp_seq ?_
 refine wp_sr ?_
 refine wl_y rfl HF rfl rfl (yl_fieldAddr (j := 0) rfl (HF.ev rfl) (by kernel_rfl)) ?_; clear HF a; intro a HF
 refine wl_y rfl HF rfl rfl (yl_load (v := .slice a0 ps.length c0) rfl (HF.ev rfl) (((HS.out.box 1 rfl).cell 0).trans rfl) (by kernel_rfl)) ?_; clear HF a; intro a HF
 refine wl_y rfl HF rfl rfl (yl_lenL (e := 44) (size := 3) rfl (HF.ev rfl) (by kernel_rfl)) ?_; clear HF a; intro a HF
 refine wl_y rfl HF rfl rfl (yl_fieldAddr (j := 0) rfl (HF.ev rfl) (by kernel_rfl)) ?_; clear HF a; intro a HF
 refine wl_y rfl HF rfl rfl (yl_load (v := .slice a1 ps.length c1) rfl (HF.ev rfl) (((HS.out.box 0 rfl).cell 0).trans rfl) (by kernel_rfl)) ?_; clear HF a; intro a HF
 refine wl_y rfl HF rfl rfl (yl_lenL (e := 44) (size := 3) rfl (HF.ev rfl) (by kernel_rfl)) ?_; clear HF a; intro a HF
 refine wl_y rfl HF rfl rfl (yl_neqI rfl (HF.ev rfl) (HF.ev rfl)) ?_; clear HF a; intro a HF
 refine wl_ne ?_
 refine HF.cases 12 rfl (fun cc1 HF1 => ?_) (fun cc1 HF1 => ?_)
 ·clear HF; have HF := HF1; clear HF1
  exact absurd cc1 (by simp)
 ·clear HF; have HF := HF1; clear HF1
  have dcc1 := bne_eq_false_iff_eq.1 cc1
  refine wc_false HF rfl ?_
  refine wp_skip ?_
  refine ex_then ?_
  refine wp_seq ?_
  refine wp_sr ?_
  refine wl_as HF rfl rfl rfl rfl rfl ?_; clear HF a; intro a HF
  refine wl_ne ?_
  refine wp_block ?_
  refine wc_loop (ι := Nat) (fun k a w => (k ≤ ps.length) ∧ Fr 32 a [(2, .pointer (some ⟨b1, 0, none⟩)), (3, .pointer (some ⟨b2, 0, none⟩)), (4, .bool false), (5, .int .i64 (k : Int))] ∧ St w0 ([boxA b2 1 25 (.agg #[.slice a1 ps.length c1]), boxA b1 1 25 (.agg #[.slice a0 ps.length c0])]) w) (fun k => ps.length - k) 0 ⟨Nat.zero_le _, HF.less _ ⟨rfl, rfl, rfl, rfl, trivial⟩, HS.out⟩ ?_
  clear HF HS; clear a
  rintro k a w3 ⟨hk, HF, HS⟩
  replace HS := Bx.mk HS
  refine wp_seq ?_
  refine wp_sr ?_
  refine wl_mv HF rfl rfl rfl rfl rfl ?_; clear HF a; intro a HF
  refine wl_y rfl HF rfl rfl (yl_fieldAddr (j := 0) rfl (HF.ev rfl) (by kernel_rfl)) ?_; clear HF a; intro a HF
  refine wl_y rfl HF rfl rfl (yl_load (v := .slice a0 ps.length c0) rfl (HF.ev rfl) (((HS.out.box 1 rfl).cell 0).trans rfl) (by kernel_rfl)) ?_; clear HF a; intro a HF
  refine wl_y rfl HF rfl rfl (yl_lenL (e := 44) (size := 3) rfl (HF.ev rfl) (by kernel_rfl)) ?_; clear HF a; intro a HF
  refine wl_y rfl HF rfl rfl (yl_lssI rfl (HF.ev rfl) (HF.ev rfl)) ?_; clear HF a; intro a HF
  refine wl_ne ?_
  refine HF.cases 17 rfl (fun cc2 HF1 => ?_) (fun cc2 HF1 => ?_)
  ·clear HF; have HF := HF1; clear HF1
   have dcc2 := of_decide_eq_true cc2
   refine wc_true HF rfl ?_
   refine wp_skip ?_
   refine ex_then ?_
   refine wp_seq ?_
   refine wp_block ?_
   refine wp_seq ?_
   refine wr_quiet (by kernel_rfl) (by kernel_rfl) HS.out ?_
   refine wq_y rfl HF rfl rfl (fun _ HS => (yl_fieldAddr (j := 0) rfl (HF.ev rfl) (by kernel_rfl))) ?_; clear HF a; intro a HF
   refine wq_y rfl HF rfl rfl (fun _ HS => (yl_load (v := .slice a0 ps.length c0) rfl (HF.ev rfl) (((HS.box 1 rfl).cell 0).trans rfl) (by kernel_rfl))) ?_; clear HF a; intro a HF
   refine wq_y rfl HF rfl rfl (fun _ HS => (yl_move rfl (HF.ev rfl))) ?_; clear HF a; intro a HF
   refine wq_y rfl HF rfl rfl (fun _ HS => (yl_indexAddrR (e := 44) (i := k) (size := 3) rfl (HF.ev rfl) (HF.ev rfl) (by kernel_rfl) rfl (by omega) (RA.out.ao k (by omega)))) ?_; clear HF a; intro a HF
   refine wq_y rfl HF rfl rfl (fun _ HS => (yl_loadR (cs := [.slice ((ps.getD k default).a0) ((ps.getD k default).d.fCells.length) ((ps.getD k default).c0), .slice ((ps.getD k default).a1) ((ps.getD k default).d.fWaits.length) ((ps.getD k default).c1), .bool ((ps.getD k default).d.fGone)]) rfl (HF.ev rfl) (RA.out.elem HS (get_getD (xs := ps) (j := k) (d := default) (by omega))) (by kernel_rfl))) ?_; clear HF a; intro a HF
   refine wq_y rfl HF rfl rfl (fun _ HS => (yl_fieldAddr (j := 0) rfl (HF.ev rfl) (by kernel_rfl))) ?_; clear HF a; intro a HF
   refine wq_y rfl HF rfl rfl (fun _ HS => (yl_load (v := .slice a1 ps.length c1) rfl (HF.ev rfl) (((HS.box 0 rfl).cell 0).trans rfl) (by kernel_rfl))) ?_; clear HF a; intro a HF
   refine wq_y rfl HF rfl rfl (fun _ HS => (yl_move rfl (HF.ev rfl))) ?_; clear HF a; intro a HF
   refine wq_y rfl HF rfl rfl (fun _ HS => (yl_indexAddrR (e := 44) (i := k) (size := 3) rfl (HF.ev rfl) (HF.ev rfl) (by kernel_rfl) rfl (by omega) (RB.out.ao k (by omega)))) ?_; clear HF a; intro a HF
   refine wq_y rfl HF rfl rfl (fun _ HS => (yl_loadR (cs := [.slice ((qs.getD k default).a0) ((qs.getD k default).d.fCells.length) ((qs.getD k default).c0), .slice ((qs.getD k default).a1) ((qs.getD k default).d.fWaits.length) ((qs.getD k default).c1), .bool ((qs.getD k default).d.fGone)]) rfl (HF.ev rfl) (RB.out.elem HS (get_getD (xs := qs) (j := k) (d := default) (by omega))) (by kernel_rfl))) ?_; clear HF a; intro a HF
   refine wq_call rfl HF rfl (enter_of Try.func57 (by kernel_rfl) rfl) (args := #[.agg #[.slice ((ps.getD k default).a0) ((ps.getD k default).d.fCells.length) ((ps.getD k default).c0), .slice ((ps.getD k default).a1) ((ps.getD k default).d.fWaits.length) ((ps.getD k default).c1), .bool ((ps.getD k default).d.fGone)], .agg #[.slice ((qs.getD k default).a0) ((qs.getD k default).d.fCells.length) ((qs.getD k default).c0), .slice ((qs.getD k default).a1) ((qs.getD k default).d.fWaits.length) ((qs.getD k default).c1), .bool ((qs.getD k default).d.fGone)]]) rfl (v := .bool true) (fun _ HS => (pfDisk_yes (ps.getD k default) (qs.getD k default) (hpq k) _ (hf.at k) ((hP k (by omega)).below HS.bel) ((hQ k (by omega)).below HS.bel))) rfl rfl ?_; clear HF a; intro a HF
   refine wq_y rfl HF rfl rfl (fun _ HS => (yl_not rfl (HF.ev rfl))) ?_; clear HF a; intro a HF
   refine wpQuiet_nil ?_; intro w4 HS; replace HS := Bx.mk HS
   refine ex_then ?_
   refine wc_false HF rfl ?_
   refine wp_skip ?_
   refine ex_block ?_
   refine ex_then ?_
   refine wp_region_lit ?_
   refine wl_mv HF rfl rfl rfl rfl rfl ?_; clear HF a; intro a HF
   refine wl_y rfl HF rfl rfl (yl_addI rfl (HF.ev rfl) (HF.ev rfl) (i64w (by omega))) ?_; clear HF a; intro a HF
   refine wl_as HF rfl rfl rfl rfl rfl ?_; clear HF a; intro a HF
   refine wl_ne ?_
   exact ⟨k + 1, ⟨(by omega), HF.less _ ⟨rfl, rfl, rfl, rfl, trivial⟩, HS.out⟩, (by omega)⟩
  ·clear HF; have HF := HF1; clear HF1
   have dcc2 := of_decide_eq_false cc2
   refine wc_false HF rfl ?_
   refine wp_exit ?_
   refine ex_then_exit ?_
   refine ex_then_exit ?_
   refine ex_block_hit ?_
   refine ex_then ?_
   refine wp_sr ?_
   refine wl_as HF rfl rfl rfl rfl rfl ?_; clear HF a; intro a HF
   refine wl_ne ?_
   refine wp_ret ?_
   refine bp_ret1 HF Try.results12 (HF.res rfl) ?_
   exact ⟨rfl, HS.out.bel⟩

/-- How many disks are gone. -/
def lostN (ds : List DiskD) : Nat → Nat
  | 0 => 0
  | k + 1 => lostN ds k + (ds.getD k default).fGone.toNat
theorem lostN_le (ds : List DiskD) : ∀ k, lostN ds k ≤ k
  | 0 => Nat.le_refl _
  | k + 1 => by have := lostN_le ds k; unfold lostN; cases (ds.getD k default).fGone <;> simp <;> omega
theorem lostN_yes {ds : List DiskD} {k : Nat} (h : (ds.getD k default).fGone = true) : lostN ds (k + 1) = lostN ds k + 1 := by show lostN ds k + _ = _; rw [h]; rfl
theorem lostN_no {ds : List DiskD} {k : Nat} (h : (ds.getD k default).fGone = false) : lostN ds (k + 1) = lostN ds k := by show lostN ds k + _ = _; rw [h]; rfl

theorem pfLost_any (a0 : Option Addr) (c0 : Nat) (ps : List HD) (w0 : World) (hl : ps.length ≤ 1048576) (hp : rdsP a0 ps w0) : Calls Try.prog 13 #[.agg #[.slice a0 ps.length c0]] w0 fun e w' => e = .returned (.int .i64 (lostN (dsOf ps) ps.length : Int)) ∧ Below w0.heap.size w0 w' := by
 obtain ⟨g0, o0, r0⟩ := hp.1.opn; have RA := Bx.mk r0; clear r0 hp
 have HS := Bx.mk (St.start w0)
 refine wc_enter Try.func13 rfl Try.ntmps13 [(0, .agg #[.slice a0 ps.length c0])] ⟨rfl, trivial⟩ rfl ?_; intro a HF
 refine wp_sr ?_
 refine wl_box rfl HF rfl (HF.ev rfl) (Z := [.slice a0 ps.length c0]) rfl rfl rfl rfl HS.out ?_; clear HF HS a; intro a w1 b1 HF HS; replace HS := Bx.mk HS
 refine wl_as HF rfl rfl rfl rfl rfl ?_; clear HF a; intro a HF
 refine wl_ne ?_
 refine wp_sr ?_
 refine wl_as HF rfl rfl rfl rfl rfl ?_; clear HF a; intro a HF
 refine wl_ne ?_
 refine wp_seq ?_
 refine wp_sr ?_
 refine wl_as HF rfl rfl rfl rfl rfl ?_; clear HF a; intro a HF
 refine wl_ne ?_
 refine wp_block ?_
 refine wc_loop (ι := Nat) (fun k a w => (k ≤ ps.length) ∧ Fr 21 a [(1, .pointer (some ⟨b1, 0, none⟩)), (2, .int .i64 0), (3, .int .i64 (lostN (dsOf ps) k : Int)), (4, .int .i64 (k : Int))] ∧ St w0 ([boxA b1 1 25 (.agg #[.slice a0 ps.length c0])]) w) (fun k => ps.length - k) 0 ⟨Nat.zero_le _, HF.less _ ⟨rfl, rfl, rfl, rfl, trivial⟩, HS.out⟩ ?_
 clear HF HS; clear a
 rintro k a w2 ⟨hk, HF, HS⟩
 replace HS := Bx.mk HS
 have hlk := lostN_le (dsOf ps) k
 refine wp_seq ?_
 refine wp_sr ?_
 refine wl_mv HF rfl rfl rfl rfl rfl ?_; clear HF a; intro a HF
 refine wl_y rfl HF rfl rfl (yl_fieldAddr (j := 0) rfl (HF.ev rfl) (by kernel_rfl)) ?_; clear HF a; intro a HF
 refine wl_y rfl HF rfl rfl (yl_load (v := .slice a0 ps.length c0) rfl (HF.ev rfl) (((HS.out.box 0 rfl).cell 0).trans rfl) (by kernel_rfl)) ?_; clear HF a; intro a HF
 refine wl_y rfl HF rfl rfl (yl_lenL (e := 44) (size := 3) rfl (HF.ev rfl) (by kernel_rfl)) ?_; clear HF a; intro a HF
 refine wl_y rfl HF rfl rfl (yl_lssI rfl (HF.ev rfl) (HF.ev rfl)) ?_; clear HF a; intro a HF
 refine wl_ne ?_
 refine HF.cases 9 rfl (fun cc1 HF1 => ?_) (fun cc1 HF1 => ?_)
 ·clear HF; have HF := HF1; clear HF1
  have dcc1 := of_decide_eq_true cc1
  refine wc_true HF rfl ?_
  refine wp_skip ?_
  refine ex_then ?_
  refine wp_seq ?_
  refine wp_block ?_
  refine wp_sr ?_
  refine wl_y rfl HF rfl rfl (yl_fieldAddr (j := 0) rfl (HF.ev rfl) (by kernel_rfl)) ?_; clear HF a; intro a HF
  refine wl_y rfl HF rfl rfl (yl_load (v := .slice a0 ps.length c0) rfl (HF.ev rfl) (((HS.out.box 0 rfl).cell 0).trans rfl) (by kernel_rfl)) ?_; clear HF a; intro a HF
  refine wl_mv HF rfl rfl rfl rfl rfl ?_; clear HF a; intro a HF
  refine wl_y rfl HF rfl rfl (yl_indexAddrR (e := 44) (i := k) (size := 3) rfl (HF.ev rfl) (HF.ev rfl) (by kernel_rfl) rfl (by omega) (RA.out.ao k (by omega))) ?_; clear HF a; intro a HF
  refine wl_y rfl HF rfl rfl (yl_fieldAddr (j := 2) rfl (HF.ev rfl) (by kernel_rfl)) ?_; clear HF a; intro a HF
  refine wl_y rfl HF rfl rfl (yl_load (v := .bool ((ps.getD k default).d.fGone)) rfl (HF.ev rfl) (RA.out.elem HS.out (get_getD (xs := ps) (j := k) (d := default) (by omega)) 2 _ rfl) (by kernel_rfl)) ?_; clear HF a; intro a HF
  refine wl_ne ?_
  refine HF.cases 17 rfl (fun cc2 HF1 => ?_) (fun cc2 HF1 => ?_)
  ·clear HF; have HF := HF1; clear HF1
   refine wc_true HF rfl ?_
   refine wp_region_lit ?_
   refine wl_mv HF rfl rfl rfl rfl rfl ?_; clear HF a; intro a HF
   refine wl_y rfl HF rfl rfl (yl_addI rfl (HF.ev rfl) (HF.ev rfl) (i64w (by omega))) ?_; clear HF a; intro a HF
   refine wl_as HF rfl rfl rfl rfl rfl ?_; clear HF a; intro a HF
   refine wpList_nil ?_
   refine ex_block ?_
   refine ex_then ?_
   refine wp_region_lit ?_
   refine wl_mv HF rfl rfl rfl rfl rfl ?_; clear HF a; intro a HF
   refine wl_y rfl HF rfl rfl (yl_addI rfl (HF.ev rfl) (HF.ev rfl) (i64w (by omega))) ?_; clear HF a; intro a HF
   refine wl_as HF rfl rfl rfl rfl rfl ?_; clear HF a; intro a HF
   refine wl_ne ?_
   have hnx : lostN (dsOf ps) (k + 1) = lostN (dsOf ps) k + 1 := lostN_yes (by rw [dsOf_get]; exact cc2)
   exact ⟨k + 1, ⟨(by omega), HF.less _ ⟨rfl, rfl, (by show some (Value.int .i64 _) = some (Value.int .i64 _); exact congrArg (fun z => some (Value.int .i64 z)) (by omega)), rfl, trivial⟩, HS.out⟩, (by omega)⟩
  ·clear HF; have HF := HF1; clear HF1
   refine wc_false HF rfl ?_
   refine wp_skip ?_
   refine ex_block ?_
   refine ex_then ?_
   refine wp_region_lit ?_
   refine wl_mv HF rfl rfl rfl rfl rfl ?_; clear HF a; intro a HF
   refine wl_y rfl HF rfl rfl (yl_addI rfl (HF.ev rfl) (HF.ev rfl) (i64w (by omega))) ?_; clear HF a; intro a HF
   refine wl_as HF rfl rfl rfl rfl rfl ?_; clear HF a; intro a HF
   refine wl_ne ?_
   have hnx : lostN (dsOf ps) (k + 1) = lostN (dsOf ps) k := lostN_no (by rw [dsOf_get]; exact cc2)
   exact ⟨k + 1, ⟨(by omega), HF.less _ ⟨rfl, rfl, (by show some (Value.int .i64 _) = some (Value.int .i64 _); exact congrArg (fun z => some (Value.int .i64 z)) (by omega)), rfl, trivial⟩, HS.out⟩, (by omega)⟩
 ·clear HF; have HF := HF1; clear HF1
  have dcc1 := of_decide_eq_false cc1
  refine wc_false HF rfl ?_
  refine wp_exit ?_
  refine ex_then_exit ?_
  refine ex_then_exit ?_
  refine ex_block_hit ?_
  refine ex_then ?_
  refine wp_sr ?_
  refine wl_mv HF rfl rfl rfl rfl rfl ?_; clear HF a; intro a HF
  refine wl_as HF rfl rfl rfl rfl rfl ?_; clear HF a; intro a HF
  refine wl_ne ?_
  refine wp_ret ?_
  refine bp_ret1 HF Try.results13 (HF.res rfl) ?_
  obtain rfl : k = ps.length := by omega
  exact ⟨rfl, HS.out.bel⟩

end Go.Proofs.Ytfijfjjleelphaa

/- The plain laws of healing and writing. -/
namespace Go.Proofs.Ytfijfjjleelphaa
set_option maxHeartbeats 1000000
set_option maxRecDepth 100000
open Go.RowKit
section
variable {P : Program} {ops : Array Oper} {Q : Exit → Act → World → Prop} {o : Oper} {a : Act} {w : World} {N : Nat} {l : List (Nat × Value)} {x : Operand} {K : Act → World → Prop} {i0 : Nat}
theorem wo_callv (hi0 : ops[i0]? = some o) (hg : o.guard = none) (hF : Fr N a l) {xs : Array Operand} {ts : Array TypeId} {f : FuncId} {first caps : Array Value} (ho : o.op = .call { callee := .value x, args := xs, argTypes := ts }) (hx : a.eval x = .func (.func f) first caps) (hc : ∀ (args : Array Value) (w : World), (callFunc f args).run P w = .ok (.enter f args) w)
    {args : Array Value} (hxs : xs.toList.mapM (evO l) = some args.toList) {R : Ending → World → Prop} (hR : Calls P f (first ++ args ++ caps) w R) {d : Nat} (hd : o.dst = some d) (hN : Nat.blt d N = true)
    (h : ∀ e w', R e w' → ∃ v, e = .returned v ∧ ∀ a', Fr N a' ((d, v) :: l) → K a' w') : wpOp P ops Q i0 K a w := by
  refine wo_of hi0 hg ?_
  unfold Oper.wp
  rw [run_callv ho hx hc, args_of hF hxs]
  refine Calls.mono hR fun e w' hr => ?_
  obtain ⟨v, hv, hk⟩ := h e w' hr
  subst hv
  exact hd ▸ hk _ (hF.put (Nat.le_of_ble_eq_true hN) v)
end
section
variable {P : Program} {o : Oper} {a : Act} {w : World} {t t' : TypeId} {x y : Operand}
theorem yl_eqlB (ho : o.op = .binOp .eql t x y t') {b c : Bool} (hx : a.eval x = .bool b) (hy : a.eval y = .bool c) (hu : P.underlying t = some .bool) : Yl P w o a (.bool (b == c)) := by
  have h : (Op.equal t (.bool b) (.bool c)).run P w = .ok (b == c) w := by
    unfold Op.equal Op.maxDepth
    rw [Op.equalIn]
    simp only [Sem.run_bind, run_underlying hu w, Result.andThen_ok, Sem.run_pure]
  unfold Yl execOp
  simp only [ho, hx, hy]
  simp [eqGuard, binOp, h]
theorem yl_eqlBs (ho : o.op = .binOp .eql t x y t') {b : Bool} (hx : a.eval x = .bool b) (hy : a.eval y = .bool b) (hu : P.underlying t = some .bool) : Yl P w o a (.bool true) := by
  have := yl_eqlB (P := P) (w := w) ho hx hy hu
  simpa using this
end
theorem pfLost_three (a0 : Option Addr) (c0 : Nat) (ps : List HD) (w0 : World) (hl : ps.length = 3) (hp : rdsP a0 ps w0) : Calls Try.prog 13 #[.agg #[.slice a0 ps.length c0]] w0 fun e w' => e = .returned (.int .i64 (lostN (dsOf ps) 3 : Int)) ∧ Below w0.heap.size w0 w' := by
  refine (pfLost_any a0 c0 ps w0 (by omega) hp).mono ?_
  rintro e w' ⟨rfl, hb⟩
  rw [hl]; exact ⟨rfl, hb⟩
theorem rds_nil (w : World) : rdsP none [] w := ⟨⟨rfl, fun i hi => absurd hi (Nat.not_lt_zero _)⟩, fun p h => by cases h⟩
theorem fitsL_nil : fitsL [] := fun p h => by cases h
/-- A disk has its column of a text, if it is there. -/
def hasCol (t : ByteArray) (m i : Nat) (d : DiskD) : Prop := d.fGone = true ∨ d.look m = colOf t i
theorem join_not {x0 x1 x2 : ByteArray} {n : Nat} {l : Int} (h : ¬ (l = -1 ∧ x0.size = half n ∧ x1.size = n - half n)) (h1 : ¬ (l = 0 ∧ x1.size = n - half n ∧ x2.size = half n)) (h2 : ¬ (l = 1 ∧ x0.size = half n ∧ x2.size = half n)) : joinB x0 x1 x2 n l = none := by
  unfold joinB; rw [if_neg h, if_neg h1, if_neg h2]
/-- What is read of a set of disks of which one at most is gone. -/
theorem readF_cols {x0 x1 x2 t : ByteArray} {p : PtrD} (h1 : 1 ≤ t.size) (h2 : t.size ≤ 128) (hf : p.fits t = true) (h : (x0 = col0 t ∧ x1 = col1 t) ∨ (x0.size = 200 ∧ x1 = col1 t ∧ x2 = col2 t) ∨ (x0 = col0 t ∧ x1.size = 200 ∧ x2 = col2 t)) : readF x0 x1 x2 p t.size = (t, true) := by
  have hb := half_bounds t.size h1
  rcases h with ⟨rfl, rfl⟩ | ⟨h0, rfl, rfl⟩ | ⟨rfl, h0, rfl⟩
  · unfold readF; rw [join_none t h1]; simp [hf]
  · have e : joinB x0 (col1 t) (col2 t) t.size (-1) = none := join_not (by rintro ⟨_, h, _⟩; omega) (by rintro ⟨h, _⟩; omega) (by rintro ⟨h, _⟩; omega)
    unfold readF; rw [e, join_zero t h1]; simp [hf]
  · have e : joinB (col0 t) x1 (col2 t) t.size (-1) = none := join_not (by rintro ⟨_, _, h⟩; omega) (by rintro ⟨h, _⟩; omega) (by rintro ⟨h, _⟩; omega)
    have e2 : joinB (col0 t) x1 (col2 t) t.size 0 = none := join_not (by rintro ⟨h, _⟩; omega) (by rintro ⟨_, h, _⟩; omega) (by rintro ⟨h, _⟩; omega)
    unfold readF; rw [e, e2, join_one t h1]; simp [hf]
theorem colS_col {t : ByteArray} {m i : Nat} {d : DiskD} (h : hasCol t m i d) : (d.fGone = true ∧ (colS d m).size = 200) ∨ (d.fGone = false ∧ colS d m = colOf t i) := by
  cases hg : d.fGone
  · rcases h with h | h
    · rw [hg] at h; cases h
    · exact .inr ⟨rfl, by unfold colS; rw [hg]; exact h⟩
  · exact .inl ⟨rfl, by unfold colS; rw [hg]; exact goneX_size⟩
theorem gone_le {ds : List DiskD} (h : lostN ds 3 ≤ 1) : ¬ ((ds.getD 0 default).fGone = true ∧ (ds.getD 1 default).fGone = true) ∧ ¬ ((ds.getD 0 default).fGone = true ∧ (ds.getD 2 default).fGone = true) ∧ ¬ ((ds.getD 1 default).fGone = true ∧ (ds.getD 2 default).fGone = true) := by
  simp only [lostN] at h
  refine ⟨?_, ?_, ?_⟩ <;> (rintro ⟨h1, h2⟩; rw [h1, h2] at h; simp at h) <;> omega
/-- A set of disks with the columns of a text gives it, if one disk at most is gone. -/
theorem readR_cols {ds : List DiskD} {p : PtrD} {t : ByteArray} (hok : okR ds = true) (hp : p.ok = true) (hh : p.hole = false) (hf : p.fits t = true) (hc : ∀ i, i < 3 → hasCol t p.fAt.toNat i (ds.getD i default)) (hl : lostN ds 3 ≤ 1) : readR ds p = (t, true) := by
  obtain ⟨_, _, hsz, _⟩ := PtrD.fits_size hf
  have hb := PtrD.ok_bounds hp hh
  have h1 : p.fSize.toNat = t.size := by omega
  unfold readR
  rw [hok, hp, hh]
  show readD ds p = _
  unfold readD
  rw [h1]
  obtain ⟨g1, g2, g3⟩ := gone_le hl
  refine readF_cols (by omega) (by omega) hf ?_
  rcases colS_col (hc 0 (by omega)) with ⟨a1, a2⟩ | ⟨a1, a2⟩
  · rcases colS_col (hc 1 (by omega)) with ⟨b1, b2⟩ | ⟨b1, b2⟩
    · exact absurd ⟨a1, b1⟩ g1
    · rcases colS_col (hc 2 (by omega)) with ⟨c1, c2⟩ | ⟨c1, c2⟩
      · exact absurd ⟨a1, c1⟩ g2
      · exact .inr (.inl ⟨a2, b2, c2⟩)
  · rcases colS_col (hc 1 (by omega)) with ⟨b1, b2⟩ | ⟨b1, b2⟩
    · rcases colS_col (hc 2 (by omega)) with ⟨c1, c2⟩ | ⟨c1, c2⟩
      · exact absurd ⟨b1, c1⟩ g3
      · exact .inr (.inr ⟨a2, b2, c2⟩)
    · exact .inl ⟨a2, b2⟩
theorem lostN_three {ds : List DiskD} : lostN ds 3 = (ds.getD 0 default).fGone.toNat + (ds.getD 1 default).fGone.toNat + (ds.getD 2 default).fGone.toNat := by simp [lostN]
theorem ok_put {d : DiskD} {m : Nat} {t : ByteArray} (h : d.ok = true) (hc : d.can (m : Int) t = true) : (d.putD (m : Int) t).ok = true := by
  unfold DiskD.can at hc
  unfold DiskD.ok at h
  simp only [Bool.and_eq_true, decide_eq_true_eq, Bool.not_eq_true'] at h hc
  obtain ⟨h1, h2, h3, h4, h5⟩ := h
  obtain ⟨g1, g2, g3, g4⟩ := hc
  have hwl : (d.putD (m : Int) t).fWaits.length = d.fWaits.length + 1 := by show (d.fWaits ++ [_]).length = _; rw [List.length_append]; rfl
  have hgl : ∀ k, k < d.fWaits.length → (d.putD (m : Int) t).fWaits.getD k default = d.fWaits.getD k default := fun k hk => by show (d.fWaits ++ [_]).getD k default = _; simp [List.getD, List.getElem?_append_left hk]
  have hgn : (d.putD (m : Int) t).fWaits.getD d.fWaits.length default = ⟨(m : Int), t⟩ := by show (d.fWaits ++ [_]).getD d.fWaits.length default = _; simp [List.getD]
  unfold DiskD.ok
  simp only [Bool.and_eq_true, decide_eq_true_eq, Bool.not_eq_true']
  refine ⟨h1, by omega, ?_, h4, ?_⟩
  · show (d.fGone && _) = false; rw [g1]; rfl
  · rw [hwl]
    refine allB_mk fun k hk => ?_
    replace h5 : ∀ k, k < d.fWaits.length → waitB d k = true := fun k hk => allB_at h5 hk
    by_cases hk2 : k < d.fWaits.length
    · have := h5 k hk2
      unfold waitB at this ⊢
      rw [hgl k hk2]; exact this
    · obtain rfl : k = d.fWaits.length := by omega
      unfold waitB
      rw [hgn, g2]
      show (true && decide (t.size ≤ 200)) = true
      rw [decide_eq_true g3]; rfl
theorem stepPut_cols {d d' : DiskD} {m i : Nat} {t : ByteArray} {wn : Nat → Bool} (h : stepPut (m : Int) (colOf t) wn i d = some d') (hw : wn i = false → d.fGone = true ∨ d.look m = colOf t i) : hasCol t m i d' ∧ d'.fGone = d.fGone ∧ (d.ok = true → d'.ok = true) ∧ d'.fCells = d.fCells := by
  unfold stepPut at h
  cases h1 : (d.fGone || !wn i)
  · rw [h1] at h
    cases h2 : d.can (m : Int) (colOf t i)
    · rw [h2] at h; cases h
    · rw [h2] at h
      obtain rfl : d.putD (m : Int) (colOf t i) = d' := by simpa using h
      refine ⟨.inr ?_, rfl, fun h => ok_put h h2, rfl⟩
      show (lookW (d.fWaits ++ [(⟨(m : Int), colOf t i⟩ : WaitD)]) m).getD _ = _
      rw [lookW_append, if_pos rfl]; rfl
  · rw [h1] at h
    obtain rfl : d = d' := by simpa using h
    refine ⟨?_, rfl, fun h => h, rfl⟩
    cases hg : d.fGone
    · rw [hg, Bool.false_or] at h1
      have h3 : wn i = false := by simpa using h1
      rcases hw h3 with h4 | h4
      · rw [hg] at h4; cases h4
      · exact .inr h4
    · exact .inl hg
theorem eachTo_at2 {f : Nat → DiskD → Option DiskD} {ds xs : List DiskD} {n : Nat} (h : eachTo f ds n = some xs) : ∀ {k : Nat}, k < n → f k (ds.getD k default) = some (xs.getD k default) := by
  induction n generalizing xs with
  | zero => intro k hk; omega
  | succ n ih =>
    intro k hk
    unfold eachTo at h
    cases h1 : eachTo f ds n with
    | none => rw [h1] at h; cases h
    | some ys =>
      rw [h1] at h; simp only at h
      cases h2 : f n (ds.getD n default) with
      | none => rw [h2] at h; cases h
      | some y =>
        rw [h2] at h
        obtain rfl : ys ++ [y] = xs := by simpa using h
        have hl := eachTo_len h1
        by_cases hk2 : k < n
        · rw [ih h1 hk2]; simp [List.getD, List.getElem?_append_left (show k < ys.length by omega)]
        · obtain rfl : k = n := by omega
          rw [h2]; simp [List.getD, ← hl]
theorem okR_of {ds : List DiskD} (h : ds.length = 3) (h2 : ∀ k, k < 3 → (ds.getD k default).ok = true) : okR ds = true := by
  unfold okR
  rw [decide_eq_true h, h, Bool.true_and]
  exact allB_mk h2
theorem okR_at {ds : List DiskD} (h : okR ds = true) : ds.length = 3 ∧ ∀ k, k < 3 → (ds.getD k default).ok = true := by
  unfold okR at h
  rw [Bool.and_eq_true, decide_eq_true_eq] at h
  obtain ⟨h1, h2⟩ := h
  rw [h1] at h2
  exact ⟨h1, fun k hk => allB_at h2 hk⟩
theorem raid_holdG {W w : World} {F : List Asr} {ao : Option Addr} {c n : Nat} {ps : List HD} (hn : n = ps.length) (h : St W (rowA HD.cells 3 44 (.slice ao n c) ps :: sepA (ps.map HD.asr) :: F) w) : St W (holdsA (rdsP ao ps) :: F) w := by
  subst hn
  exact ((St.join (r := [_, _]) (s := F)).1 h).hold (sep2 (fun w f h => row_reads HD.cells_len h) (fun w f h => hds_allP h) fun w h1 h2 => ⟨h1, h2⟩)
def fitsD (ds : List DiskD) : Prop := ∀ d, d ∈ ds → d.fits
theorem fitsL_of {ps : List HD} (h : fitsD (dsOf ps)) : fitsL ps := fun p hp => h p.d (List.mem_map_of_mem hp)
theorem ok_fits {d : DiskD} (h : d.ok = true) : d.fits := by
  unfold DiskD.ok at h
  simp only [Bool.and_eq_true, decide_eq_true_eq] at h
  obtain ⟨h1, h2, _, h4, h5⟩ := h
  refine ⟨by omega, by omega, fun k => ?_, fun k => ?_⟩
  · by_cases hk : k < d.fCells.length
    · have := allB_at h4 hk
      unfold cellB at this
      simp only [Bool.and_eq_true, decide_eq_true_eq] at this
      omega
    · rw [show d.fCells.getD k ByteArray.empty = ByteArray.empty by simp [List.getD, List.getElem?_eq_none (Nat.le_of_not_lt hk)]]; exact Nat.zero_le _
  · by_cases hk : k < d.fWaits.length
    · have := allB_at h5 hk
      unfold waitB at this
      simp only [Bool.and_eq_true, decide_eq_true_eq] at this
      omega
    · rw [show d.fWaits.getD k default = default by simp [List.getD, List.getElem?_eq_none (Nat.le_of_not_lt hk)]]; exact Nat.zero_le _
theorem okR_fits {ps : List HD} (h : okR (dsOf ps) = true) : fitsL ps := fitsL_of fun d hd => by
  obtain ⟨h1, h2⟩ := okR_at h
  obtain ⟨k, hk, rfl⟩ := List.mem_iff_getElem.1 hd
  have := h2 k (by omega)
  rw [getD_get hk] at this
  exact ok_fits this
end Go.Proofs.Ytfijfjjleelphaa

/- Writing to a set of disks, by both. -/
namespace Go.Proofs.Ytfijfjjleelphaa
set_option maxHeartbeats 1000000
set_option maxRecDepth 100000
open Go.RowKit

theorem write1_any (w0 w : World) (bp bc gw m : Nat) (hm : m < 64) (ps : List HD) (k : Nat) (hk : k < 3) (hokk : (ps.getD k default).d.ok = true) (hf : (ps.getD k default).d.fits) (hp : (ps.getD k default).reads w0) (t : ByteArray) (ht : t.size ≤ 128) (X : List Asr) (hS : St w0 (boxA bp 1 3 (.agg #[.int .i64 (m : Int)]) :: boxA bc 1 41 (.agg #[.slice (some ⟨gw, 0, none⟩) 3 3]) :: rowA encS 1 9 (.slice (some ⟨gw, 0, none⟩) 3 3) ([col0 t, col1 t, col2 t]) :: X) w) : Calls Try.prog 48 #[.int .i64 (k : Int), .agg #[.slice ((ps.getD k default).a0) ((ps.getD k default).d.fCells.length) ((ps.getD k default).c0), .slice ((ps.getD k default).a1) ((ps.getD k default).d.fWaits.length) ((ps.getD k default).c1), .bool ((ps.getD k default).d.fGone)], .pointer (some ⟨bp, 0, none⟩), .pointer (some ⟨bc, 0, none⟩)] w fun e w' => (stepPut (m : Int) (colOf t) (fun _ => true) k (ps.getD k default).d = none ∧ ∃ q : HD, e = .returned (.tuple #[.agg #[.slice q.a0 q.d.fCells.length q.c0, .slice q.a1 q.d.fWaits.length q.c1, .bool q.d.fGone], .bool false]) ∧ St w0 X w') ∨ (∃ q : HD, stepPut (m : Int) (colOf t) (fun _ => true) k (ps.getD k default).d = some q.d ∧ e = .returned (.tuple #[.agg #[.slice q.a0 q.d.fCells.length q.c0, .slice q.a1 q.d.fWaits.length q.c1, .bool q.d.fGone], .bool true]) ∧ St w0 (q.asr :: boxA bp 1 3 (.agg #[.int .i64 (m : Int)]) :: boxA bc 1 41 (.agg #[.slice (some ⟨gw, 0, none⟩) 3 3]) :: rowA encS 1 9 (.slice (some ⟨gw, 0, none⟩) 3 3) ([col0 t, col1 t, col2 t]) :: X) w') := by
 have hP := Bx.mk hp; clear hp
 have HS := Bx.mk hS; clear hS
 refine wc_enter Try.func48 rfl Try.ntmps48 [(0, .int .i64 (k : Int)), (1, .agg #[.slice ((ps.getD k default).a0) ((ps.getD k default).d.fCells.length) ((ps.getD k default).c0), .slice ((ps.getD k default).a1) ((ps.getD k default).d.fWaits.length) ((ps.getD k default).c1), .bool ((ps.getD k default).d.fGone)]), (2, .pointer (some ⟨bp, 0, none⟩)), (3, .pointer (some ⟨bc, 0, none⟩))] ⟨rfl, rfl, rfl, rfl, trivial⟩ rfl ?_; intro a HF
 refine wp_sr ?_
 refine wl_box rfl HF rfl (HF.ev rfl) (Z := [.slice ((ps.getD k default).a0) ((ps.getD k default).d.fCells.length) ((ps.getD k default).c0), .slice ((ps.getD k default).a1) ((ps.getD k default).d.fWaits.length) ((ps.getD k default).c1), .bool ((ps.getD k default).d.fGone)]) rfl rfl rfl rfl HS.out ?_; clear HF HS a; intro a w1 b1 HF HS; replace HS := Bx.mk HS
 refine wl_alloc rfl HF rfl rfl rfl (Z := [.slice none 0 0, .slice none 0 0, .bool false]) (by kernel_rfl) rfl HS.out ?_; clear HF HS a; intro a w2 b2 HF HS; replace HS := Bx.mk HS
 refine wl_as HF rfl rfl rfl rfl rfl ?_; clear HF a; intro a HF
 refine wl_ne ?_
 refine wp_seq ?_
 refine wp_sr ?_
 refine wl_y rfl HF rfl rfl (yl_fieldAddr (j := 2) rfl (HF.ev rfl) (by kernel_rfl)) ?_; clear HF a; intro a HF
 refine wl_y rfl HF rfl rfl (yl_load (v := .bool ((ps.getD k default).d.fGone)) rfl (HF.ev rfl) (((HS.out.box 1 rfl).cell 2).trans rfl) (by kernel_rfl)) ?_; clear HF a; intro a HF
 refine wl_ne ?_
 refine HF.cases 9 rfl (fun cc1 HF1 => ?_) (fun cc1 HF1 => ?_)
 ·clear HF; have HF := HF1; clear HF1
  refine wc_true HF rfl ?_
  refine wp_sr ?_
  refine wl_y rfl HF rfl rfl (yl_loadR (cs := [.slice ((ps.getD k default).a0) ((ps.getD k default).d.fCells.length) ((ps.getD k default).c0), .slice ((ps.getD k default).a1) ((ps.getD k default).d.fWaits.length) ((ps.getD k default).c1), .bool ((ps.getD k default).d.fGone)]) rfl (HF.ev rfl) ((HS.out.box 1 rfl).sub 0 3) (by kernel_rfl)) ?_; clear HF a; intro a HF
  refine wl_call rfl HF rfl (enter_of Try.func49 (by kernel_rfl) rfl) (args := #[.agg #[.slice ((ps.getD k default).a0) ((ps.getD k default).d.fCells.length) ((ps.getD k default).c0), .slice ((ps.getD k default).a1) ((ps.getD k default).d.fWaits.length) ((ps.getD k default).c1), .bool ((ps.getD k default).d.fGone)]]) rfl (clone_any (ps.getD k default) _ (hP.out.below HS.out.bel) hf) rfl rfl ?_
  rintro _ w3 ⟨⟨qa3, qc3, qb3, qe3, qd⟩, hqd, rfl, hs⟩; obtain rfl : qd = (ps.getD k default).d := hqd; refine ⟨_, rfl, ?_⟩
  replace HS := Bx.mk ((HS.out.add hs)); clear hs HF; clear a; intro a HF
  replace HS : Bx (St w0 (HD.asr ⟨qa3, qc3, qb3, qe3, (ps.getD k default).d⟩ :: boxA b2 3 44 (.agg #[.slice none 0 0, .slice none 0 0, .bool false]) :: boxA b1 3 44 (.agg #[.slice ((ps.getD k default).a0) ((ps.getD k default).d.fCells.length) ((ps.getD k default).c0), .slice ((ps.getD k default).a1) ((ps.getD k default).d.fWaits.length) ((ps.getD k default).c1), .bool ((ps.getD k default).d.fGone)]) :: boxA bp 1 3 (.agg #[.int .i64 (m : Int)]) :: boxA bc 1 41 (.agg #[.slice (some ⟨gw, 0, none⟩) 3 3]) :: rowA encS 1 9 (.slice (some ⟨gw, 0, none⟩) 3 3) ([col0 t, col1 t, col2 t]) :: X) _) := ⟨HS.out⟩
  refine wl_storeBox rfl HF rfl rfl (HF.ev rfl) (HF.ev rfl) HS.out 1 rfl (cells_lit [.slice qa3 ((ps.getD k default).d.fCells.length) qc3, .slice qb3 ((ps.getD k default).d.fWaits.length) qe3, .bool ((ps.getD k default).d.fGone)] rfl rfl) (by kernel_rfl) ?_; clear HS; intro w4 HS; replace HS := Bx.mk HS
  have HS : Bx (St w0 (HD.asr ⟨qa3, qc3, qb3, qe3, (ps.getD k default).d⟩ :: boxA b2 3 44 (.agg #[.slice qa3 ((ps.getD k default).d.fCells.length) qc3, .slice qb3 ((ps.getD k default).d.fWaits.length) qe3, .bool ((ps.getD k default).d.fGone)]) :: boxA b1 3 44 (.agg #[.slice ((ps.getD k default).a0) ((ps.getD k default).d.fCells.length) ((ps.getD k default).c0), .slice ((ps.getD k default).a1) ((ps.getD k default).d.fWaits.length) ((ps.getD k default).c1), .bool ((ps.getD k default).d.fGone)]) :: boxA bp 1 3 (.agg #[.int .i64 (m : Int)]) :: boxA bc 1 41 (.agg #[.slice (some ⟨gw, 0, none⟩) 3 3]) :: rowA encS 1 9 (.slice (some ⟨gw, 0, none⟩) 3 3) ([col0 t, col1 t, col2 t]) :: X) _) := HS
  refine wl_as HF rfl rfl rfl rfl rfl ?_; clear HF a; intro a HF
  refine wl_ne ?_
  refine wp_ret ?_
  refine ex_then_ret ?_
  refine bp_ret2 HF Try.results48 (HF.resBox rfl (HS.out.box 1 rfl) (by kernel_rfl)) (HF.res rfl) ?_
  replace HS : Bx (St w0 (HD.asr ⟨qa3, qc3, qb3, qe3, (ps.getD k default).d⟩ :: boxA bp 1 3 (.agg #[.int .i64 (m : Int)]) :: boxA bc 1 41 (.agg #[.slice (some ⟨gw, 0, none⟩) 3 3]) :: rowA encS 1 9 (.slice (some ⟨gw, 0, none⟩) 3 3) ([col0 t, col1 t, col2 t]) :: boxA b2 3 44 (.agg #[.slice qa3 ((ps.getD k default).d.fCells.length) qc3, .slice qb3 ((ps.getD k default).d.fWaits.length) qe3, .bool ((ps.getD k default).d.fGone)]) :: boxA b1 3 44 (.agg #[.slice ((ps.getD k default).a0) ((ps.getD k default).d.fCells.length) ((ps.getD k default).c0), .slice ((ps.getD k default).a1) ((ps.getD k default).d.fWaits.length) ((ps.getD k default).c1), .bool ((ps.getD k default).d.fGone)]) :: X) _) := ⟨((((HS.out).pick 5 rfl).pick 5 rfl).pick 5 rfl).pick 3 rfl⟩
  exact .inr ⟨⟨qa3, qc3, qb3, qe3, (ps.getD k default).d⟩, stepPut_skip (by rw [cc1, Bool.true_or]), rfl, ((HS.out.erase 5).erase 4)⟩
 ·clear HF; have HF := HF1; clear HF1
  refine wc_false HF rfl ?_
  refine wp_skip ?_
  refine ex_then ?_
  refine wp_seq ?_
  have hwl : [col0 t, col1 t, col2 t].length = 3 := rfl
  refine wr_heldS (s := boxA b1 3 44 (.agg #[.slice ((ps.getD k default).a0) ((ps.getD k default).d.fCells.length) ((ps.getD k default).c0), .slice ((ps.getD k default).a1) ((ps.getD k default).d.fWaits.length) ((ps.getD k default).c1), .bool ((ps.getD k default).d.fGone)]) :: boxA bp 1 3 (.agg #[.int .i64 (m : Int)]) :: boxA bc 1 41 (.agg #[.slice (some ⟨gw, 0, none⟩) 3 3]) :: rowA encS 1 9 (.slice (some ⟨gw, 0, none⟩) 3 3) ([col0 t, col1 t, col2 t]) :: X) (by kernel_rfl) (St.drew ((HS.out.erase 0))) ?_
  have HS2 := Bx.mk HS.out.drew; replace HS := Bx.mk (show St w0 (boxA b1 3 44 (.agg #[.slice ((ps.getD k default).a0) ((ps.getD k default).d.fCells.length) ((ps.getD k default).c0), .slice ((ps.getD k default).a1) ((ps.getD k default).d.fWaits.length) ((ps.getD k default).c1), .bool ((ps.getD k default).d.fGone)]) :: boxA bp 1 3 (.agg #[.int .i64 (m : Int)]) :: boxA bc 1 41 (.agg #[.slice (some ⟨gw, 0, none⟩) 3 3]) :: rowA encS 1 9 (.slice (some ⟨gw, 0, none⟩) 3 3) ([col0 t, col1 t, col2 t]) :: X) _ from (HS.out.drew.erase 0))
  generalize World.drew _ = w5 at HS HS2 ⊢
  refine wh_y 0 rfl (by kernel_rfl) (by kernel_rfl) (by kernel_rfl) (fun _ _ _ h => h) rfl HF rfl rfl (fun _ HS => (yl_loadR (cs := [.slice ((ps.getD k default).a0) ((ps.getD k default).d.fCells.length) ((ps.getD k default).c0), .slice ((ps.getD k default).a1) ((ps.getD k default).d.fWaits.length) ((ps.getD k default).c1), .bool ((ps.getD k default).d.fGone)]) rfl (HF.ev rfl) ((HS.box 0 rfl).sub 0 3) (by kernel_rfl))) HS.out ?_; clear HF a; intro a HF
  refine wh_y 1 rfl (by kernel_rfl) (by kernel_rfl) (by kernel_rfl) (fun _ _ _ h => h) rfl HF rfl rfl (fun _ HS => (yl_load (v := .int .i64 (m : Int)) rfl (HF.ev rfl) (((HS.box 1 rfl).cell 0).trans rfl) (by kernel_rfl))) HS.out ?_; clear HF a; intro a HF
  refine wh_y 2 rfl (by kernel_rfl) (by kernel_rfl) (by kernel_rfl) (fun _ _ _ h => h) rfl HF rfl rfl (fun _ HS => (yl_load (v := .slice (some ⟨gw, 0, none⟩) 3 3) rfl (HF.ev rfl) (((HS.box 2 rfl).cell 0).trans rfl) (by kernel_rfl))) HS.out ?_; clear HF a; intro a HF
  refine wh_y 3 rfl (by kernel_rfl) (by kernel_rfl) (by kernel_rfl) (fun _ _ _ h => h) rfl HF rfl rfl (fun _ HS => (yl_move rfl (HF.ev rfl))) HS.out ?_; clear HF a; intro a HF
  refine wh_y 4 rfl (by kernel_rfl) (by kernel_rfl) (by kernel_rfl) (fun _ _ _ h => h) rfl HF rfl rfl (fun _ HS => (yl_indexAddr (e := 9) (i := k) (size := 1) rfl (HF.ev rfl) (HF.ev rfl) (by kernel_rfl) rfl (by omega))) HS.out ?_; clear HF a; intro a HF
  refine wh_y 5 rfl (by kernel_rfl) (by kernel_rfl) (by kernel_rfl) (fun _ _ _ h => h) rfl HF rfl rfl (fun _ HS => (yl_load (v := .string (([col0 t, col1 t, col2 t]).getD k ByteArray.empty)) rfl (HF.ev rfl) (HS.elem1 encS_len 3 rfl (get_getD (xs := [col0 t, col1 t, col2 t]) (j := k) (d := ByteArray.empty) (by omega)) rfl) (by kernel_rfl))) HS.out ?_; clear HF a; intro a HF
  refine wh_one 6 (by kernel_rfl) ?_
  refine wo_call rfl rfl HF rfl (enter_of Try.func50 (by kernel_rfl) rfl) (args := #[.agg #[.slice ((ps.getD k default).a0) ((ps.getD k default).d.fCells.length) ((ps.getD k default).c0), .slice ((ps.getD k default).a1) ((ps.getD k default).d.fWaits.length) ((ps.getD k default).c1), .bool ((ps.getD k default).d.fGone)], .int .i64 (m : Int), .string (([col0 t, col1 t, col2 t]).getD k ByteArray.empty)]) rfl (diskWrite_any (ps.getD k default) (m : Int) ([col0 t, col1 t, col2 t].getD k ByteArray.empty) _ (hP.out.below HS2.out.bel) hf hokk (Nat.le_trans (col_le t k ht) (by decide))) rfl rfl ?_
  rintro _ w6 (⟨hcan, q, rfl, hs⟩ | ⟨hcan, q, hqd, rfl, hs⟩)
  ·skip
   refine ⟨_, rfl, ?_⟩; replace HS := Bx.mk (HS.out.later hs.bel); replace HS2 := Bx.mk (HS2.out.add hs); clear hs HF; clear a; intro a HF
   replace HS2 : Bx (St w0 (HD.asr q :: boxA b2 3 44 (.agg #[.slice none 0 0, .slice none 0 0, .bool false]) :: boxA b1 3 44 (.agg #[.slice ((ps.getD k default).a0) ((ps.getD k default).d.fCells.length) ((ps.getD k default).c0), .slice ((ps.getD k default).a1) ((ps.getD k default).d.fWaits.length) ((ps.getD k default).c1), .bool ((ps.getD k default).d.fGone)]) :: boxA bp 1 3 (.agg #[.int .i64 (m : Int)]) :: boxA bc 1 41 (.agg #[.slice (some ⟨gw, 0, none⟩) 3 3]) :: rowA encS 1 9 (.slice (some ⟨gw, 0, none⟩) 3 3) ([col0 t, col1 t, col2 t]) :: X) _) := ⟨HS2.out⟩; refine ⟨HS.out, ?_⟩
   refine wh_y 7 rfl (by kernel_rfl) (by kernel_rfl) (by kernel_rfl) (fun _ _ _ h => h) rfl HF rfl rfl (fun _ HS => (yl_extract rfl (HF.ev rfl) rfl)) HS.out ?_; clear HF a; intro a HF
   refine wh_y 8 rfl (by kernel_rfl) (by kernel_rfl) (by kernel_rfl) (fun _ _ _ h => h) rfl HF rfl rfl (fun _ HS => (yl_extract rfl (HF.ev rfl) rfl)) HS.out ?_; clear HF a; intro a HF
   refine wh_one 9 (by kernel_rfl) ?_
   refine wo_storeBox rfl rfl rfl rfl (HF.ev rfl) (HF.ev rfl) HS2.out 1 rfl (cells_lit [.slice q.a0 q.d.fCells.length q.c0, .slice q.a1 q.d.fWaits.length q.c1, .bool q.d.fGone] rfl rfl) (by kernel_rfl) ?_
   clear HS HS2; intro w7 HS2; replace HS2 : Bx (St w0 (HD.asr q :: boxA b2 3 44 (.agg #[.slice q.a0 q.d.fCells.length q.c0, .slice q.a1 q.d.fWaits.length q.c1, .bool q.d.fGone]) :: boxA b1 3 44 (.agg #[.slice ((ps.getD k default).a0) ((ps.getD k default).d.fCells.length) ((ps.getD k default).c0), .slice ((ps.getD k default).a1) ((ps.getD k default).d.fWaits.length) ((ps.getD k default).c1), .bool ((ps.getD k default).d.fGone)]) :: boxA bp 1 3 (.agg #[.int .i64 (m : Int)]) :: boxA bc 1 41 (.agg #[.slice (some ⟨gw, 0, none⟩) 3 3]) :: rowA encS 1 9 (.slice (some ⟨gw, 0, none⟩) 3 3) ([col0 t, col1 t, col2 t]) :: X) _) := ⟨HS2⟩
   have HS : Bx (St w0 (boxA b1 3 44 (.agg #[.slice ((ps.getD k default).a0) ((ps.getD k default).d.fCells.length) ((ps.getD k default).c0), .slice ((ps.getD k default).a1) ((ps.getD k default).d.fWaits.length) ((ps.getD k default).c1), .bool ((ps.getD k default).d.fGone)]) :: boxA bp 1 3 (.agg #[.int .i64 (m : Int)]) :: boxA bc 1 41 (.agg #[.slice (some ⟨gw, 0, none⟩) 3 3]) :: rowA encS 1 9 (.slice (some ⟨gw, 0, none⟩) 3 3) ([col0 t, col1 t, col2 t]) :: X) _) := ⟨((HS2.out.erase 1).erase 0)⟩; refine ⟨HS.out, ?_⟩
   refine wh_y 10 rfl (by kernel_rfl) (by kernel_rfl) (by kernel_rfl) (fun _ _ _ h => h) rfl HF rfl rfl (fun _ HS => (yl_assign rfl (HF.ev rfl))) HS.out ?_; clear HF a; intro a HF
   refine wh_done (by kernel_rfl) ?_
   replace HS := HS2; clear HS2
   refine ex_then ?_
   refine wp_ret ?_
   refine bp_ret2 HF Try.results48 (HF.resBox rfl (HS.out.box 1 rfl) (by kernel_rfl)) (HF.res rfl) ?_
   exact .inl ⟨stepPut_fail cc1 rfl hcan, q, rfl, ((((((HS.out.erase 5).erase 4).erase 3).erase 2).erase 1).erase 0)⟩
  ·skip
   refine ⟨_, rfl, ?_⟩; replace HS := Bx.mk (HS.out.later hs.bel); replace HS2 := Bx.mk (HS2.out.add hs); clear hs HF; clear a; intro a HF
   replace HS2 : Bx (St w0 (HD.asr q :: boxA b2 3 44 (.agg #[.slice none 0 0, .slice none 0 0, .bool false]) :: boxA b1 3 44 (.agg #[.slice ((ps.getD k default).a0) ((ps.getD k default).d.fCells.length) ((ps.getD k default).c0), .slice ((ps.getD k default).a1) ((ps.getD k default).d.fWaits.length) ((ps.getD k default).c1), .bool ((ps.getD k default).d.fGone)]) :: boxA bp 1 3 (.agg #[.int .i64 (m : Int)]) :: boxA bc 1 41 (.agg #[.slice (some ⟨gw, 0, none⟩) 3 3]) :: rowA encS 1 9 (.slice (some ⟨gw, 0, none⟩) 3 3) ([col0 t, col1 t, col2 t]) :: X) _) := ⟨HS2.out⟩; refine ⟨HS.out, ?_⟩
   refine wh_y 7 rfl (by kernel_rfl) (by kernel_rfl) (by kernel_rfl) (fun _ _ _ h => h) rfl HF rfl rfl (fun _ HS => (yl_extract rfl (HF.ev rfl) rfl)) HS.out ?_; clear HF a; intro a HF
   refine wh_y 8 rfl (by kernel_rfl) (by kernel_rfl) (by kernel_rfl) (fun _ _ _ h => h) rfl HF rfl rfl (fun _ HS => (yl_extract rfl (HF.ev rfl) rfl)) HS.out ?_; clear HF a; intro a HF
   refine wh_one 9 (by kernel_rfl) ?_
   refine wo_storeBox rfl rfl rfl rfl (HF.ev rfl) (HF.ev rfl) HS2.out 1 rfl (cells_lit [.slice q.a0 q.d.fCells.length q.c0, .slice q.a1 q.d.fWaits.length q.c1, .bool q.d.fGone] rfl rfl) (by kernel_rfl) ?_
   clear HS HS2; intro w8 HS2; replace HS2 : Bx (St w0 (HD.asr q :: boxA b2 3 44 (.agg #[.slice q.a0 q.d.fCells.length q.c0, .slice q.a1 q.d.fWaits.length q.c1, .bool q.d.fGone]) :: boxA b1 3 44 (.agg #[.slice ((ps.getD k default).a0) ((ps.getD k default).d.fCells.length) ((ps.getD k default).c0), .slice ((ps.getD k default).a1) ((ps.getD k default).d.fWaits.length) ((ps.getD k default).c1), .bool ((ps.getD k default).d.fGone)]) :: boxA bp 1 3 (.agg #[.int .i64 (m : Int)]) :: boxA bc 1 41 (.agg #[.slice (some ⟨gw, 0, none⟩) 3 3]) :: rowA encS 1 9 (.slice (some ⟨gw, 0, none⟩) 3 3) ([col0 t, col1 t, col2 t]) :: X) _) := ⟨HS2⟩
   have HS : Bx (St w0 (boxA b1 3 44 (.agg #[.slice ((ps.getD k default).a0) ((ps.getD k default).d.fCells.length) ((ps.getD k default).c0), .slice ((ps.getD k default).a1) ((ps.getD k default).d.fWaits.length) ((ps.getD k default).c1), .bool ((ps.getD k default).d.fGone)]) :: boxA bp 1 3 (.agg #[.int .i64 (m : Int)]) :: boxA bc 1 41 (.agg #[.slice (some ⟨gw, 0, none⟩) 3 3]) :: rowA encS 1 9 (.slice (some ⟨gw, 0, none⟩) 3 3) ([col0 t, col1 t, col2 t]) :: X) _) := ⟨((HS2.out.erase 1).erase 0)⟩; refine ⟨HS.out, ?_⟩
   refine wh_y 10 rfl (by kernel_rfl) (by kernel_rfl) (by kernel_rfl) (fun _ _ _ h => h) rfl HF rfl rfl (fun _ HS => (yl_assign rfl (HF.ev rfl))) HS.out ?_; clear HF a; intro a HF
   refine wh_done (by kernel_rfl) ?_
   replace HS := HS2; clear HS2
   refine ex_then ?_
   refine wp_ret ?_
   refine bp_ret2 HF Try.results48 (HF.resBox rfl (HS.out.box 1 rfl) (by kernel_rfl)) (HF.res rfl) ?_
   replace HS : Bx (St w0 (HD.asr q :: boxA bp 1 3 (.agg #[.int .i64 (m : Int)]) :: boxA bc 1 41 (.agg #[.slice (some ⟨gw, 0, none⟩) 3 3]) :: rowA encS 1 9 (.slice (some ⟨gw, 0, none⟩) 3 3) ([col0 t, col1 t, col2 t]) :: boxA b2 3 44 (.agg #[.slice q.a0 q.d.fCells.length q.c0, .slice q.a1 q.d.fWaits.length q.c1, .bool q.d.fGone]) :: boxA b1 3 44 (.agg #[.slice ((ps.getD k default).a0) ((ps.getD k default).d.fCells.length) ((ps.getD k default).c0), .slice ((ps.getD k default).a1) ((ps.getD k default).d.fWaits.length) ((ps.getD k default).c1), .bool ((ps.getD k default).d.fGone)]) :: X) _) := ⟨((((HS.out).pick 5 rfl).pick 5 rfl).pick 5 rfl).pick 3 rfl⟩
   exact .inr ⟨q, by rw [hqd]; exact stepPut_put cc1 rfl hcan, rfl, ((HS.out.erase 5).erase 4)⟩

/-- What writing makes. -/
def writeF (ds : List DiskD) (row : Int) (t : ByteArray) : Option (List DiskD) := bif okR ds && (inB row 8 63 && inB (t.size : Int) 1 128) then eachTo (stepPut row (colOf t) (fun _ => true)) ds 3 else none
theorem writeF_no {ds : List DiskD} {row : Int} {t : ByteArray} (h : (okR ds && (inB row 8 63 && inB (t.size : Int) 1 128)) = false) : writeF ds row t = none := by unfold writeF; rw [h]; rfl
theorem writeF_yes {ds : List DiskD} {row : Int} {t : ByteArray} (h1 : okR ds = true) (h2 : inB row 8 63 = true) (h3 : inB (t.size : Int) 1 128 = true) : writeF ds row t = eachTo (stepPut row (colOf t) (fun _ => true)) ds 3 := by unfold writeF; rw [h1, h2, h3]; rfl
theorem inB_bounds {n lo hi : Int} (h : inB n lo hi = true) : lo ≤ n ∧ n ≤ hi := by unfold inB at h; simpa using h

theorem implRaidWrite_any (a0 : Option Addr) (c0 : Nat) (ps : List HD) (w0 : World) (hl : ps.length ≤ 1048576) (hf : fitsL ps) (hp : rdsP a0 ps w0) (row : Int) (t : ByteArray) (ht : t.size ≤ 1000000) : Calls Try.prog 10 #[.agg #[.slice a0 ps.length c0], .int .i64 row, .string t] w0 fun e w' => (writeF (dsOf ps) row t = none ∧ e = .returned (.tuple #[.agg #[.slice none 0 0], .bool false]) ∧ St w0 [] w') ∨ (∃ ao cp qs, writeF (dsOf ps) row t = some (dsOf qs) ∧ e = .returned (.tuple #[.agg #[.slice ao qs.length cp], .bool true]) ∧ St w0 [rowA HD.cells 3 44 (.slice ao qs.length cp) qs, sepA (qs.map HD.asr)] w') := by
 have HS := Bx.mk (St.start w0)
 refine wc_enter Try.func10 rfl Try.ntmps10 [(0, .agg #[.slice a0 ps.length c0]), (1, .int .i64 row), (2, .string t)] ⟨rfl, rfl, rfl, trivial⟩ rfl ?_; intro a HF
 refine wp_sr ?_
 refine wl_box rfl HF rfl (HF.ev rfl) (Z := [.slice a0 ps.length c0]) rfl rfl rfl rfl HS.out ?_; clear HF HS a; intro a w1 b1 HF HS; replace HS := Bx.mk HS
 refine wl_box rfl HF rfl (HF.ev rfl) (Z := [.int .i64 row]) rfl rfl rfl rfl HS.out ?_; clear HF HS a; intro a w2 b2 HF HS; replace HS := Bx.mk HS
 refine wl_alloc rfl HF rfl rfl rfl (Z := [.slice none 0 0]) (by kernel_rfl) rfl HS.out ?_; clear HF HS a; intro a w3 b3 HF HS; replace HS := Bx.mk HS
 refine wl_as HF rfl rfl rfl rfl rfl ?_; clear HF a; intro a HF
 refine wl_ne ?_
 refine wp_sr ?_
 refine wl_mv HF rfl rfl rfl rfl rfl ?_; clear HF a; intro a HF
 refine wl_call rfl HF rfl (enter_of Try.func44 (by kernel_rfl) rfl) (args := #[.string t]) rfl (stripeCut_any t _ (by omega)) rfl rfl ?_
 rintro _ w4 (⟨hsz, rfl, hb⟩ | ⟨hsz, gw, rfl, hs⟩)
 ·skip
  refine ⟨_, rfl, ?_⟩; replace HS := Bx.mk (HS.out.later hb); clear hb HF; clear a; intro a HF
  replace HS : Bx (St w0 ([boxA b3 1 25 (.agg #[.slice none 0 0]), boxA b2 1 3 (.agg #[.int .i64 row]), boxA b1 1 25 (.agg #[.slice a0 ps.length c0])]) _) := ⟨HS.out⟩
  refine wl_mv HF rfl rfl rfl rfl rfl ?_; clear HF a; intro a HF
  refine wl_y rfl HF rfl rfl (yl_extract rfl (HF.ev rfl) rfl) ?_; clear HF a; intro a HF
  refine wl_y rfl HF rfl rfl (yl_extract rfl (HF.ev rfl) rfl) ?_; clear HF a; intro a HF
  refine wl_alloc rfl HF rfl rfl rfl (Z := [.slice none 0 0]) (by kernel_rfl) rfl HS.out ?_; clear HF HS a; intro a w5 b4 HF HS; replace HS := Bx.mk HS
  refine wl_storeF rfl rfl rfl (HF.ev rfl) (HF.ev rfl) (by kernel_rfl) HS.out 0 rfl rfl rfl ?_; clear HS; intro w6 HS; replace HS := Bx.mk HS
  have HS : Bx (St w0 ([boxA b4 1 41 (.agg #[.slice none 0 0]), boxA b3 1 25 (.agg #[.slice none 0 0]), boxA b2 1 3 (.agg #[.int .i64 row]), boxA b1 1 25 (.agg #[.slice a0 ps.length c0])]) _) := HS
  refine wl_as HF rfl rfl rfl rfl rfl ?_; clear HF a; intro a HF
  refine wl_ne ?_
  refine wp_seq ?_
  refine wp_sr ?_
  refine wl_y rfl HF rfl rfl (yl_loadR (cs := [.slice a0 ps.length c0]) rfl (HF.ev rfl) ((HS.out.box 3 rfl).sub 0 1) (by kernel_rfl)) ?_; clear HF a; intro a HF
  refine wl_callB rfl HF rfl (enter_of Try.func45 (by kernel_rfl) rfl) (args := #[.agg #[.slice a0 ps.length c0]]) rfl (v := .bool (okR (dsOf ps))) (implRaidOk_any a0 c0 ps _ hl hf.at (hp.1.below HS.out.bel) (fun k hk => (hp.at k hk).below HS.out.bel)) rfl rfl HS.out ?_; clear HF HS a; intro w7 a HS HF; replace HS := Bx.mk HS
  refine wl_y rfl HF rfl rfl (yl_not rfl (HF.ev rfl)) ?_; clear HF a; intro a HF
  refine wl_mv HF rfl rfl rfl rfl rfl ?_; clear HF a; intro a HF
  refine HF.cases 18 rfl (fun cc1 HF1 => ?_) (fun cc1 HF1 => ?_)
  ·clear HF; have HF := HF1; clear HF1
   have hok : okR (dsOf ps) = false := by simpa using cc1
   refine wl_skip HF rfl rfl rfl rfl rfl rfl ?_; clear HF a; intro a HF
   refine wl_skip HF rfl rfl rfl rfl rfl rfl ?_; clear HF a; intro a HF
   refine wl_skip HF rfl rfl rfl rfl rfl rfl ?_; clear HF a; intro a HF
   refine wl_y rfl HF rfl rfl (yl_pick_t rfl (HF.ev rfl) (HF.ev rfl)) ?_; clear HF a; intro a HF
   refine wl_mv HF rfl rfl rfl rfl rfl ?_; clear HF a; intro a HF
   refine wl_skip HF rfl rfl rfl rfl rfl rfl ?_; clear HF a; intro a HF
   refine wl_skip HF rfl rfl rfl rfl rfl rfl ?_; clear HF a; intro a HF
   refine wl_y rfl HF rfl rfl (yl_pick_t rfl (HF.ev rfl) (HF.ev rfl)) ?_; clear HF a; intro a HF
   refine wl_ne ?_
   refine wc_true HF rfl ?_
   refine wp_sr ?_
   refine wl_y rfl HF rfl rfl (yl_build HF rfl (ps := []) rfl (cs := #[.slice none 0 0]) (by kernel_rfl)) ?_; clear HF a; intro a HF
   refine wl_storeBox rfl HF rfl rfl (HF.ev rfl) (HF.ev rfl) HS.out 1 rfl (cells_lit [.slice none 0 0] rfl rfl) (by kernel_rfl) ?_; clear HS; intro w8 HS; replace HS := Bx.mk HS
   have HS : Bx (St w0 ([boxA b4 1 41 (.agg #[.slice none 0 0]), boxA b3 1 25 (.agg #[.slice none 0 0]), boxA b2 1 3 (.agg #[.int .i64 row]), boxA b1 1 25 (.agg #[.slice a0 ps.length c0])]) _) := HS
   refine wl_as HF rfl rfl rfl rfl rfl ?_; clear HF a; intro a HF
   refine wl_ne ?_
   refine wp_ret ?_
   refine ex_then_ret ?_
   refine bp_ret2 HF Try.results10 (HF.resBox rfl (HS.out.box 1 rfl) (by kernel_rfl)) (HF.res rfl) ?_
   exact .inl ⟨writeF_no (by rw [hsz, hok] <;> simp), rfl, ((((HS.out.erase 3).erase 2).erase 1).erase 0)⟩
  ·clear HF; have HF := HF1; clear HF1
   have hok : okR (dsOf ps) = true := by simpa using cc1
   refine wl_yg HF rfl rfl rfl rfl rfl (yl_load (v := .int .i64 row) rfl (HF.ev rfl) (((HS.out.box 2 rfl).cell 0).trans rfl) (by kernel_rfl)) ?_; clear HF a; intro a HF
   refine wl_callBg HF rfl rfl rfl rfl (enter_of Try.func46 (by kernel_rfl) rfl) (args := #[.int .i64 row]) rfl (v := .bool (inB row 8 63)) (((isRow_any row _).mono fun _ _ h => ⟨h.1, h.2 ▸ Below.refl _ _⟩)) rfl rfl HS.out ?_; clear HF HS a; intro w9 a HS HF; replace HS := Bx.mk HS
   refine wl_yg HF rfl rfl rfl rfl rfl (yl_not rfl (HF.ev rfl)) ?_; clear HF a; intro a HF
   refine wl_y rfl HF rfl rfl (yl_pick_f rfl (HF.ev rfl) (HF.ev rfl)) ?_; clear HF a; intro a HF
   refine wl_mv HF rfl rfl rfl rfl rfl ?_; clear HF a; intro a HF
   refine HF.cases 23 rfl (fun cc2 HF1 => ?_) (fun cc2 HF1 => ?_)
   ·clear HF; have HF := HF1; clear HF1
    have hrw : inB row 8 63 = false := by simpa using cc2
    refine wl_skip HF rfl rfl rfl rfl rfl rfl ?_; clear HF a; intro a HF
    refine wl_skip HF rfl rfl rfl rfl rfl rfl ?_; clear HF a; intro a HF
    refine wl_y rfl HF rfl rfl (yl_pick_t rfl (HF.ev rfl) (HF.ev rfl)) ?_; clear HF a; intro a HF
    refine wl_ne ?_
    refine wc_true HF rfl ?_
    refine wp_sr ?_
    refine wl_y rfl HF rfl rfl (yl_build HF rfl (ps := []) rfl (cs := #[.slice none 0 0]) (by kernel_rfl)) ?_; clear HF a; intro a HF
    refine wl_storeBox rfl HF rfl rfl (HF.ev rfl) (HF.ev rfl) HS.out 1 rfl (cells_lit [.slice none 0 0] rfl rfl) (by kernel_rfl) ?_; clear HS; intro w10 HS; replace HS := Bx.mk HS
    have HS : Bx (St w0 ([boxA b4 1 41 (.agg #[.slice none 0 0]), boxA b3 1 25 (.agg #[.slice none 0 0]), boxA b2 1 3 (.agg #[.int .i64 row]), boxA b1 1 25 (.agg #[.slice a0 ps.length c0])]) _) := HS
    refine wl_as HF rfl rfl rfl rfl rfl ?_; clear HF a; intro a HF
    refine wl_ne ?_
    refine wp_ret ?_
    refine ex_then_ret ?_
    refine bp_ret2 HF Try.results10 (HF.resBox rfl (HS.out.box 1 rfl) (by kernel_rfl)) (HF.res rfl) ?_
    exact .inl ⟨writeF_no (by rw [hsz, hok, hrw] <;> simp), rfl, ((((HS.out.erase 3).erase 2).erase 1).erase 0)⟩
   ·clear HF; have HF := HF1; clear HF1
    have hrw : inB row 8 63 = true := by simpa using cc2
    refine wl_yg HF rfl rfl rfl rfl rfl (yl_move rfl (HF.ev rfl)) ?_; clear HF a; intro a HF
    refine wl_yg HF rfl rfl rfl rfl rfl (yl_not rfl (HF.ev rfl)) ?_; clear HF a; intro a HF
    refine wl_y rfl HF rfl rfl (yl_pick_f rfl (HF.ev rfl) (HF.ev rfl)) ?_; clear HF a; intro a HF
    refine wl_ne ?_
    refine wc_true HF rfl ?_
    refine wp_sr ?_
    refine wl_y rfl HF rfl rfl (yl_build HF rfl (ps := []) rfl (cs := #[.slice none 0 0]) (by kernel_rfl)) ?_; clear HF a; intro a HF
    refine wl_storeBox rfl HF rfl rfl (HF.ev rfl) (HF.ev rfl) HS.out 1 rfl (cells_lit [.slice none 0 0] rfl rfl) (by kernel_rfl) ?_; clear HS; intro w11 HS; replace HS := Bx.mk HS
    have HS : Bx (St w0 ([boxA b4 1 41 (.agg #[.slice none 0 0]), boxA b3 1 25 (.agg #[.slice none 0 0]), boxA b2 1 3 (.agg #[.int .i64 row]), boxA b1 1 25 (.agg #[.slice a0 ps.length c0])]) _) := HS
    refine wl_as HF rfl rfl rfl rfl rfl ?_; clear HF a; intro a HF
    refine wl_ne ?_
    refine wp_ret ?_
    refine ex_then_ret ?_
    refine bp_ret2 HF Try.results10 (HF.resBox rfl (HS.out.box 1 rfl) (by kernel_rfl)) (HF.res rfl) ?_
    exact .inl ⟨writeF_no (by rw [hsz, hok, hrw] <;> simp), rfl, ((((HS.out.erase 3).erase 2).erase 1).erase 0)⟩
 ·skip
  refine ⟨_, rfl, ?_⟩; replace HS := Bx.mk (HS.out.add hs); clear hs HF; clear a; intro a HF
  replace HS : Bx (St w0 ([rowA encS 1 9 (.slice (some ⟨gw, 0, none⟩) 3 3) ([col0 t, col1 t, col2 t]), boxA b3 1 25 (.agg #[.slice none 0 0]), boxA b2 1 3 (.agg #[.int .i64 row]), boxA b1 1 25 (.agg #[.slice a0 ps.length c0])]) _) := ⟨HS.out⟩
  refine wl_mv HF rfl rfl rfl rfl rfl ?_; clear HF a; intro a HF
  refine wl_y rfl HF rfl rfl (yl_extract rfl (HF.ev rfl) rfl) ?_; clear HF a; intro a HF
  refine wl_y rfl HF rfl rfl (yl_extract rfl (HF.ev rfl) rfl) ?_; clear HF a; intro a HF
  refine wl_alloc rfl HF rfl rfl rfl (Z := [.slice none 0 0]) (by kernel_rfl) rfl HS.out ?_; clear HF HS a; intro a w12 b5 HF HS; replace HS := Bx.mk HS
  refine wl_storeF rfl rfl rfl (HF.ev rfl) (HF.ev rfl) (by kernel_rfl) HS.out 0 rfl rfl rfl ?_; clear HS; intro w13 HS; replace HS := Bx.mk HS
  have HS : Bx (St w0 ([boxA b5 1 41 (.agg #[.slice (some ⟨gw, 0, none⟩) 3 3]), rowA encS 1 9 (.slice (some ⟨gw, 0, none⟩) 3 3) ([col0 t, col1 t, col2 t]), boxA b3 1 25 (.agg #[.slice none 0 0]), boxA b2 1 3 (.agg #[.int .i64 row]), boxA b1 1 25 (.agg #[.slice a0 ps.length c0])]) _) := HS
  refine wl_as HF rfl rfl rfl rfl rfl ?_; clear HF a; intro a HF
  refine wl_ne ?_
  refine wp_seq ?_
  refine wp_sr ?_
  refine wl_y rfl HF rfl rfl (yl_loadR (cs := [.slice a0 ps.length c0]) rfl (HF.ev rfl) ((HS.out.box 4 rfl).sub 0 1) (by kernel_rfl)) ?_; clear HF a; intro a HF
  refine wl_callB rfl HF rfl (enter_of Try.func45 (by kernel_rfl) rfl) (args := #[.agg #[.slice a0 ps.length c0]]) rfl (v := .bool (okR (dsOf ps))) (implRaidOk_any a0 c0 ps _ hl hf.at (hp.1.below HS.out.bel) (fun k hk => (hp.at k hk).below HS.out.bel)) rfl rfl HS.out ?_; clear HF HS a; intro w14 a HS HF; replace HS := Bx.mk HS
  refine wl_y rfl HF rfl rfl (yl_not rfl (HF.ev rfl)) ?_; clear HF a; intro a HF
  refine wl_mv HF rfl rfl rfl rfl rfl ?_; clear HF a; intro a HF
  refine HF.cases 18 rfl (fun cc3 HF1 => ?_) (fun cc3 HF1 => ?_)
  ·clear HF; have HF := HF1; clear HF1
   have hok : okR (dsOf ps) = false := by simpa using cc3
   refine wl_skip HF rfl rfl rfl rfl rfl rfl ?_; clear HF a; intro a HF
   refine wl_skip HF rfl rfl rfl rfl rfl rfl ?_; clear HF a; intro a HF
   refine wl_skip HF rfl rfl rfl rfl rfl rfl ?_; clear HF a; intro a HF
   refine wl_y rfl HF rfl rfl (yl_pick_t rfl (HF.ev rfl) (HF.ev rfl)) ?_; clear HF a; intro a HF
   refine wl_mv HF rfl rfl rfl rfl rfl ?_; clear HF a; intro a HF
   refine wl_skip HF rfl rfl rfl rfl rfl rfl ?_; clear HF a; intro a HF
   refine wl_skip HF rfl rfl rfl rfl rfl rfl ?_; clear HF a; intro a HF
   refine wl_y rfl HF rfl rfl (yl_pick_t rfl (HF.ev rfl) (HF.ev rfl)) ?_; clear HF a; intro a HF
   refine wl_ne ?_
   refine wc_true HF rfl ?_
   refine wp_sr ?_
   refine wl_y rfl HF rfl rfl (yl_build HF rfl (ps := []) rfl (cs := #[.slice none 0 0]) (by kernel_rfl)) ?_; clear HF a; intro a HF
   refine wl_storeBox rfl HF rfl rfl (HF.ev rfl) (HF.ev rfl) HS.out 2 rfl (cells_lit [.slice none 0 0] rfl rfl) (by kernel_rfl) ?_; clear HS; intro w15 HS; replace HS := Bx.mk HS
   have HS : Bx (St w0 ([boxA b5 1 41 (.agg #[.slice (some ⟨gw, 0, none⟩) 3 3]), rowA encS 1 9 (.slice (some ⟨gw, 0, none⟩) 3 3) ([col0 t, col1 t, col2 t]), boxA b3 1 25 (.agg #[.slice none 0 0]), boxA b2 1 3 (.agg #[.int .i64 row]), boxA b1 1 25 (.agg #[.slice a0 ps.length c0])]) _) := HS
   refine wl_as HF rfl rfl rfl rfl rfl ?_; clear HF a; intro a HF
   refine wl_ne ?_
   refine wp_ret ?_
   refine ex_then_ret ?_
   refine bp_ret2 HF Try.results10 (HF.resBox rfl (HS.out.box 2 rfl) (by kernel_rfl)) (HF.res rfl) ?_
   exact .inl ⟨writeF_no (by rw [hsz, hok] <;> simp), rfl, (((((HS.out.erase 4).erase 3).erase 2).erase 1).erase 0)⟩
  ·clear HF; have HF := HF1; clear HF1
   have hok : okR (dsOf ps) = true := by simpa using cc3
   refine wl_yg HF rfl rfl rfl rfl rfl (yl_load (v := .int .i64 row) rfl (HF.ev rfl) (((HS.out.box 3 rfl).cell 0).trans rfl) (by kernel_rfl)) ?_; clear HF a; intro a HF
   refine wl_callBg HF rfl rfl rfl rfl (enter_of Try.func46 (by kernel_rfl) rfl) (args := #[.int .i64 row]) rfl (v := .bool (inB row 8 63)) (((isRow_any row _).mono fun _ _ h => ⟨h.1, h.2 ▸ Below.refl _ _⟩)) rfl rfl HS.out ?_; clear HF HS a; intro w16 a HS HF; replace HS := Bx.mk HS
   refine wl_yg HF rfl rfl rfl rfl rfl (yl_not rfl (HF.ev rfl)) ?_; clear HF a; intro a HF
   refine wl_y rfl HF rfl rfl (yl_pick_f rfl (HF.ev rfl) (HF.ev rfl)) ?_; clear HF a; intro a HF
   refine wl_mv HF rfl rfl rfl rfl rfl ?_; clear HF a; intro a HF
   refine HF.cases 23 rfl (fun cc4 HF1 => ?_) (fun cc4 HF1 => ?_)
   ·clear HF; have HF := HF1; clear HF1
    have hrw : inB row 8 63 = false := by simpa using cc4
    refine wl_skip HF rfl rfl rfl rfl rfl rfl ?_; clear HF a; intro a HF
    refine wl_skip HF rfl rfl rfl rfl rfl rfl ?_; clear HF a; intro a HF
    refine wl_y rfl HF rfl rfl (yl_pick_t rfl (HF.ev rfl) (HF.ev rfl)) ?_; clear HF a; intro a HF
    refine wl_ne ?_
    refine wc_true HF rfl ?_
    refine wp_sr ?_
    refine wl_y rfl HF rfl rfl (yl_build HF rfl (ps := []) rfl (cs := #[.slice none 0 0]) (by kernel_rfl)) ?_; clear HF a; intro a HF
    refine wl_storeBox rfl HF rfl rfl (HF.ev rfl) (HF.ev rfl) HS.out 2 rfl (cells_lit [.slice none 0 0] rfl rfl) (by kernel_rfl) ?_; clear HS; intro w17 HS; replace HS := Bx.mk HS
    have HS : Bx (St w0 ([boxA b5 1 41 (.agg #[.slice (some ⟨gw, 0, none⟩) 3 3]), rowA encS 1 9 (.slice (some ⟨gw, 0, none⟩) 3 3) ([col0 t, col1 t, col2 t]), boxA b3 1 25 (.agg #[.slice none 0 0]), boxA b2 1 3 (.agg #[.int .i64 row]), boxA b1 1 25 (.agg #[.slice a0 ps.length c0])]) _) := HS
    refine wl_as HF rfl rfl rfl rfl rfl ?_; clear HF a; intro a HF
    refine wl_ne ?_
    refine wp_ret ?_
    refine ex_then_ret ?_
    refine bp_ret2 HF Try.results10 (HF.resBox rfl (HS.out.box 2 rfl) (by kernel_rfl)) (HF.res rfl) ?_
    exact .inl ⟨writeF_no (by rw [hsz, hok, hrw] <;> simp), rfl, (((((HS.out.erase 4).erase 3).erase 2).erase 1).erase 0)⟩
   ·clear HF; have HF := HF1; clear HF1
    have hrw : inB row 8 63 = true := by simpa using cc4
    refine wl_yg HF rfl rfl rfl rfl rfl (yl_move rfl (HF.ev rfl)) ?_; clear HF a; intro a HF
    refine wl_yg HF rfl rfl rfl rfl rfl (yl_not rfl (HF.ev rfl)) ?_; clear HF a; intro a HF
    refine wl_y rfl HF rfl rfl (yl_pick_f rfl (HF.ev rfl) (HF.ev rfl)) ?_; clear HF a; intro a HF
    refine wl_ne ?_
    refine wc_false HF rfl ?_
    refine wp_skip ?_
    refine ex_then ?_
    refine wp_sr ?_
    refine wl_y rfl HF rfl rfl (yl_loadR (cs := [.slice a0 ps.length c0]) rfl (HF.ev rfl) ((HS.out.box 4 rfl).sub 0 1) (by kernel_rfl)) ?_; clear HF a; intro a HF
    refine wl_y rfl HF rfl rfl (yl_makeFunc HF rfl (cs := #[.pointer (some ⟨b2, 0, none⟩), .pointer (some ⟨b5, 0, none⟩)]) rfl) ?_; clear HF a; intro a HF
    have hrb := inB_bounds hrw; have hsb := inB_bounds hsz; have h3 := okR_three hok; obtain ⟨m, rfl⟩ : ∃ m : Nat, row = (m : Int) := ⟨row.toNat, by omega⟩
    replace HS : Bx (St w0 ([boxA b2 1 3 (.agg #[.int .i64 (m : Int)]), boxA b5 1 41 (.agg #[.slice (some ⟨gw, 0, none⟩) 3 3]), rowA encS 1 9 (.slice (some ⟨gw, 0, none⟩) 3 3) ([col0 t, col1 t, col2 t]), boxA b3 1 25 (.agg #[.slice none 0 0]), boxA b1 1 25 (.agg #[.slice a0 ps.length c0])]) _) := ⟨(((HS.out).pick 1 rfl).pick 1 rfl).pick 3 rfl⟩
    refine wl_call rfl HF rfl (enter_of Try.func47 (by kernel_rfl) rfl) (args := #[.agg #[.slice a0 ps.length c0], .func (.func 48) #[] #[.pointer (some ⟨b2, 0, none⟩), .pointer (some ⟨b5, 0, none⟩)]]) rfl (each_any w0 _ a0 c0 ps 48 #[.pointer (some ⟨b2, 0, none⟩), .pointer (some ⟨b5, 0, none⟩)] (stepPut (m : Int) (colOf t) (fun _ => true)) (fun _ => [boxA b2 1 3 (.agg #[.int .i64 (m : Int)]), boxA b5 1 41 (.agg #[.slice (some ⟨gw, 0, none⟩) 3 3]), rowA encS 1 9 (.slice (some ⟨gw, 0, none⟩) 3 3) ([col0 t, col1 t, col2 t])]) [boxA b3 1 25 (.agg #[.slice none 0 0]), boxA b1 1 25 (.agg #[.slice a0 ps.length c0])] hl (enter_of Try.func48 (by kernel_rfl) rfl) hp.1 (fun k hk w X _ hS => write1_any w0 w b2 b5 gw m (by omega) ps k (by omega) (h3.2 k hk) (hf.at k) (hp.at k hk) t (by omega) X hS) HS.out) rfl rfl ?_
    rintro _ w18 (⟨hev, rfl, hs⟩ | ⟨ao, cp, qs, hev, rfl, hs⟩)
    ·skip
     refine ⟨_, rfl, ?_⟩; replace HS := Bx.mk (hs); clear hs HF; clear a; intro a HF
     replace HS : Bx (St w0 ([boxA b3 1 25 (.agg #[.slice none 0 0]), boxA b1 1 25 (.agg #[.slice a0 ps.length c0])]) _) := ⟨HS.out⟩
     refine wl_y rfl HF rfl rfl (yl_extract rfl (HF.ev rfl) rfl) ?_; clear HF a; intro a HF
     refine wl_y rfl HF rfl rfl (yl_extract rfl (HF.ev rfl) rfl) ?_; clear HF a; intro a HF
     refine wl_storeBox rfl HF rfl rfl (HF.ev rfl) (HF.ev rfl) HS.out 0 rfl (cells_lit [.slice none 0 0] rfl rfl) (by kernel_rfl) ?_; clear HS; intro w19 HS; replace HS := Bx.mk HS
     have HS : Bx (St w0 ([boxA b3 1 25 (.agg #[.slice none 0 0]), boxA b1 1 25 (.agg #[.slice a0 ps.length c0])]) _) := HS
     refine wl_as HF rfl rfl rfl rfl rfl ?_; clear HF a; intro a HF
     refine wl_ne ?_
     refine wp_ret ?_
     refine bp_ret2 HF Try.results10 (HF.resBox rfl (HS.out.box 0 rfl) (by kernel_rfl)) (HF.res rfl) ?_
     exact .inl ⟨by rw [writeF_yes hok hrw hsz]; rw [h3.1] at hev; exact hev, rfl, ((HS.out.erase 1).erase 0)⟩
    ·skip
     refine ⟨_, rfl, ?_⟩; replace HS := Bx.mk (hs); clear hs HF; clear a; intro a HF
     replace HS : Bx (St w0 ([rowA HD.cells 3 44 (.slice ao qs.length cp) qs, sepA (qs.map HD.asr), boxA b2 1 3 (.agg #[.int .i64 (m : Int)]), boxA b5 1 41 (.agg #[.slice (some ⟨gw, 0, none⟩) 3 3]), rowA encS 1 9 (.slice (some ⟨gw, 0, none⟩) 3 3) ([col0 t, col1 t, col2 t]), boxA b3 1 25 (.agg #[.slice none 0 0]), boxA b1 1 25 (.agg #[.slice a0 ps.length c0])]) _) := ⟨HS.out⟩
     refine wl_y rfl HF rfl rfl (yl_extract rfl (HF.ev rfl) rfl) ?_; clear HF a; intro a HF
     refine wl_y rfl HF rfl rfl (yl_extract rfl (HF.ev rfl) rfl) ?_; clear HF a; intro a HF
     refine wl_storeBox rfl HF rfl rfl (HF.ev rfl) (HF.ev rfl) HS.out 5 rfl (cells_lit [.slice ao qs.length cp] rfl rfl) (by kernel_rfl) ?_; clear HS; intro w20 HS; replace HS := Bx.mk HS
     have HS : Bx (St w0 ([rowA HD.cells 3 44 (.slice ao qs.length cp) qs, sepA (qs.map HD.asr), boxA b2 1 3 (.agg #[.int .i64 (m : Int)]), boxA b5 1 41 (.agg #[.slice (some ⟨gw, 0, none⟩) 3 3]), rowA encS 1 9 (.slice (some ⟨gw, 0, none⟩) 3 3) ([col0 t, col1 t, col2 t]), boxA b3 1 25 (.agg #[.slice ao qs.length cp]), boxA b1 1 25 (.agg #[.slice a0 ps.length c0])]) _) := HS
     refine wl_as HF rfl rfl rfl rfl rfl ?_; clear HF a; intro a HF
     refine wl_ne ?_
     refine wp_ret ?_
     refine bp_ret2 HF Try.results10 (HF.resBox rfl (HS.out.box 5 rfl) (by kernel_rfl)) (HF.res rfl) ?_
     replace HS : Bx (St w0 ([rowA HD.cells 3 44 (.slice ao qs.length cp) qs, sepA (qs.map HD.asr), boxA b2 1 3 (.agg #[.int .i64 (m : Int)]), boxA b5 1 41 (.agg #[.slice (some ⟨gw, 0, none⟩) 3 3]), rowA encS 1 9 (.slice (some ⟨gw, 0, none⟩) 3 3) ([col0 t, col1 t, col2 t]), boxA b3 1 25 (.agg #[.slice ao qs.length cp]), boxA b1 1 25 (.agg #[.slice a0 ps.length c0])]) _) := ⟨((HS.out).pick 1 rfl).pick 1 rfl⟩
     rw [h3.1] at hev
     exact .inr ⟨_, _, qs, by rw [writeF_yes hok hrw hsz]; exact hev, rfl, (((((HS.out.erase 6).erase 5).erase 4).erase 3).erase 2)⟩

theorem waits_small {qs : List HD} (h : okR (dsOf qs) = true) (k : Nat) : (qs.getD k default).d.fWaits.length ≤ 120 := by
  by_cases hk : k < 3
  · have := (okR_at h).2 k hk
    rw [dsOf_get] at this
    exact (ok_waits this).2
  · have hl := (okR_at h).1
    rw [dsOf_len] at hl
    rw [show qs.getD k default = default by simp [List.getD, List.getElem?_eq_none (show qs.length ≤ k by omega)]]; exact Nat.zero_le _

theorem specRaidWrite_any (a0 : Option Addr) (c0 : Nat) (ps : List HD) (w0 : World) (hl : ps.length ≤ 1048576) (hf : fitsL ps) (hp : rdsP a0 ps w0) (row : Int) (t : ByteArray) (ht : t.size ≤ 1000000) : Calls Try.prog 11 #[.agg #[.slice a0 ps.length c0], .int .i64 row, .string t] w0 fun e w' => (writeF (dsOf ps) row t = none ∧ e = .returned (.tuple #[.agg #[.slice none 0 0], .bool false]) ∧ St w0 [] w') ∨ (∃ ao cp qs, writeF (dsOf ps) row t = some (dsOf qs) ∧ e = .returned (.tuple #[.agg #[.slice ao qs.length cp], .bool true]) ∧ St w0 [rowA HD.cells 3 44 (.slice ao qs.length cp) qs, sepA (qs.map HD.asr)] w') := by
 have HS := Bx.mk (St.start w0)
 refine wc_enter Try.func11 rfl Try.ntmps11 [(0, .agg #[.slice a0 ps.length c0]), (1, .int .i64 row), (2, .string t)] ⟨rfl, rfl, rfl, trivial⟩ rfl ?_; intro a HF
 refine wp_sr ?_
 refine wl_box rfl HF rfl (HF.ev rfl) (Z := [.slice a0 ps.length c0]) rfl rfl rfl rfl HS.out ?_; clear HF HS a; intro a w1 b1 HF HS; replace HS := Bx.mk HS
 refine wl_alloc rfl HF rfl rfl rfl (Z := [.slice none 0 0]) (by kernel_rfl) rfl HS.out ?_; clear HF HS a; intro a w2 b2 HF HS; replace HS := Bx.mk HS
 refine wl_as HF rfl rfl rfl rfl rfl ?_; clear HF a; intro a HF
 refine wl_ne ?_
 refine wp_seq ?_
 refine wp_sr ?_
 refine wl_y rfl HF rfl rfl (yl_loadR (cs := [.slice a0 ps.length c0]) rfl (HF.ev rfl) ((HS.out.box 1 rfl).sub 0 1) (by kernel_rfl)) ?_; clear HF a; intro a HF
 refine wl_callB rfl HF rfl (enter_of Try.func51 (by kernel_rfl) rfl) (args := #[.agg #[.slice a0 ps.length c0]]) rfl (v := .bool (okR (dsOf ps))) (specRaidOk_any a0 c0 ps _ hl hf.at (hp.1.below HS.out.bel) (fun k hk => (hp.at k hk).below HS.out.bel)) rfl rfl HS.out ?_; clear HF HS a; intro w3 a HS HF; replace HS := Bx.mk HS
 refine wl_y rfl HF rfl rfl (yl_not rfl (HF.ev rfl)) ?_; clear HF a; intro a HF
 refine wl_mv HF rfl rfl rfl rfl rfl ?_; clear HF a; intro a HF
 refine HF.cases 11 rfl (fun cc1 HF1 => ?_) (fun cc1 HF1 => ?_)
 ·clear HF; have HF := HF1; clear HF1
  have hok : okR (dsOf ps) = false := by simpa using cc1
  refine wl_skip HF rfl rfl rfl rfl rfl rfl ?_; clear HF a; intro a HF
  refine wl_skip HF rfl rfl rfl rfl rfl rfl ?_; clear HF a; intro a HF
  refine wl_skip HF rfl rfl rfl rfl rfl rfl ?_; clear HF a; intro a HF
  refine wl_y rfl HF rfl rfl (yl_pick_t rfl (HF.ev rfl) (HF.ev rfl)) ?_; clear HF a; intro a HF
  refine wl_mv HF rfl rfl rfl rfl rfl ?_; clear HF a; intro a HF
  refine wl_skip HF rfl rfl rfl rfl rfl rfl ?_; clear HF a; intro a HF
  refine wl_skip HF rfl rfl rfl rfl rfl rfl ?_; clear HF a; intro a HF
  refine wl_skip HF rfl rfl rfl rfl rfl rfl ?_; clear HF a; intro a HF
  refine wl_y rfl HF rfl rfl (yl_pick_t rfl (HF.ev rfl) (HF.ev rfl)) ?_; clear HF a; intro a HF
  refine wl_ne ?_
  refine wc_true HF rfl ?_
  refine wp_sr ?_
  refine wl_y rfl HF rfl rfl (yl_build HF rfl (ps := []) rfl (cs := #[.slice none 0 0]) (by kernel_rfl)) ?_; clear HF a; intro a HF
  refine wl_storeBox rfl HF rfl rfl (HF.ev rfl) (HF.ev rfl) HS.out 0 rfl (cells_lit [.slice none 0 0] rfl rfl) (by kernel_rfl) ?_; clear HS; intro w4 HS; replace HS := Bx.mk HS
  have HS : Bx (St w0 ([boxA b2 1 25 (.agg #[.slice none 0 0]), boxA b1 1 25 (.agg #[.slice a0 ps.length c0])]) _) := HS
  refine wl_as HF rfl rfl rfl rfl rfl ?_; clear HF a; intro a HF
  refine wl_ne ?_
  refine wp_ret ?_
  refine ex_then_ret ?_
  refine bp_ret2 HF Try.results11 (HF.resBox rfl (HS.out.box 0 rfl) (by kernel_rfl)) (HF.res rfl) ?_
  exact .inl ⟨writeF_no (by rw [hok] <;> simp), rfl, ((HS.out.erase 1).erase 0)⟩
 ·clear HF; have HF := HF1; clear HF1
  have hok : okR (dsOf ps) = true := by simpa using cc1
  refine wl_yg HF rfl rfl rfl rfl rfl (yl_move rfl (HF.ev rfl)) ?_; clear HF a; intro a HF
  refine wl_callBg HF rfl rfl rfl rfl (enter_of Try.func52 (by kernel_rfl) rfl) (args := #[.int .i64 row]) rfl (v := .bool (inB row 8 63)) (((l2Row_any row _).mono fun _ _ h => ⟨h.1, h.2 ▸ Below.refl _ _⟩)) rfl rfl HS.out ?_; clear HF HS a; intro w5 a HS HF; replace HS := Bx.mk HS
  refine wl_yg HF rfl rfl rfl rfl rfl (yl_not rfl (HF.ev rfl)) ?_; clear HF a; intro a HF
  refine wl_y rfl HF rfl rfl (yl_pick_f rfl (HF.ev rfl) (HF.ev rfl)) ?_; clear HF a; intro a HF
  refine wl_mv HF rfl rfl rfl rfl rfl ?_; clear HF a; intro a HF
  refine HF.cases 16 rfl (fun cc2 HF1 => ?_) (fun cc2 HF1 => ?_)
  ·clear HF; have HF := HF1; clear HF1
   have hrw : inB row 8 63 = false := by simpa using cc2
   refine wl_skip HF rfl rfl rfl rfl rfl rfl ?_; clear HF a; intro a HF
   refine wl_skip HF rfl rfl rfl rfl rfl rfl ?_; clear HF a; intro a HF
   refine wl_skip HF rfl rfl rfl rfl rfl rfl ?_; clear HF a; intro a HF
   refine wl_y rfl HF rfl rfl (yl_pick_t rfl (HF.ev rfl) (HF.ev rfl)) ?_; clear HF a; intro a HF
   refine wl_ne ?_
   refine wc_true HF rfl ?_
   refine wp_sr ?_
   refine wl_y rfl HF rfl rfl (yl_build HF rfl (ps := []) rfl (cs := #[.slice none 0 0]) (by kernel_rfl)) ?_; clear HF a; intro a HF
   refine wl_storeBox rfl HF rfl rfl (HF.ev rfl) (HF.ev rfl) HS.out 0 rfl (cells_lit [.slice none 0 0] rfl rfl) (by kernel_rfl) ?_; clear HS; intro w6 HS; replace HS := Bx.mk HS
   have HS : Bx (St w0 ([boxA b2 1 25 (.agg #[.slice none 0 0]), boxA b1 1 25 (.agg #[.slice a0 ps.length c0])]) _) := HS
   refine wl_as HF rfl rfl rfl rfl rfl ?_; clear HF a; intro a HF
   refine wl_ne ?_
   refine wp_ret ?_
   refine ex_then_ret ?_
   refine bp_ret2 HF Try.results11 (HF.resBox rfl (HS.out.box 0 rfl) (by kernel_rfl)) (HF.res rfl) ?_
   exact .inl ⟨writeF_no (by rw [hok, hrw] <;> simp), rfl, ((HS.out.erase 1).erase 0)⟩
  ·clear HF; have HF := HF1; clear HF1
   have hrw : inB row 8 63 = true := by simpa using cc2
   refine wl_yg HF rfl rfl rfl rfl rfl (yl_move rfl (HF.ev rfl)) ?_; clear HF a; intro a HF
   refine wl_callBg HF rfl rfl rfl rfl (enter_of Try.func53 (by kernel_rfl) rfl) (args := #[.string t]) rfl (v := .bool (inB (t.size : Int) 1 128)) (l2Block_any t _ (by omega)) rfl rfl HS.out ?_; clear HF HS a; intro w7 a HS HF; replace HS := Bx.mk HS
   refine wl_yg HF rfl rfl rfl rfl rfl (yl_not rfl (HF.ev rfl)) ?_; clear HF a; intro a HF
   refine wl_y rfl HF rfl rfl (yl_pick_f rfl (HF.ev rfl) (HF.ev rfl)) ?_; clear HF a; intro a HF
   refine wl_ne ?_
   refine HF.cases 20 rfl (fun cc3 HF1 => ?_) (fun cc3 HF1 => ?_)
   ·clear HF; have HF := HF1; clear HF1
    have hsz : inB (t.size : Int) 1 128 = false := by simpa using cc3
    refine wc_true HF rfl ?_
    refine wp_sr ?_
    refine wl_y rfl HF rfl rfl (yl_build HF rfl (ps := []) rfl (cs := #[.slice none 0 0]) (by kernel_rfl)) ?_; clear HF a; intro a HF
    refine wl_storeBox rfl HF rfl rfl (HF.ev rfl) (HF.ev rfl) HS.out 0 rfl (cells_lit [.slice none 0 0] rfl rfl) (by kernel_rfl) ?_; clear HS; intro w8 HS; replace HS := Bx.mk HS
    have HS : Bx (St w0 ([boxA b2 1 25 (.agg #[.slice none 0 0]), boxA b1 1 25 (.agg #[.slice a0 ps.length c0])]) _) := HS
    refine wl_as HF rfl rfl rfl rfl rfl ?_; clear HF a; intro a HF
    refine wl_ne ?_
    refine wp_ret ?_
    refine ex_then_ret ?_
    refine bp_ret2 HF Try.results11 (HF.resBox rfl (HS.out.box 0 rfl) (by kernel_rfl)) (HF.res rfl) ?_
    exact .inl ⟨writeF_no (by rw [hok, hrw, hsz] <;> simp), rfl, ((HS.out.erase 1).erase 0)⟩
   ·clear HF; have HF := HF1; clear HF1
    have hsz : inB (t.size : Int) 1 128 = true := by simpa using cc3
    refine wc_false HF rfl ?_
    refine wp_skip ?_
    refine ex_then ?_
    refine wp_sr ?_
    refine wl_y rfl HF rfl rfl (yl_loadR (cs := [.slice a0 ps.length c0]) rfl (HF.ev rfl) ((HS.out.box 1 rfl).sub 0 1) (by kernel_rfl)) ?_; clear HF a; intro a HF
    have hrb := inB_bounds hrw; have hsb := inB_bounds hsz; have h3 := okR_three hok; obtain ⟨m, rfl⟩ : ∃ m : Nat, row = (m : Int) := ⟨row.toNat, by omega⟩
    refine wl_call rfl HF rfl (enter_of Try.func55 (by kernel_rfl) rfl) (args := #[.agg #[.slice a0 ps.length c0]]) rfl (l4Copy_any a0 c0 ps _ hl hf.at (hp.1.below HS.out.bel) (fun k hk => (hp.at k hk).below HS.out.bel)) rfl rfl ?_
    rintro _ w9 ⟨ao, cp, qs, rfl, hqd, hs⟩
    have hql : qs.length = 3 := by rw [← dsOf_len, hqd, dsOf_len]; exact h3.1
    refine ⟨_, rfl, ?_⟩; replace HS := Bx.mk (HS.out.add hs); clear hs HF; clear a; intro a HF
    replace HS : Bx (St w0 ([rowA HD.cells 3 44 (.slice ao qs.length cp) qs, sepA (qs.map HD.asr), boxA b2 1 25 (.agg #[.slice none 0 0]), boxA b1 1 25 (.agg #[.slice a0 ps.length c0])]) _) := ⟨HS.out⟩
    obtain ⟨g3, rfl, _, _, _, _⟩ := HS.out.rowOpen 0 rfl (by omega)
    refine wl_mv HF rfl rfl rfl rfl rfl ?_; clear HF a; intro a HF
    refine wl_mv HF rfl rfl rfl rfl rfl ?_; clear HF a; intro a HF
    refine wl_call rfl HF rfl (enter_of Try.func56 (by kernel_rfl) rfl) (args := #[.string t]) rfl (l4Cut_any t _ (by omega) (by omega)) rfl rfl ?_
    rintro _ w10 ⟨gw, rfl, hs⟩
    refine ⟨_, rfl, ?_⟩; replace HS := Bx.mk (HS.out.add hs); clear hs HF; clear a; intro a HF
    replace HS : Bx (St w0 ([rowA encS 1 9 (.slice (some ⟨gw, 0, none⟩) 3 3) ([col0 t, col1 t, col2 t]), rowA HD.cells 3 44 (.slice (some ⟨g3, 0, none⟩) qs.length cp) qs, sepA (qs.map HD.asr), boxA b2 1 25 (.agg #[.slice none 0 0]), boxA b1 1 25 (.agg #[.slice a0 ps.length c0])]) _) := ⟨HS.out⟩
    refine wl_buildS (enc := encL) (e := 4) (size := 1) rfl HF rfl rfl rfl (ps := [(0, .bool true), (1, .bool true), (2, .bool true)]) rfl (cells := [.bool true, .bool true, .bool true]) (by kernel_rfl) [true, true, true] rfl rfl (by unfold maxLen; omega) rfl HS.out ?_; clear HF HS a; intro b4 a w11 HF HS; replace HS := Bx.mk HS
    replace HS : Bx (St w0 ([rowA HD.cells 3 44 (.slice (some ⟨g3, 0, none⟩) qs.length cp) qs, sepA (qs.map HD.asr), rowA encS 1 9 (.slice (some ⟨gw, 0, none⟩) 3 3) ([col0 t, col1 t, col2 t]), rowA encL 1 4 (.slice (some ⟨b4, 0, none⟩) 3 3) ([true, true, true]), boxA b2 1 25 (.agg #[.slice none 0 0]), boxA b1 1 25 (.agg #[.slice a0 ps.length c0])]) _) := ⟨((((HS.out).pick 0 rfl).pick 1 rfl).pick 3 rfl).pick 3 rfl⟩
    have hcong : eachTo (stepPut (m : Int) (fun i => [col0 t, col1 t, col2 t].getD i ByteArray.empty) (fun i => [true, true, true].getD i false)) (dsOf qs) qs.length = writeF (dsOf ps) (m : Int) t := by rw [writeF_yes hok hrw hsz, hql, hqd]; exact eachTo_congr fun k hk => by rcases (by omega : k = 0 ∨ k = 1 ∨ k = 2) with rfl | rfl | rfl <;> rfl
    refine wl_call rfl HF rfl (enter_of Try.func54 (by kernel_rfl) rfl) (args := #[.agg #[.slice (some ⟨g3, 0, none⟩) qs.length cp], .int .i64 (m : Int), .slice (some ⟨gw, 0, none⟩) 3 3, .slice (some ⟨b4, 0, none⟩) 3 3]) rfl (by have := l4Put_any w0 _ g3 cp gw 3 b4 3 qs (m : Int) [col0 t, col1 t, col2 t] [true, true, true] _ (by omega) (by rw [hql]; exact Nat.le_refl 3) (by rw [hql]; exact Nat.le_refl 3) (fun k => by have := (okR_fits (ps := qs) (by rw [hqd]; exact hok)); have h9 := waits_small (qs := qs) (by rw [hqd]; exact hok) k; omega) (fun i => Nat.le_trans (col_le t i (by omega)) (by decide)) HS.out; rw [hcong] at this; exact this) rfl rfl ?_
    rintro _ w12 (⟨hev, rfl, hs⟩ | ⟨zs, hev, rfl, hs⟩)
    ·skip
     refine ⟨_, rfl, ?_⟩; replace HS := Bx.mk (hs); clear hs HF; clear a; intro a HF
     replace HS : Bx (St w0 ([rowA encS 1 9 (.slice (some ⟨gw, 0, none⟩) 3 3) ([col0 t, col1 t, col2 t]), rowA encL 1 4 (.slice (some ⟨b4, 0, none⟩) 3 3) ([true, true, true]), boxA b2 1 25 (.agg #[.slice none 0 0]), boxA b1 1 25 (.agg #[.slice a0 ps.length c0])]) _) := ⟨HS.out⟩
     refine wl_y rfl HF rfl rfl (yl_extract rfl (HF.ev rfl) rfl) ?_; clear HF a; intro a HF
     refine wl_y rfl HF rfl rfl (yl_extract rfl (HF.ev rfl) rfl) ?_; clear HF a; intro a HF
     refine wl_storeBox rfl HF rfl rfl (HF.ev rfl) (HF.ev rfl) HS.out 2 rfl (cells_lit [.slice none 0 0] rfl rfl) (by kernel_rfl) ?_; clear HS; intro w13 HS; replace HS := Bx.mk HS
     have HS : Bx (St w0 ([rowA encS 1 9 (.slice (some ⟨gw, 0, none⟩) 3 3) ([col0 t, col1 t, col2 t]), rowA encL 1 4 (.slice (some ⟨b4, 0, none⟩) 3 3) ([true, true, true]), boxA b2 1 25 (.agg #[.slice none 0 0]), boxA b1 1 25 (.agg #[.slice a0 ps.length c0])]) _) := HS
     refine wl_as HF rfl rfl rfl rfl rfl ?_; clear HF a; intro a HF
     refine wl_ne ?_
     refine wp_ret ?_
     refine bp_ret2 HF Try.results11 (HF.resBox rfl (HS.out.box 2 rfl) (by kernel_rfl)) (HF.res rfl) ?_
     exact .inl ⟨hev, rfl, ((((HS.out.erase 3).erase 2).erase 1).erase 0)⟩
    ·skip
     refine ⟨_, rfl, ?_⟩; replace HS := Bx.mk (hs); clear hs HF; clear a; intro a HF
     replace HS : Bx (St w0 ([rowA HD.cells 3 44 (.slice (some ⟨g3, 0, none⟩) qs.length cp) zs, sepA (zs.map HD.asr), rowA encS 1 9 (.slice (some ⟨gw, 0, none⟩) 3 3) ([col0 t, col1 t, col2 t]), rowA encL 1 4 (.slice (some ⟨b4, 0, none⟩) 3 3) ([true, true, true]), boxA b2 1 25 (.agg #[.slice none 0 0]), boxA b1 1 25 (.agg #[.slice a0 ps.length c0])]) _) := ⟨HS.out⟩
     refine wl_y rfl HF rfl rfl (yl_extract rfl (HF.ev rfl) rfl) ?_; clear HF a; intro a HF
     refine wl_y rfl HF rfl rfl (yl_extract rfl (HF.ev rfl) rfl) ?_; clear HF a; intro a HF
     refine wl_storeBox rfl HF rfl rfl (HF.ev rfl) (HF.ev rfl) HS.out 4 rfl (cells_lit [.slice (some ⟨g3, 0, none⟩) qs.length cp] rfl rfl) (by kernel_rfl) ?_; clear HS; intro w14 HS; replace HS := Bx.mk HS
     have HS : Bx (St w0 ([rowA HD.cells 3 44 (.slice (some ⟨g3, 0, none⟩) qs.length cp) zs, sepA (zs.map HD.asr), rowA encS 1 9 (.slice (some ⟨gw, 0, none⟩) 3 3) ([col0 t, col1 t, col2 t]), rowA encL 1 4 (.slice (some ⟨b4, 0, none⟩) 3 3) ([true, true, true]), boxA b2 1 25 (.agg #[.slice (some ⟨g3, 0, none⟩) qs.length cp]), boxA b1 1 25 (.agg #[.slice a0 ps.length c0])]) _) := HS
     refine wl_as HF rfl rfl rfl rfl rfl ?_; clear HF a; intro a HF
     refine wl_ne ?_
     refine wp_ret ?_
     refine bp_ret2 HF Try.results11 (HF.resBox rfl (HS.out.box 4 rfl) (by kernel_rfl)) (HF.res rfl) ?_
     replace HS : Bx (St w0 ([rowA HD.cells 3 44 (.slice (some ⟨g3, 0, none⟩) qs.length cp) zs, sepA (zs.map HD.asr), rowA encS 1 9 (.slice (some ⟨gw, 0, none⟩) 3 3) ([col0 t, col1 t, col2 t]), rowA encL 1 4 (.slice (some ⟨b4, 0, none⟩) 3 3) ([true, true, true]), boxA b2 1 25 (.agg #[.slice (some ⟨g3, 0, none⟩) qs.length cp]), boxA b1 1 25 (.agg #[.slice a0 ps.length c0])]) _) := ⟨((HS.out).pick 1 rfl).pick 1 rfl⟩
     have hzl : zs.length = qs.length := by have h8 := hev; rw [writeF_yes hok hrw hsz] at h8; rw [← dsOf_len, eachTo_len h8, hql]
     have HT := ((((HS.out.erase 5).erase 4).erase 3).erase 2); rw [← hzl] at HT ⊢
     exact .inr ⟨_, _, zs, hev, rfl, HT⟩

end Go.Proofs.Ytfijfjjleelphaa
