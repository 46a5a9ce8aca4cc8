/- A part of the proof in YtoaopmkbfifhaaaGreatDoorIwZ22. -/
import Derived.ArgAppend
import Derived.BigQuiet
import Derived.BigRegion
import Derived.Deep.AppendLies
import Derived.Deep.MidRow
import Derived.Deep.Quiet
import Derived.Deep.QuietTactic
import Derived.Deep.RegionHeld3
import Derived.Deep.RegionWith
import Derived.IntWalk
import Derived.Laws.BytesArg
import Derived.Lib.Hide
import Derived.Lib.LazyBuf
import Derived.LoopIn
import Derived.LoopN
import Derived.LoopNIn
import Derived.Orders
import Derived.OrdersHeld
import Derived.OwnWalkIn
import Derived.RangeFuncLeaves
import Derived.RangeFuncNested
import Derived.Shelf.Abstract
import Derived.Still
import Derived.StillTail
import Derived.StillTailTactics
import Derived.TacticsInMore
import Derived.Test.YtoaopmkbfifhaaaGreatDoorRows
import Derived.WalkKit
import Derived.WalkLawsBesides
import Derived.WalkSpells
import Derived.Test.YtoaopmkbfifhaaaGreatDoorIwZ10
/- Disks in rows; the first place at which a function says yes. -/
namespace Go.Proofs.YtoaopmkbfifhaaaGreatDoor
set_option linter.unusedVariables false
set_option linter.unusedSimpArgs false
set_option maxHeartbeats 1000000
set_option maxRecDepth 100000
open Go.RowKit

/-- A disk's header beside its datum. -/
structure HD where
  a0 : Option Addr
  c0 : Nat
  a1 : Option Addr
  c1 : Nat
  d : DiskD
def HD.cells (p : HD) : List Value := [.slice p.a0 p.d.fCells.length p.c0, .slice p.a1 p.d.fWaits.length p.c1, .bool p.d.fGone]
theorem HD.cells_len (p : HD) : p.cells.length = 3 := rfl
instance : Inhabited DiskD := ⟨⟨[], [], false⟩⟩
instance : Inhabited HD := ⟨⟨none, 0, none, 0, default⟩⟩
structure HD.reads (w : World) (p : HD) : Prop where
  rc : Rd encS 1 w p.a0 p.d.fCells.length p.d.fCells
  rw : Rd WaitD.cells 2 w p.a1 p.d.fWaits.length p.d.fWaits
theorem HD.reads.below {w w' : World} {p : HD} (h : p.reads w) (hb : Below w.heap.size w w') : p.reads w' := ⟨h.rc.below hb, h.rw.below hb⟩
def HD.asr (p : HD) : Asr := sepA [rowA encS 1 9 (.slice p.a0 p.d.fCells.length p.c0) p.d.fCells, rowA WaitD.cells 2 137 (.slice p.a1 p.d.fWaits.length p.c1) p.d.fWaits]

theorem indexFuncW_any (a0 : Option Addr) (c0 : Nat) (xs : List WaitD) (f : FuncId) (caps : Array Value) (p : Nat → Bool) (w0 : World) (hl : xs.length ≤ 1048576) (HE : ∀ (args : Array Value) (w : World), (callFunc f args).run Tryz.prog w = .ok (.enter f args) w) (hR : Rd WaitD.cells 2 w0 a0 xs.length xs) (hf : ∀ k, k < xs.length → ∀ w, Below w0.heap.size w0 w → Calls Tryz.prog f (#[] ++ #[.agg #[.int .i64 ((xs.getD k default).fAt), .string ((xs.getD k default).fText)]] ++ caps) w fun e w' => e = .returned (.bool (p k)) ∧ Below w.heap.size w w') : Calls Tryz.prog 152 #[.slice a0 xs.length c0, .func (.func f) #[] caps] w0 fun e w' => e = .returned (.int .i64 (idxB p xs.length 0)) ∧ Below w0.heap.size w0 w' := by
 have HR := Bx.mk hR; have HF0 := Bx.mk hf; clear hR hf
 have HS := Bx.mk (St.start w0)
 refine wc_enter Tryz.func152 rfl Tryz.ntmps152 [(0, .slice a0 xs.length c0), (1, .func (.func f) #[] caps)] ⟨rfl, rfl, trivial⟩ rfl ?_; intro a HF
 refine wp_sr ?_
 refine wl_as HF rfl rfl rfl rfl rfl ?_; clear HF a; intro a HF
 refine wl_ne ?_
 refine wp_seq ?_
 refine wp_sr ?_
 refine wl_mv HF rfl rfl rfl rfl rfl ?_; clear HF a; intro a HF
 refine wl_y rfl HF rfl rfl (yl_lenL (e := 137) (size := 2) rfl (HF.ev rfl) (by kernel_rfl)) ?_; clear HF a; intro a HF
 refine wl_mv HF rfl rfl rfl rfl rfl ?_; clear HF a; intro a HF
 refine wl_ne ?_
 refine wp_block ?_
 refine wc_loop (ι := Nat) (fun k a w => (k ≤ xs.length ∧ idxB p xs.length 0 = idxB p xs.length k) ∧ Fr 19 a [(0, .slice a0 xs.length c0), (1, .func (.func f) #[] caps), (7, .int .i64 (xs.length : Int)), (8, .int .i64 (k : Int))] ∧ St w0 ([]) w) (fun k => xs.length - k) 0 ⟨⟨Nat.zero_le _, rfl⟩, HF.less _ ⟨rfl, rfl, rfl, rfl, trivial⟩, HS.out⟩ ?_
 clear HF HS; clear a
 rintro k a w1 ⟨⟨hk, hf⟩, HF, HS⟩
 replace HS := Bx.mk HS
 refine wp_sr ?_
 refine wl_y rfl HF rfl rfl (yl_lssI rfl (HF.ev rfl) (HF.ev rfl)) ?_; clear HF a; intro a HF
 refine wl_ne ?_
 refine wp_seq ?_
 refine HF.cases 9 rfl (fun cc1 HF1 => ?_) (fun cc1 HF1 => ?_)
 ·clear HF; have HF := HF1; clear HF1
  have dcc1 := of_decide_eq_true cc1
  refine wc_true HF rfl ?_
  refine wp_skip ?_
  refine ex_then ?_
  refine wp_seq ?_
  refine wp_block ?_
  refine wp_sr ?_
  refine wl_mv HF rfl rfl rfl rfl rfl ?_; clear HF a; intro a HF
  refine wl_as HF rfl rfl rfl rfl rfl ?_; clear HF a; intro a HF
  refine wl_ne ?_
  refine wp_seq ?_
  obtain ⟨g0, o0, r0⟩ := HR.out.opn; have R0 := Bx.mk r0; clear r0
  refine wp_region_lit ?_
  refine wl_mv HF rfl rfl rfl rfl rfl ?_; clear HF a; intro a HF
  refine wl_mv HF rfl rfl rfl rfl rfl ?_; clear HF a; intro a HF
  refine wl_mv HF rfl rfl rfl rfl rfl ?_; clear HF a; intro a HF
  refine wl_y rfl HF rfl rfl (yl_indexAddrR (e := 137) (i := k) (size := 2) rfl (HF.ev rfl) (HF.ev rfl) (by kernel_rfl) rfl (by omega) (R0.out.ao k (by omega))) ?_; clear HF a; intro a HF
  refine wl_y rfl HF rfl rfl (yl_loadR (cs := [.int .i64 ((xs.getD k default).fAt), .string ((xs.getD k default).fText)]) rfl (HF.ev rfl) (R0.out.elem HS.out (get_getD (xs := xs) (j := k) (d := default) (by omega))) (by kernel_rfl)) ?_; clear HF a; intro a HF
  refine wl_callvB rfl HF rfl (HF.ev rfl) HE (args := #[.agg #[.int .i64 ((xs.getD k default).fAt), .string ((xs.getD k default).fText)]]) rfl (v := .bool (p k)) (HF0.out k (by omega) _ HS.out.bel) rfl rfl HS.out ?_; clear HF HS a; intro w2 a HS HF; replace HS := Bx.mk HS
  refine wl_ne ?_
  refine HF.cases 16 rfl (fun cc2 HF1 => ?_) (fun cc2 HF1 => ?_)
  ·clear HF; have HF := HF1; clear HF1
   refine wc_true HF rfl ?_
   refine wp_sr ?_
   refine wl_mv HF rfl rfl rfl rfl rfl ?_; clear HF a; intro a HF
   refine wl_as HF rfl rfl rfl rfl rfl ?_; clear HF a; intro a HF
   refine wl_ne ?_
   refine wp_ret ?_
   refine ex_block_ret ?_
   refine ex_then_ret ?_
   refine ex_then_ret ?_
   refine ex_block_ret ?_
   refine ex_then_ret ?_
   refine bp_ret1 HF Tryz.results152 (HF.res rfl) ?_
   rw [idxB_lt (k := k) (by omega), if_pos cc2] at hf
   exact ⟨by rw [hf], HS.out.bel⟩
  ·clear HF; have HF := HF1; clear HF1
   refine wc_false HF rfl ?_
   refine wp_skip ?_
   refine ex_block ?_
   refine ex_then ?_
   refine wp_region_lit ?_
   refine wl_y rfl HF rfl rfl (yl_addI rfl (HF.ev rfl) (HF.ev rfl) (i64w (by omega))) ?_; clear HF a; intro a HF
   refine wl_mv HF rfl rfl rfl rfl rfl ?_; clear HF a; intro a HF
   refine wl_ne ?_
   rw [idxB_lt (k := k) (by omega), if_neg (by rw [cc2]; simp)] at hf
   exact ⟨k + 1, ⟨⟨by omega, hf⟩, HF.less _ ⟨rfl, rfl, rfl, rfl, trivial⟩, HS.out⟩, (by omega)⟩
 ·clear HF; have HF := HF1; clear HF1
  have dcc1 := of_decide_eq_false cc1
  refine wc_false HF rfl ?_
  refine wp_exit ?_
  refine ex_then_exit ?_
  refine ex_then_exit ?_
  refine ex_block_hit ?_
  refine ex_then ?_
  refine wp_sr ?_
  refine wl_as HF rfl rfl rfl rfl rfl ?_; clear HF a; intro a HF
  refine wl_ne ?_
  refine wp_ret ?_
  refine bp_ret1 HF Tryz.results152 (HF.res rfl) ?_
  rw [idxB_end (k := k) (by omega)] at hf
  exact ⟨by rw [hf], HS.out.bel⟩

theorem containsFuncW_any (a0 : Option Addr) (c0 : Nat) (xs : List WaitD) (f : FuncId) (caps : Array Value) (p : Nat → Bool) (w0 : World) (hl : xs.length ≤ 1048576) (HE : ∀ (args : Array Value) (w : World), (callFunc f args).run Tryz.prog w = .ok (.enter f args) w) (hR : Rd WaitD.cells 2 w0 a0 xs.length xs) (hf : ∀ k, k < xs.length → ∀ w, Below w0.heap.size w0 w → Calls Tryz.prog f (#[] ++ #[.agg #[.int .i64 ((xs.getD k default).fAt), .string ((xs.getD k default).fText)]] ++ caps) w fun e w' => e = .returned (.bool (p k)) ∧ Below w.heap.size w w') : Calls Tryz.prog 117 #[.slice a0 xs.length c0, .func (.func f) #[] caps] w0 fun e w' => e = .returned (.bool (!allB (fun k => !p k) xs.length)) ∧ Below w0.heap.size w0 w' := by
 have HR := Bx.mk hR; have HF0 := Bx.mk hf; clear hR hf
 have HS := Bx.mk (St.start w0)
 refine wc_enter Tryz.func117 rfl Tryz.ntmps117 [(0, .slice a0 xs.length c0), (1, .func (.func f) #[] caps)] ⟨rfl, rfl, trivial⟩ rfl ?_; intro a HF
 refine wp_sr ?_
 refine wl_as HF rfl rfl rfl rfl rfl ?_; clear HF a; intro a HF
 refine wl_ne ?_
 refine wp_sr ?_
 refine wl_mv HF rfl rfl rfl rfl rfl ?_; clear HF a; intro a HF
 refine wl_mv HF rfl rfl rfl rfl rfl ?_; clear HF a; intro a HF
 refine wl_callB rfl HF rfl (enter_of Tryz.func152 (by kernel_rfl) rfl) (args := #[.slice a0 xs.length c0, .func (.func f) #[] caps]) rfl (v := .int .i64 (idxB p xs.length 0)) (indexFuncW_any a0 c0 xs f caps p _ hl HE (HR.out.below HS.out.bel) (fun k hk w hb => HF0.out k hk w (HS.out.bel.trans (hb.mono HS.out.bel.size)))) rfl rfl HS.out ?_; clear HF HS a; intro w1 a HS HF; replace HS := Bx.mk HS
 refine wl_y rfl HF rfl rfl (yl_geqI rfl (HF.ev rfl) (HF.ev rfl)) ?_; clear HF a; intro a HF
 refine wl_as HF rfl rfl rfl rfl rfl ?_; clear HF a; intro a HF
 refine wl_ne ?_
 refine wp_ret ?_
 refine bp_ret1 HF Tryz.results117 (HF.res rfl) ?_
 exact ⟨by rw [← idxB_any], HS.out.bel⟩

theorem indexFuncD_any (a0 : Option Addr) (c0 : Nat) (xs : List HD) (f : FuncId) (caps : Array Value) (p : Nat → Bool) (w0 : World) (hl : xs.length ≤ 1048576) (HE : ∀ (args : Array Value) (w : World), (callFunc f args).run Tryz.prog w = .ok (.enter f args) w) (hR : Rd HD.cells 3 w0 a0 xs.length xs) (hf : ∀ k, k < xs.length → ∀ w, Below w0.heap.size w0 w → Calls Tryz.prog f (#[] ++ #[.agg #[.slice ((xs.getD k default).a0) ((xs.getD k default).d.fCells.length) ((xs.getD k default).c0), .slice ((xs.getD k default).a1) ((xs.getD k default).d.fWaits.length) ((xs.getD k default).c1), .bool ((xs.getD k default).d.fGone)]] ++ caps) w fun e w' => e = .returned (.bool (p k)) ∧ Below w.heap.size w w') : Calls Tryz.prog 116 #[.slice a0 xs.length c0, .func (.func f) #[] caps] w0 fun e w' => e = .returned (.int .i64 (idxB p xs.length 0)) ∧ Below w0.heap.size w0 w' := by
 have HR := Bx.mk hR; have HF0 := Bx.mk hf; clear hR hf
 have HS := Bx.mk (St.start w0)
 refine wc_enter Tryz.func116 rfl Tryz.ntmps116 [(0, .slice a0 xs.length c0), (1, .func (.func f) #[] caps)] ⟨rfl, rfl, trivial⟩ rfl ?_; intro a HF
 refine wp_sr ?_
 refine wl_as HF rfl rfl rfl rfl rfl ?_; clear HF a; intro a HF
 refine wl_ne ?_
 refine wp_seq ?_
 refine wp_sr ?_
 refine wl_mv HF rfl rfl rfl rfl rfl ?_; clear HF a; intro a HF
 refine wl_y rfl HF rfl rfl (yl_lenL (e := 94) (size := 3) rfl (HF.ev rfl) (by kernel_rfl)) ?_; clear HF a; intro a HF
 refine wl_mv HF rfl rfl rfl rfl rfl ?_; clear HF a; intro a HF
 refine wl_ne ?_
 refine wp_block ?_
 refine wc_loop (ι := Nat) (fun k a w => (k ≤ xs.length ∧ idxB p xs.length 0 = idxB p xs.length k) ∧ Fr 19 a [(0, .slice a0 xs.length c0), (1, .func (.func f) #[] caps), (7, .int .i64 (xs.length : Int)), (8, .int .i64 (k : Int))] ∧ St w0 ([]) w) (fun k => xs.length - k) 0 ⟨⟨Nat.zero_le _, rfl⟩, HF.less _ ⟨rfl, rfl, rfl, rfl, trivial⟩, HS.out⟩ ?_
 clear HF HS; clear a
 rintro k a w1 ⟨⟨hk, hf⟩, HF, HS⟩
 replace HS := Bx.mk HS
 refine wp_sr ?_
 refine wl_y rfl HF rfl rfl (yl_lssI rfl (HF.ev rfl) (HF.ev rfl)) ?_; clear HF a; intro a HF
 refine wl_ne ?_
 refine wp_seq ?_
 refine HF.cases 9 rfl (fun cc1 HF1 => ?_) (fun cc1 HF1 => ?_)
 ·clear HF; have HF := HF1; clear HF1
  have dcc1 := of_decide_eq_true cc1
  refine wc_true HF rfl ?_
  refine wp_skip ?_
  refine ex_then ?_
  refine wp_seq ?_
  refine wp_block ?_
  refine wp_sr ?_
  refine wl_mv HF rfl rfl rfl rfl rfl ?_; clear HF a; intro a HF
  refine wl_as HF rfl rfl rfl rfl rfl ?_; clear HF a; intro a HF
  refine wl_ne ?_
  refine wp_seq ?_
  obtain ⟨g0, o0, r0⟩ := HR.out.opn; have R0 := Bx.mk r0; clear r0
  refine wp_region_lit ?_
  refine wl_mv HF rfl rfl rfl rfl rfl ?_; clear HF a; intro a HF
  refine wl_mv HF rfl rfl rfl rfl rfl ?_; clear HF a; intro a HF
  refine wl_mv HF rfl rfl rfl rfl rfl ?_; clear HF a; intro a HF
  refine wl_y rfl HF rfl rfl (yl_indexAddrR (e := 94) (i := k) (size := 3) rfl (HF.ev rfl) (HF.ev rfl) (by kernel_rfl) rfl (by omega) (R0.out.ao k (by omega))) ?_; clear HF a; intro a HF
  refine wl_y rfl HF rfl rfl (yl_loadR (cs := [.slice ((xs.getD k default).a0) ((xs.getD k default).d.fCells.length) ((xs.getD k default).c0), .slice ((xs.getD k default).a1) ((xs.getD k default).d.fWaits.length) ((xs.getD k default).c1), .bool ((xs.getD k default).d.fGone)]) rfl (HF.ev rfl) (R0.out.elem HS.out (get_getD (xs := xs) (j := k) (d := default) (by omega))) (by kernel_rfl)) ?_; clear HF a; intro a HF
  refine wl_callvB rfl HF rfl (HF.ev rfl) HE (args := #[.agg #[.slice ((xs.getD k default).a0) ((xs.getD k default).d.fCells.length) ((xs.getD k default).c0), .slice ((xs.getD k default).a1) ((xs.getD k default).d.fWaits.length) ((xs.getD k default).c1), .bool ((xs.getD k default).d.fGone)]]) rfl (v := .bool (p k)) (HF0.out k (by omega) _ HS.out.bel) rfl rfl HS.out ?_; clear HF HS a; intro w2 a HS HF; replace HS := Bx.mk HS
  refine wl_ne ?_
  refine HF.cases 16 rfl (fun cc2 HF1 => ?_) (fun cc2 HF1 => ?_)
  ·clear HF; have HF := HF1; clear HF1
   refine wc_true HF rfl ?_
   refine wp_sr ?_
   refine wl_mv HF rfl rfl rfl rfl rfl ?_; clear HF a; intro a HF
   refine wl_as HF rfl rfl rfl rfl rfl ?_; clear HF a; intro a HF
   refine wl_ne ?_
   refine wp_ret ?_
   refine ex_block_ret ?_
   refine ex_then_ret ?_
   refine ex_then_ret ?_
   refine ex_block_ret ?_
   refine ex_then_ret ?_
   refine bp_ret1 HF Tryz.results116 (HF.res rfl) ?_
   rw [idxB_lt (k := k) (by omega), if_pos cc2] at hf
   exact ⟨by rw [hf], HS.out.bel⟩
  ·clear HF; have HF := HF1; clear HF1
   refine wc_false HF rfl ?_
   refine wp_skip ?_
   refine ex_block ?_
   refine ex_then ?_
   refine wp_region_lit ?_
   refine wl_y rfl HF rfl rfl (yl_addI rfl (HF.ev rfl) (HF.ev rfl) (i64w (by omega))) ?_; clear HF a; intro a HF
   refine wl_mv HF rfl rfl rfl rfl rfl ?_; clear HF a; intro a HF
   refine wl_ne ?_
   rw [idxB_lt (k := k) (by omega), if_neg (by rw [cc2]; simp)] at hf
   exact ⟨k + 1, ⟨⟨by omega, hf⟩, HF.less _ ⟨rfl, rfl, rfl, rfl, trivial⟩, HS.out⟩, (by omega)⟩
 ·clear HF; have HF := HF1; clear HF1
  have dcc1 := of_decide_eq_false cc1
  refine wc_false HF rfl ?_
  refine wp_exit ?_
  refine ex_then_exit ?_
  refine ex_then_exit ?_
  refine ex_block_hit ?_
  refine ex_then ?_
  refine wp_sr ?_
  refine wl_as HF rfl rfl rfl rfl rfl ?_; clear HF a; intro a HF
  refine wl_ne ?_
  refine wp_ret ?_
  refine bp_ret1 HF Tryz.results116 (HF.res rfl) ?_
  rw [idxB_end (k := k) (by omega)] at hf
  exact ⟨by rw [hf], HS.out.bel⟩

theorem containsFuncD_any (a0 : Option Addr) (c0 : Nat) (xs : List HD) (f : FuncId) (caps : Array Value) (p : Nat → Bool) (w0 : World) (hl : xs.length ≤ 1048576) (HE : ∀ (args : Array Value) (w : World), (callFunc f args).run Tryz.prog w = .ok (.enter f args) w) (hR : Rd HD.cells 3 w0 a0 xs.length xs) (hf : ∀ k, k < xs.length → ∀ w, Below w0.heap.size w0 w → Calls Tryz.prog f (#[] ++ #[.agg #[.slice ((xs.getD k default).a0) ((xs.getD k default).d.fCells.length) ((xs.getD k default).c0), .slice ((xs.getD k default).a1) ((xs.getD k default).d.fWaits.length) ((xs.getD k default).c1), .bool ((xs.getD k default).d.fGone)]] ++ caps) w fun e w' => e = .returned (.bool (p k)) ∧ Below w.heap.size w w') : Calls Tryz.prog 71 #[.slice a0 xs.length c0, .func (.func f) #[] caps] w0 fun e w' => e = .returned (.bool (!allB (fun k => !p k) xs.length)) ∧ Below w0.heap.size w0 w' := by
 have HR := Bx.mk hR; have HF0 := Bx.mk hf; clear hR hf
 have HS := Bx.mk (St.start w0)
 refine wc_enter Tryz.func71 rfl Tryz.ntmps71 [(0, .slice a0 xs.length c0), (1, .func (.func f) #[] caps)] ⟨rfl, rfl, trivial⟩ rfl ?_; intro a HF
 refine wp_sr ?_
 refine wl_as HF rfl rfl rfl rfl rfl ?_; clear HF a; intro a HF
 refine wl_ne ?_
 refine wp_sr ?_
 refine wl_mv HF rfl rfl rfl rfl rfl ?_; clear HF a; intro a HF
 refine wl_mv HF rfl rfl rfl rfl rfl ?_; clear HF a; intro a HF
 refine wl_callB rfl HF rfl (enter_of Tryz.func116 (by kernel_rfl) rfl) (args := #[.slice a0 xs.length c0, .func (.func f) #[] caps]) rfl (v := .int .i64 (idxB p xs.length 0)) (indexFuncD_any a0 c0 xs f caps p _ hl HE (HR.out.below HS.out.bel) (fun k hk w hb => HF0.out k hk w (HS.out.bel.trans (hb.mono HS.out.bel.size)))) rfl rfl HS.out ?_; clear HF HS a; intro w1 a HS HF; replace HS := Bx.mk HS
 refine wl_y rfl HF rfl rfl (yl_geqI rfl (HF.ev rfl) (HF.ev rfl)) ?_; clear HF a; intro a HF
 refine wl_as HF rfl rfl rfl rfl rfl ?_; clear HF a; intro a HF
 refine wl_ne ?_
 refine wp_ret ?_
 refine bp_ret1 HF Tryz.results71 (HF.res rfl) ?_
 exact ⟨by rw [← idxB_any], HS.out.bel⟩

end Go.Proofs.YtoaopmkbfifhaaaGreatDoor

/- Disks that are valid, by the program; sets of disks. -/
namespace Go.Proofs.YtoaopmkbfifhaaaGreatDoor
set_option linter.unusedVariables false
set_option linter.unusedSimpArgs false
set_option maxHeartbeats 1000000
set_option maxRecDepth 100000
open Go.RowKit

theorem isCell_any (n : Int) (w0 : World) : Calls Tryz.prog 119 #[.int .i64 n] w0 fun e w' => e = .returned (.bool (inB n 0 63)) ∧ Below w0.heap.size w0 w' := by
 have HS := Bx.mk (St.start w0)
 refine wc_enter Tryz.func119 rfl Tryz.ntmps119 [(0, .int .i64 n)] ⟨rfl, trivial⟩ rfl ?_; intro a HF
 refine wp_sr ?_
 refine wl_as HF rfl rfl rfl rfl rfl ?_; clear HF a; intro a HF
 refine wl_ne ?_
 refine wp_sr ?_
 refine wl_mv HF rfl rfl rfl rfl rfl ?_; clear HF a; intro a HF
 refine wl_callB rfl HF rfl (enter_of Tryz.func52 (by kernel_rfl) rfl) (args := #[.int .i64 n, .int .i64 0, .int .i64 63]) rfl (v := .bool (inB n 0 63)) (((within_any n 0 63 _).mono fun _ _ h => ⟨h.1, h.2 ▸ Below.refl _ _⟩)) rfl rfl HS.out ?_; clear HF HS a; intro w1 a HS HF; replace HS := Bx.mk HS
 refine wl_as HF rfl rfl rfl rfl rfl ?_; clear HF a; intro a HF
 refine wl_ne ?_
 refine wp_ret ?_
 refine bp_ret1 HF Tryz.results119 (HF.res rfl) ?_
 exact ⟨rfl, HS.out.bel⟩

def badWaitF (n : Int) (t : ByteArray) : Bool := (bif !(inB n 0 63) then true else (decide ((200 : Int) < (t.size : Int))))

theorem badWaitF_any (n : Int) (t : ByteArray) (w0 : World) (ht : t.size ≤ 9223372036854775807) : Calls Tryz.prog 118 #[.agg #[.int .i64 n, .string t]] w0 fun e w' => e = .returned (.bool (badWaitF n t)) ∧ Below w0.heap.size w0 w' := by
 have HS := Bx.mk (St.start w0)
 refine wc_enter Tryz.func118 rfl Tryz.ntmps118 [(0, .agg #[.int .i64 n, .string t])] ⟨rfl, trivial⟩ rfl ?_; intro a HF
 refine wp_sr ?_
 refine wl_box rfl HF rfl (HF.ev rfl) (Z := [.int .i64 n, .string t]) rfl rfl rfl rfl HS.out ?_; clear HF HS a; intro a w1 b1 HF HS; replace HS := Bx.mk HS
 refine wl_as HF rfl rfl rfl rfl rfl ?_; clear HF a; intro a HF
 refine wl_ne ?_
 refine wp_sr ?_
 refine wl_y rfl HF rfl rfl (yl_fieldAddr (j := 0) rfl (HF.ev rfl) (by kernel_rfl)) ?_; clear HF a; intro a HF
 refine wl_y rfl HF rfl rfl (yl_load (v := .int .i64 n) rfl (HF.ev rfl) (((HS.out.box 0 rfl).cell 0).trans rfl) (by kernel_rfl)) ?_; clear HF a; intro a HF
 refine wl_callB rfl HF rfl (enter_of Tryz.func119 (by kernel_rfl) rfl) (args := #[.int .i64 n]) rfl (v := .bool (inB n 0 63)) (isCell_any n _) rfl rfl HS.out ?_; clear HF HS a; intro w2 a HS HF; replace HS := Bx.mk HS
 refine wl_y rfl HF rfl rfl (yl_not rfl (HF.ev rfl)) ?_; clear HF a; intro a HF
 refine wl_mv HF rfl rfl rfl rfl rfl ?_; clear HF a; intro a HF
 refine HF.cases 7 rfl (fun cc1 HF1 => ?_) (fun cc1 HF1 => ?_)
 ·clear HF; have HF := HF1; clear HF1
  refine wl_skip HF rfl rfl rfl rfl rfl rfl ?_; clear HF a; intro a HF
  refine wl_skip HF rfl rfl rfl rfl rfl rfl ?_; clear HF a; intro a HF
  refine wl_skip HF rfl rfl rfl rfl rfl rfl ?_; clear HF a; intro a HF
  refine wl_skip HF rfl rfl rfl rfl rfl rfl ?_; clear HF a; intro a HF
  refine wl_y rfl HF rfl rfl (yl_pick_t rfl (HF.ev rfl) (HF.ev rfl)) ?_; clear HF a; intro a HF
  refine wl_as HF rfl rfl rfl rfl rfl ?_; clear HF a; intro a HF
  refine wl_ne ?_
  refine wp_ret ?_
  refine bp_ret1 HF Tryz.results118 (HF.res rfl) ?_
  exact ⟨by simp only [badWaitF, cc1, cond_true, cond_false], HS.out.bel⟩
 ·clear HF; have HF := HF1; clear HF1
  refine wl_yg HF rfl rfl rfl rfl rfl (yl_fieldAddr (j := 1) rfl (HF.ev rfl) (by kernel_rfl)) ?_; clear HF a; intro a HF
  refine wl_yg HF rfl rfl rfl rfl rfl (yl_load (v := .string t) rfl (HF.ev rfl) (((HS.out.box 0 rfl).cell 1).trans rfl) (by kernel_rfl)) ?_; clear HF a; intro a HF
  refine wl_yg HF rfl rfl rfl rfl rfl (yl_lenS rfl (HF.ev rfl) (by kernel_rfl)) ?_; clear HF a; intro a HF
  refine wl_yg HF rfl rfl rfl rfl rfl (yl_gtrI rfl (HF.ev rfl) (HF.ev rfl)) ?_; clear HF a; intro a HF
  refine wl_y rfl HF rfl rfl (yl_pick_f rfl (HF.ev rfl) (HF.ev rfl)) ?_; clear HF a; intro a HF
  refine wl_as HF rfl rfl rfl rfl rfl ?_; clear HF a; intro a HF
  refine wl_ne ?_
  refine wp_ret ?_
  refine bp_ret1 HF Tryz.results118 (HF.res rfl) ?_
  exact ⟨by simp only [badWaitF, cc1, cond_true, cond_false], HS.out.bel⟩

theorem badWaitF_eq (d : DiskD) (k : Nat) : badWaitF (d.fWaits.getD k default).fAt (d.fWaits.getD k default).fText = !waitB d k := by
  have e : decide ((200 : Int) < ((d.fWaits.getD k default).fText.size : Int)) = !decide ((d.fWaits.getD k default).fText.size ≤ 200) := by
    by_cases h : (d.fWaits.getD k default).fText.size ≤ 200
    · rw [decide_eq_false (by omega), decide_eq_true h]; rfl
    · rw [decide_eq_true (by omega), decide_eq_false h]; rfl
  unfold badWaitF waitB
  rw [e]
  cases inB (d.fWaits.getD k default).fAt 0 63 <;> cases decide ((d.fWaits.getD k default).fText.size ≤ 200) <;> rfl

theorem implDiskOk_any (a0 : Option Addr) (c0 : Nat) (a1 : Option Addr) (c1 : Nat) (d : DiskD) (w0 : World) (hc : d.fCells.length ≤ 1048576) (hw : d.fWaits.length ≤ 1048576) (hcz : ∀ k, (d.fCells.getD k ByteArray.empty).size ≤ 9223372036854775807) (hx : ∀ k, (d.fWaits.getD k default).fText.size ≤ 9223372036854775807) (hC : Rd encS 1 w0 a0 d.fCells.length d.fCells) (hW : Rd WaitD.cells 2 w0 a1 d.fWaits.length d.fWaits) : Calls Tryz.prog 73 #[.agg #[.slice a0 d.fCells.length c0, .slice a1 d.fWaits.length c1, .bool d.fGone]] w0 fun e w' => e = .returned (.bool d.ok) ∧ Below w0.heap.size w0 w' := by
 have HC := Bx.mk hC; clear hC
 have HW := Bx.mk hW; clear hW
 have HS := Bx.mk (St.start w0)
 refine wc_enter Tryz.func73 rfl Tryz.ntmps73 [(0, .agg #[.slice a0 d.fCells.length c0, .slice a1 d.fWaits.length c1, .bool d.fGone])] ⟨rfl, trivial⟩ rfl ?_; intro a HF
 refine wp_sr ?_
 refine wl_box rfl HF rfl (HF.ev rfl) (Z := [.slice a0 d.fCells.length c0, .slice a1 d.fWaits.length c1, .bool d.fGone]) rfl rfl rfl rfl HS.out ?_; clear HF HS a; intro a w1 b1 HF HS; replace HS := Bx.mk HS
 refine wl_as HF rfl rfl rfl rfl rfl ?_; clear HF a; intro a HF
 refine wl_ne ?_
 refine wp_seq ?_
 refine wp_sr ?_
 refine wl_y rfl HF rfl rfl (yl_fieldAddr (j := 0) rfl (HF.ev rfl) (by kernel_rfl)) ?_; clear HF a; intro a HF
 refine wl_y rfl HF rfl rfl (yl_load (v := .slice a0 d.fCells.length c0) rfl (HF.ev rfl) (((HS.out.box 0 rfl).cell 0).trans rfl) (by kernel_rfl)) ?_; clear HF a; intro a HF
 refine wl_y rfl HF rfl rfl (yl_lenL (e := 9) (size := 1) rfl (HF.ev rfl) (by kernel_rfl)) ?_; clear HF a; intro a HF
 refine wl_y rfl HF rfl rfl (yl_neqI rfl (HF.ev rfl) (HF.ev rfl)) ?_; clear HF a; intro a HF
 refine wl_mv HF rfl rfl rfl rfl rfl ?_; clear HF a; intro a HF
 refine HF.cases 9 rfl (fun cc1 HF1 => ?_) (fun cc1 HF1 => ?_)
 ·clear HF; have HF := HF1; clear HF1
  have q1 : decide (d.fCells.length = 64) = false := decide_eq_false (by have := bne_iff_ne.1 cc1; omega)
  refine wl_skip HF rfl rfl rfl rfl rfl rfl ?_; clear HF a; intro a HF
  refine wl_skip HF rfl rfl rfl rfl rfl rfl ?_; clear HF a; intro a HF
  refine wl_skip HF rfl rfl rfl rfl rfl rfl ?_; clear HF a; intro a HF
  refine wl_skip HF rfl rfl rfl rfl rfl rfl ?_; clear HF a; intro a HF
  refine wl_y rfl HF rfl rfl (yl_pick_t rfl (HF.ev rfl) (HF.ev rfl)) ?_; clear HF a; intro a HF
  refine wl_ne ?_
  refine wc_true HF rfl ?_
  refine wp_sr ?_
  refine wl_as HF rfl rfl rfl rfl rfl ?_; clear HF a; intro a HF
  refine wl_ne ?_
  refine wp_ret ?_
  refine ex_then_ret ?_
  refine bp_ret1 HF Tryz.results73 (HF.res rfl) ?_
  have hok : d.ok = false := by unfold DiskD.ok; rw [q1]; simp
  exact ⟨by rw [hok], HS.out.bel⟩
 ·clear HF; have HF := HF1; clear HF1
  have q1 : decide (d.fCells.length = 64) = true := decide_eq_true (by have := bne_eq_false_iff_eq.1 cc1; omega)
  refine wl_yg HF rfl rfl rfl rfl rfl (yl_fieldAddr (j := 1) rfl (HF.ev rfl) (by kernel_rfl)) ?_; clear HF a; intro a HF
  refine wl_yg HF rfl rfl rfl rfl rfl (yl_load (v := .slice a1 d.fWaits.length c1) rfl (HF.ev rfl) (((HS.out.box 0 rfl).cell 1).trans rfl) (by kernel_rfl)) ?_; clear HF a; intro a HF
  refine wl_yg HF rfl rfl rfl rfl rfl (yl_lenL (e := 137) (size := 2) rfl (HF.ev rfl) (by kernel_rfl)) ?_; clear HF a; intro a HF
  refine wl_yg HF rfl rfl rfl rfl rfl (yl_gtrI rfl (HF.ev rfl) (HF.ev rfl)) ?_; clear HF a; intro a HF
  refine wl_y rfl HF rfl rfl (yl_pick_f rfl (HF.ev rfl) (HF.ev rfl)) ?_; clear HF a; intro a HF
  refine wl_ne ?_
  refine HF.cases 14 rfl (fun cc2 HF1 => ?_) (fun cc2 HF1 => ?_)
  ·clear HF; have HF := HF1; clear HF1
   have q2 : decide (d.fWaits.length ≤ 120) = false := decide_eq_false (by have := of_decide_eq_true cc2; omega)
   refine wc_true HF rfl ?_
   refine wp_sr ?_
   refine wl_as HF rfl rfl rfl rfl rfl ?_; clear HF a; intro a HF
   refine wl_ne ?_
   refine wp_ret ?_
   refine ex_then_ret ?_
   refine bp_ret1 HF Tryz.results73 (HF.res rfl) ?_
   have hok : d.ok = false := by unfold DiskD.ok; rw [q1, q2]; simp
   exact ⟨by rw [hok], HS.out.bel⟩
  ·clear HF; have HF := HF1; clear HF1
   have q2 : decide (d.fWaits.length ≤ 120) = true := decide_eq_true (by have := of_decide_eq_false cc2; omega)
   refine wc_false HF rfl ?_
   refine wp_skip ?_
   refine ex_then ?_
   refine wp_seq ?_
   refine wp_sr ?_
   refine wl_y rfl HF rfl rfl (yl_fieldAddr (j := 0) rfl (HF.ev rfl) (by kernel_rfl)) ?_; clear HF a; intro a HF
   refine wl_y rfl HF rfl rfl (yl_load (v := .slice a0 d.fCells.length c0) rfl (HF.ev rfl) (((HS.out.box 0 rfl).cell 0).trans rfl) (by kernel_rfl)) ?_; clear HF a; intro a HF
   refine wl_y rfl HF rfl rfl (yl_lenL (e := 9) (size := 1) rfl (HF.ev rfl) (by kernel_rfl)) ?_; clear HF a; intro a HF
   refine wl_mv HF rfl rfl rfl rfl rfl ?_; clear HF a; intro a HF
   refine wl_ne ?_
   refine wp_block ?_
   refine wc_loop (ι := Nat) (fun k a w => (k ≤ d.fCells.length ∧ allB (cellB d) k = true) ∧ Fr 49 a [(1, .pointer (some ⟨b1, 0, none⟩)), (16, .slice a0 d.fCells.length c0), (17, .int .i64 (d.fCells.length : Int)), (18, .int .i64 (k : Int))] ∧ St w0 ([boxA b1 3 94 (.agg #[.slice a0 d.fCells.length c0, .slice a1 d.fWaits.length c1, .bool d.fGone])]) w) (fun k => d.fCells.length - k) 0 ⟨⟨Nat.zero_le _, rfl⟩, HF.less _ ⟨rfl, rfl, rfl, rfl, trivial⟩, HS.out⟩ ?_
   clear HF HS; clear a
   rintro k a w2 ⟨⟨hk, hf⟩, HF, HS⟩
   replace HS := Bx.mk HS
   refine wp_sr ?_
   refine wl_y rfl HF rfl rfl (yl_lssI rfl (HF.ev rfl) (HF.ev rfl)) ?_; clear HF a; intro a HF
   refine wl_ne ?_
   refine wp_seq ?_
   refine HF.cases 19 rfl (fun cc3 HF1 => ?_) (fun cc3 HF1 => ?_)
   ·clear HF; have HF := HF1; clear HF1
    have cc3 := of_decide_eq_true cc3
    refine wc_true HF rfl ?_
    refine wp_skip ?_
    refine ex_then ?_
    refine wp_seq ?_
    refine wp_block ?_
    refine wp_seq ?_
    obtain ⟨g0, o0, r0⟩ := HC.out.opn; have RC := Bx.mk r0; clear r0
    refine wp_region_lit ?_
    refine wl_y rfl HF rfl rfl (yl_indexAddrR (e := 9) (i := k) (size := 1) rfl (HF.ev rfl) (HF.ev rfl) (by kernel_rfl) rfl (by omega) (RC.out.ao k (by omega))) ?_; clear HF a; intro a HF
    refine wl_y rfl HF rfl rfl (yl_load (v := .string (d.fCells.getD k ByteArray.empty)) rfl (HF.ev rfl) (RC.out.elem1 HS.out (get_getD (xs := d.fCells) (j := k) (d := ByteArray.empty) (by omega)) rfl) (by kernel_rfl)) ?_; clear HF a; intro a HF
    refine wl_as HF rfl rfl rfl rfl rfl ?_; clear HF a; intro a HF
    refine wl_ne ?_
    refine wp_sr ?_
    refine wl_mv HF rfl rfl rfl rfl rfl ?_; clear HF a; intro a HF
    refine wl_y rfl HF rfl rfl (yl_lenS rfl (HF.ev rfl) (by kernel_rfl)) ?_; clear HF a; intro a HF
    refine wl_y rfl HF rfl rfl (yl_gtrI rfl (HF.ev rfl) (HF.ev rfl)) ?_; clear HF a; intro a HF
    refine wl_mv HF rfl rfl rfl rfl rfl ?_; clear HF a; intro a HF
    refine HF.cases 25 rfl (fun cc4 HF1 => ?_) (fun cc4 HF1 => ?_)
    ·clear HF; have HF := HF1; clear HF1
     have p1 : decide ((d.fCells.getD k ByteArray.empty).size ≤ 200) = false := decide_eq_false (by have := of_decide_eq_true cc4; omega)
     refine wl_skip HF rfl rfl rfl rfl rfl rfl ?_; clear HF a; intro a HF
     refine wl_skip HF rfl rfl rfl rfl rfl rfl ?_; clear HF a; intro a HF
     refine wl_skip HF rfl rfl rfl rfl rfl rfl ?_; clear HF a; intro a HF
     refine wl_skipU HF rfl rfl rfl rfl rfl ?_; clear HF a; intro a HF
     refine wl_skipU HF rfl rfl rfl rfl rfl ?_; clear HF a; intro a HF
     refine wl_skip HF rfl rfl rfl rfl rfl rfl ?_; clear HF a; intro a HF
     refine wl_y rfl HF rfl rfl (yl_pick_t rfl (HF.ev rfl) (HF.ev rfl)) ?_; clear HF a; intro a HF
     refine wl_ne ?_
     refine wc_true HF rfl ?_
     refine wp_sr ?_
     refine wl_as HF rfl rfl rfl rfl rfl ?_; clear HF a; intro a HF
     refine wl_ne ?_
     refine wp_ret ?_
     refine ex_block_ret ?_
     refine ex_then_ret ?_
     refine ex_then_ret ?_
     refine ex_block_ret ?_
     refine ex_then_ret ?_
     refine bp_ret1 HF Tryz.results73 (HF.res rfl) ?_
     have hpf : cellB d k = false := by unfold cellB; simp only [p1]; rfl
     have hall := allB_false hpf (show k < d.fCells.length by omega)
     have hok : d.ok = false := by unfold DiskD.ok; rw [q1, q2, hall]; simp
     exact ⟨by rw [hok], HS.out.bel⟩
    ·clear HF; have HF := HF1; clear HF1
     have p1 : decide ((d.fCells.getD k ByteArray.empty).size ≤ 200) = true := decide_eq_true (by have := of_decide_eq_false cc4; omega)
     refine wl_yg HF rfl rfl rfl rfl rfl (yl_fieldAddr (j := 2) rfl (HF.ev rfl) (by kernel_rfl)) ?_; clear HF a; intro a HF
     refine wl_yg HF rfl rfl rfl rfl rfl (yl_load (v := .bool d.fGone) rfl (HF.ev rfl) (((HS.out.box 0 rfl).cell 2).trans rfl) (by kernel_rfl)) ?_; clear HF a; intro a HF
     refine wl_yg HF rfl rfl rfl rfl rfl (yl_move rfl (HF.ev rfl)) ?_; clear HF a; intro a HF
     refine HF.cases 28 rfl (fun cc5 HF1 => ?_) (fun cc5 HF1 => ?_)
     ·clear HF; have HF := HF1; clear HF1
      have q3 : d.fGone = true := cc5
      refine wl_yg HF rfl rfl rfl rfl rfl (yl_move rfl (HF.ev rfl)) ?_; clear HF a; intro a HF
      refine wl_yg HF rfl rfl rfl rfl rfl (yl_neqS rfl (HF.ev rfl) (HF.ev rfl)) ?_; clear HF a; intro a HF
      refine wl_yg HF rfl rfl rfl rfl rfl (yl_pick_t rfl (HF.ev rfl) (HF.ev rfl)) ?_; clear HF a; intro a HF
      refine wl_y rfl HF rfl rfl (yl_pick_f rfl (HF.ev rfl) (HF.ev rfl)) ?_; clear HF a; intro a HF
      refine wl_ne ?_
      refine HF.cases 32 rfl (fun cc6 HF1 => ?_) (fun cc6 HF1 => ?_)
      ·clear HF; have HF := HF1; clear HF1
       have p3 : ((d.fCells.getD k ByteArray.empty).toList == (⟨#[]⟩ : ByteArray).toList) = false := by simpa using cc6
       refine wc_true HF rfl ?_
       refine wp_sr ?_
       refine wl_as HF rfl rfl rfl rfl rfl ?_; clear HF a; intro a HF
       refine wl_ne ?_
       refine wp_ret ?_
       refine ex_block_ret ?_
       refine ex_then_ret ?_
       refine ex_then_ret ?_
       refine ex_block_ret ?_
       refine ex_then_ret ?_
       refine bp_ret1 HF Tryz.results73 (HF.res rfl) ?_
       have hpf : cellB d k = false := by unfold cellB; simp only [p1, p3, q3]; rfl
       have hall := allB_false hpf (show k < d.fCells.length by omega)
       have hok : d.ok = false := by unfold DiskD.ok; rw [q1, q2, hall]; simp
       exact ⟨by rw [hok], HS.out.bel⟩
      ·clear HF; have HF := HF1; clear HF1
       have p3 : ((d.fCells.getD k ByteArray.empty).toList == (⟨#[]⟩ : ByteArray).toList) = true := by simpa using cc6
       refine wc_false HF rfl ?_
       refine wp_skip ?_
       refine ex_block ?_
       refine ex_then ?_
       refine wp_region_lit ?_
       refine wl_y rfl HF rfl rfl (yl_addI rfl (HF.ev rfl) (HF.ev rfl) (i64w (by omega))) ?_; clear HF a; intro a HF
       refine wl_mv HF rfl rfl rfl rfl rfl ?_; clear HF a; intro a HF
       refine wl_ne ?_
       have hp : cellB d k = true := by unfold cellB; simp only [p1, p3, q3]; rfl
       exact ⟨k + 1, ⟨⟨by omega, by unfold allB; rw [hf, hp]; rfl⟩, HF.less _ ⟨rfl, rfl, rfl, rfl, trivial⟩, HS.out⟩, (by omega)⟩
     ·clear HF; have HF := HF1; clear HF1
      have q3 : d.fGone = false := cc5
      refine wl_skip HF rfl rfl rfl rfl rfl rfl ?_; clear HF a; intro a HF
      refine wl_skip HF rfl rfl rfl rfl rfl rfl ?_; clear HF a; intro a HF
      refine wl_yg HF rfl rfl rfl rfl rfl (yl_pick_f rfl (HF.ev rfl) (HF.ev rfl)) ?_; clear HF a; intro a HF
      refine wl_y rfl HF rfl rfl (yl_pick_f rfl (HF.ev rfl) (HF.ev rfl)) ?_; clear HF a; intro a HF
      refine wl_ne ?_
      refine wc_false HF rfl ?_
      refine wp_skip ?_
      refine ex_block ?_
      refine ex_then ?_
      refine wp_region_lit ?_
      refine wl_y rfl HF rfl rfl (yl_addI rfl (HF.ev rfl) (HF.ev rfl) (i64w (by omega))) ?_; clear HF a; intro a HF
      refine wl_mv HF rfl rfl rfl rfl rfl ?_; clear HF a; intro a HF
      refine wl_ne ?_
      have hp : cellB d k = true := by unfold cellB; simp only [p1, q3]; rfl
      exact ⟨k + 1, ⟨⟨by omega, by unfold allB; rw [hf, hp]; rfl⟩, HF.less _ ⟨rfl, rfl, rfl, rfl, trivial⟩, HS.out⟩, (by omega)⟩
   ·clear HF; have HF := HF1; clear HF1
    have cc3 := of_decide_eq_false cc3
    refine wc_false HF rfl ?_
    refine wp_exit ?_
    refine ex_then_exit ?_
    refine ex_then_exit ?_
    refine ex_block_hit ?_
    refine ex_then ?_
    refine wp_seq ?_
    have hkl : k = d.fCells.length := by omega
    rw [hkl] at hf; have hcells := hf; clear hf hkl
    refine wp_region_lit ?_
    refine wl_y rfl HF rfl rfl (yl_fieldAddr (j := 2) rfl (HF.ev rfl) (by kernel_rfl)) ?_; clear HF a; intro a HF
    refine wl_y rfl HF rfl rfl (yl_load (v := .bool d.fGone) rfl (HF.ev rfl) (((HS.out.box 0 rfl).cell 2).trans rfl) (by kernel_rfl)) ?_; clear HF a; intro a HF
    refine wl_mv HF rfl rfl rfl rfl rfl ?_; clear HF a; intro a HF
    refine HF.cases 36 rfl (fun cc7 HF1 => ?_) (fun cc7 HF1 => ?_)
    ·clear HF; have HF := HF1; clear HF1
     have q3 : d.fGone = true := cc7
     refine wl_yg HF rfl rfl rfl rfl rfl (yl_fieldAddr (j := 1) rfl (HF.ev rfl) (by kernel_rfl)) ?_; clear HF a; intro a HF
     refine wl_yg HF rfl rfl rfl rfl rfl (yl_load (v := .slice a1 d.fWaits.length c1) rfl (HF.ev rfl) (((HS.out.box 0 rfl).cell 1).trans rfl) (by kernel_rfl)) ?_; clear HF a; intro a HF
     refine wl_yg HF rfl rfl rfl rfl rfl (yl_lenL (e := 137) (size := 2) rfl (HF.ev rfl) (by kernel_rfl)) ?_; clear HF a; intro a HF
     refine wl_yg HF rfl rfl rfl rfl rfl (yl_gtrI rfl (HF.ev rfl) (HF.ev rfl)) ?_; clear HF a; intro a HF
     refine wl_y rfl HF rfl rfl (yl_pick_t rfl (HF.ev rfl) (HF.ev rfl)) ?_; clear HF a; intro a HF
     refine wl_y rfl HF rfl rfl (yl_not rfl (HF.ev rfl)) ?_; clear HF a; intro a HF
     refine wl_mv HF rfl rfl rfl rfl rfl ?_; clear HF a; intro a HF
     refine HF.cases 43 rfl (fun cc8 HF1 => ?_) (fun cc8 HF1 => ?_)
     ·clear HF; have HF := HF1; clear HF1
      have q4 : decide (0 < d.fWaits.length) = false := decide_eq_false (by have hx : decide ((0 : Int) < (d.fWaits.length : Int)) = false := (by simpa using cc8); have := of_decide_eq_false hx; omega)
      refine wl_yg HF rfl rfl rfl rfl rfl (yl_fieldAddr (j := 1) rfl (HF.ev rfl) (by kernel_rfl)) ?_; clear HF a; intro a HF
      refine wl_yg HF rfl rfl rfl rfl rfl (yl_load (v := .slice a1 d.fWaits.length c1) rfl (HF.ev rfl) (((HS.out.box 0 rfl).cell 1).trans rfl) (by kernel_rfl)) ?_; clear HF a; intro a HF
      refine wl_callBg HF rfl rfl rfl rfl (enter_of Tryz.func117 (by kernel_rfl) rfl) (args := #[.slice a1 d.fWaits.length c1, .func (.func 118) #[] #[]]) rfl (v := .bool (!allB (fun k => !!waitB d k) d.fWaits.length)) (containsFuncW_any a1 c1 d.fWaits 118 #[] (fun k => !waitB d k) _ (by omega) (enter_of Tryz.func118 (by kernel_rfl) rfl) (HW.out.below HS.out.bel) (fun k hk w hb => by have := badWaitF_any (d.fWaits.getD k default).fAt (d.fWaits.getD k default).fText w (hx k); rw [badWaitF_eq] at this; exact this)) rfl rfl HS.out ?_; clear HF HS a; intro w3 a HS HF; replace HS := Bx.mk HS
      refine wl_yg HF rfl rfl rfl rfl rfl (yl_not rfl (HF.ev rfl)) ?_; clear HF a; intro a HF
      refine wl_y rfl HF rfl rfl (yl_pick_t rfl (HF.ev rfl) (HF.ev rfl)) ?_; clear HF a; intro a HF
      refine wl_as HF rfl rfl rfl rfl rfl ?_; clear HF a; intro a HF
      refine wl_ne ?_
      refine wp_ret ?_
      refine bp_ret1 HF Tryz.results73 (HF.res rfl) ?_
      have hpp : (fun k => !!waitB d k) = waitB d := by funext k; simp
      have hok : d.ok = !(!allB (fun k => !!waitB d k) d.fWaits.length) := by unfold DiskD.ok; rw [q1, q2, q3, q4, hcells]; simp [hpp]
      exact ⟨by rw [hok], HS.out.bel⟩
     ·clear HF; have HF := HF1; clear HF1
      have q4 : decide (0 < d.fWaits.length) = true := decide_eq_true (by have hx : decide ((0 : Int) < (d.fWaits.length : Int)) = true := (by simpa using cc8); have := of_decide_eq_true hx; omega)
      refine wl_skip HF rfl rfl rfl rfl rfl rfl ?_; clear HF a; intro a HF
      refine wl_skip HF rfl rfl rfl rfl rfl rfl ?_; clear HF a; intro a HF
      refine wl_skip HF rfl rfl rfl rfl rfl rfl ?_; clear HF a; intro a HF
      refine wl_skip HF rfl rfl rfl rfl rfl rfl ?_; clear HF a; intro a HF
      refine wl_y rfl HF rfl rfl (yl_pick_f rfl (HF.ev rfl) (HF.ev rfl)) ?_; clear HF a; intro a HF
      refine wl_as HF rfl rfl rfl rfl rfl ?_; clear HF a; intro a HF
      refine wl_ne ?_
      refine wp_ret ?_
      refine bp_ret1 HF Tryz.results73 (HF.res rfl) ?_
      have hpp : (fun k => !!waitB d k) = waitB d := by funext k; simp
      have hok : d.ok = false := by unfold DiskD.ok; rw [q1, q2, q3, q4, hcells]; simp [hpp]
      exact ⟨by rw [hok], HS.out.bel⟩
    ·clear HF; have HF := HF1; clear HF1
     have q3 : d.fGone = false := cc7
     refine wl_skip HF rfl rfl rfl rfl rfl rfl ?_; clear HF a; intro a HF
     refine wl_skip HF rfl rfl rfl rfl rfl rfl ?_; clear HF a; intro a HF
     refine wl_skip HF rfl rfl rfl rfl rfl rfl ?_; clear HF a; intro a HF
     refine wl_skip HF rfl rfl rfl rfl rfl rfl ?_; clear HF a; intro a HF
     refine wl_y rfl HF rfl rfl (yl_pick_f rfl (HF.ev rfl) (HF.ev rfl)) ?_; clear HF a; intro a HF
     refine wl_y rfl HF rfl rfl (yl_not rfl (HF.ev rfl)) ?_; clear HF a; intro a HF
     refine wl_mv HF rfl rfl rfl rfl rfl ?_; clear HF a; intro a HF
     refine wl_yg HF rfl rfl rfl rfl rfl (yl_fieldAddr (j := 1) rfl (HF.ev rfl) (by kernel_rfl)) ?_; clear HF a; intro a HF
     refine wl_yg HF rfl rfl rfl rfl rfl (yl_load (v := .slice a1 d.fWaits.length c1) rfl (HF.ev rfl) (((HS.out.box 0 rfl).cell 1).trans rfl) (by kernel_rfl)) ?_; clear HF a; intro a HF
     refine wl_callBg HF rfl rfl rfl rfl (enter_of Tryz.func117 (by kernel_rfl) rfl) (args := #[.slice a1 d.fWaits.length c1, .func (.func 118) #[] #[]]) rfl (v := .bool (!allB (fun k => !!waitB d k) d.fWaits.length)) (containsFuncW_any a1 c1 d.fWaits 118 #[] (fun k => !waitB d k) _ (by omega) (enter_of Tryz.func118 (by kernel_rfl) rfl) (HW.out.below HS.out.bel) (fun k hk w hb => by have := badWaitF_any (d.fWaits.getD k default).fAt (d.fWaits.getD k default).fText w (hx k); rw [badWaitF_eq] at this; exact this)) rfl rfl HS.out ?_; clear HF HS a; intro w4 a HS HF; replace HS := Bx.mk HS
     refine wl_yg HF rfl rfl rfl rfl rfl (yl_not rfl (HF.ev rfl)) ?_; clear HF a; intro a HF
     refine wl_y rfl HF rfl rfl (yl_pick_t rfl (HF.ev rfl) (HF.ev rfl)) ?_; clear HF a; intro a HF
     refine wl_as HF rfl rfl rfl rfl rfl ?_; clear HF a; intro a HF
     refine wl_ne ?_
     refine wp_ret ?_
     refine bp_ret1 HF Tryz.results73 (HF.res rfl) ?_
     have hpp : (fun k => !!waitB d k) = waitB d := by funext k; simp
     have hok : d.ok = !(!allB (fun k => !!waitB d k) d.fWaits.length) := by unfold DiskD.ok; rw [q1, q2, q3, hcells]; simp [hpp]
     exact ⟨by rw [hok], HS.out.bel⟩

structure DiskD.fits (d : DiskD) : Prop where
  c : d.fCells.length ≤ 1048576
  w : d.fWaits.length ≤ 1048576
  cz : ∀ k, (d.fCells.getD k ByteArray.empty).size ≤ 9223372036854775807
  wz : ∀ k, (d.fWaits.getD k default).fText.size ≤ 9223372036854775807
def okR (ds : List DiskD) : Bool := decide (ds.length = 3) && allB (fun k => (ds.getD k default).ok) ds.length
def dsOf (ps : List HD) : List DiskD := ps.map HD.d
theorem dsOf_len (ps : List HD) : (dsOf ps).length = ps.length := List.length_map ..
theorem dsOf_get (ps : List HD) (k : Nat) : (dsOf ps).getD k default = (ps.getD k default).d := by
  unfold dsOf
  simp only [List.getD_eq_getElem?_getD, List.getElem?_map]
  cases ps[k]? <;> rfl
theorem okR_ps (ps : List HD) : okR (dsOf ps) = (decide (ps.length = 3) && allB (fun k => (ps.getD k default).d.ok) ps.length) := by
  unfold okR
  rw [dsOf_len]
  simp only [dsOf_get]

theorem raidOk1_any (p : HD) (w0 : World) (hf : p.d.fits) (hp : p.reads w0) : Calls Tryz.prog 72 #[.agg #[.slice p.a0 p.d.fCells.length p.c0, .slice p.a1 p.d.fWaits.length p.c1, .bool p.d.fGone]] w0 fun e w' => e = .returned (.bool (!p.d.ok)) ∧ Below w0.heap.size w0 w' := by
 have HP := Bx.mk hp; clear hp
 have HS := Bx.mk (St.start w0)
 refine wc_enter Tryz.func72 rfl Tryz.ntmps72 [(0, .agg #[.slice p.a0 p.d.fCells.length p.c0, .slice p.a1 p.d.fWaits.length p.c1, .bool p.d.fGone])] ⟨rfl, trivial⟩ rfl ?_; intro a HF
 refine wp_sr ?_
 refine wl_box rfl HF rfl (HF.ev rfl) (Z := [.slice p.a0 p.d.fCells.length p.c0, .slice p.a1 p.d.fWaits.length p.c1, .bool p.d.fGone]) rfl rfl rfl rfl HS.out ?_; clear HF HS a; intro a w1 b1 HF HS; replace HS := Bx.mk HS
 refine wl_as HF rfl rfl rfl rfl rfl ?_; clear HF a; intro a HF
 refine wl_ne ?_
 refine wp_sr ?_
 refine wl_y rfl HF rfl rfl (yl_loadR (cs := [.slice p.a0 p.d.fCells.length p.c0, .slice p.a1 p.d.fWaits.length p.c1, .bool p.d.fGone]) rfl (HF.ev rfl) ((HS.out.box 0 rfl).sub 0 3) (by kernel_rfl)) ?_; clear HF a; intro a HF
 refine wl_callB rfl HF rfl (enter_of Tryz.func73 (by kernel_rfl) rfl) (args := #[.agg #[.slice p.a0 p.d.fCells.length p.c0, .slice p.a1 p.d.fWaits.length p.c1, .bool p.d.fGone]]) rfl (v := .bool p.d.ok) (implDiskOk_any p.a0 p.c0 p.a1 p.c1 p.d _ hf.c hf.w hf.cz hf.wz (HP.out.below HS.out.bel).rc (HP.out.below HS.out.bel).rw) rfl rfl HS.out ?_; clear HF HS a; intro w2 a HS HF; replace HS := Bx.mk HS
 refine wl_y rfl HF rfl rfl (yl_not rfl (HF.ev rfl)) ?_; clear HF a; intro a HF
 refine wl_as HF rfl rfl rfl rfl rfl ?_; clear HF a; intro a HF
 refine wl_ne ?_
 refine wp_ret ?_
 refine bp_ret1 HF Tryz.results72 (HF.res rfl) ?_
 exact ⟨rfl, HS.out.bel⟩

theorem implRaidOk_any (a0 : Option Addr) (c0 : Nat) (ps : List HD) (w0 : World) (hl : ps.length ≤ 1048576) (hf : ∀ k, (ps.getD k default).d.fits) (hR : Rd HD.cells 3 w0 a0 ps.length ps) (hP : ∀ k, k < ps.length → (ps.getD k default).reads w0) : Calls Tryz.prog 35 #[.agg #[.slice a0 ps.length c0]] w0 fun e w' => e = .returned (.bool (okR (dsOf ps))) ∧ Below w0.heap.size w0 w' := by
 have HR := Bx.mk hR; have HP := Bx.mk hP; clear hR hP
 have HS := Bx.mk (St.start w0)
 refine wc_enter Tryz.func35 rfl Tryz.ntmps35 [(0, .agg #[.slice a0 ps.length c0])] ⟨rfl, trivial⟩ rfl ?_; intro a HF
 refine wp_sr ?_
 refine wl_box rfl HF rfl (HF.ev rfl) (Z := [.slice a0 ps.length c0]) rfl rfl rfl rfl HS.out ?_; clear HF HS a; intro a w1 b1 HF HS; replace HS := Bx.mk HS
 refine wl_as HF rfl rfl rfl rfl rfl ?_; clear HF a; intro a HF
 refine wl_ne ?_
 refine wp_sr ?_
 refine wl_y rfl HF rfl rfl (yl_fieldAddr (j := 0) rfl (HF.ev rfl) (by kernel_rfl)) ?_; clear HF a; intro a HF
 refine wl_y rfl HF rfl rfl (yl_load (v := .slice a0 ps.length c0) rfl (HF.ev rfl) (((HS.out.box 0 rfl).cell 0).trans rfl) (by kernel_rfl)) ?_; clear HF a; intro a HF
 refine wl_y rfl HF rfl rfl (yl_lenL (e := 94) (size := 3) rfl (HF.ev rfl) (by kernel_rfl)) ?_; clear HF a; intro a HF
 refine wl_y rfl HF rfl rfl (yl_eqlI rfl (HF.ev rfl) (HF.ev rfl)) ?_; clear HF a; intro a HF
 refine wl_mv HF rfl rfl rfl rfl rfl ?_; clear HF a; intro a HF
 refine HF.cases 7 rfl (fun cc1 HF1 => ?_) (fun cc1 HF1 => ?_)
 ·clear HF; have HF := HF1; clear HF1
  have dcc1 := eq_of_beq cc1
  refine wl_yg HF rfl rfl rfl rfl rfl (yl_fieldAddr (j := 0) rfl (HF.ev rfl) (by kernel_rfl)) ?_; clear HF a; intro a HF
  refine wl_yg HF rfl rfl rfl rfl rfl (yl_load (v := .slice a0 ps.length c0) rfl (HF.ev rfl) (((HS.out.box 0 rfl).cell 0).trans rfl) (by kernel_rfl)) ?_; clear HF a; intro a HF
  refine wl_callBg HF rfl rfl rfl rfl (enter_of Tryz.func71 (by kernel_rfl) rfl) (args := #[.slice a0 ps.length c0, .func (.func 72) #[] #[]]) rfl (v := .bool (!allB (fun k => !!(ps.getD k default).d.ok) ps.length)) (containsFuncD_any a0 c0 ps 72 #[] (fun k => !(ps.getD k default).d.ok) _ (by omega) (enter_of Tryz.func72 (by kernel_rfl) rfl) (HR.out.below HS.out.bel) (fun k hk w hb => raidOk1_any (ps.getD k default) w (hf k) (((HP.out k hk).below HS.out.bel).below hb))) rfl rfl HS.out ?_; clear HF HS a; intro w2 a HS HF; replace HS := Bx.mk HS
  refine wl_yg HF rfl rfl rfl rfl rfl (yl_not rfl (HF.ev rfl)) ?_; clear HF a; intro a HF
  refine wl_y rfl HF rfl rfl (yl_pick_t rfl (HF.ev rfl) (HF.ev rfl)) ?_; clear HF a; intro a HF
  refine wl_as HF rfl rfl rfl rfl rfl ?_; clear HF a; intro a HF
  refine wl_ne ?_
  refine wp_ret ?_
  refine bp_ret1 HF Tryz.results35 (HF.res rfl) ?_
  have hpp : (fun k => !!(ps.getD k default).d.ok) = (fun k => (ps.getD k default).d.ok) := by funext k; simp
  exact ⟨by rw [okR_ps, decide_eq_true (by omega)]; simp [hpp], HS.out.bel⟩
 ·clear HF; have HF := HF1; clear HF1
  have dcc1 := ne_of_beq_false cc1
  refine wl_skip HF rfl rfl rfl rfl rfl rfl ?_; clear HF a; intro a HF
  refine wl_skip HF rfl rfl rfl rfl rfl rfl ?_; clear HF a; intro a HF
  refine wl_skip HF rfl rfl rfl rfl rfl rfl ?_; clear HF a; intro a HF
  refine wl_skip HF rfl rfl rfl rfl rfl rfl ?_; clear HF a; intro a HF
  refine wl_y rfl HF rfl rfl (yl_pick_f rfl (HF.ev rfl) (HF.ev rfl)) ?_; clear HF a; intro a HF
  refine wl_as HF rfl rfl rfl rfl rfl ?_; clear HF a; intro a HF
  refine wl_ne ?_
  refine wp_ret ?_
  refine bp_ret1 HF Tryz.results35 (HF.res rfl) ?_
  have hpp : (fun k => !!(ps.getD k default).d.ok) = (fun k => (ps.getD k default).d.ok) := by funext k; simp
  exact ⟨by rw [okR_ps, decide_eq_false (by omega)]; rfl, HS.out.bel⟩

theorem specRaidOk_any (a0 : Option Addr) (c0 : Nat) (ps : List HD) (w0 : World) (hl : ps.length ≤ 1048576) (hf : ∀ k, (ps.getD k default).d.fits) (hR : Rd HD.cells 3 w0 a0 ps.length ps) (hP : ∀ k, k < ps.length → (ps.getD k default).reads w0) : Calls Tryz.prog 28 #[.agg #[.slice a0 ps.length c0]] w0 fun e w' => e = .returned (.bool (okR (dsOf ps))) ∧ Below w0.heap.size w0 w' := by
 have HR := Bx.mk hR; have HP := Bx.mk hP; clear hR hP
 have HS := Bx.mk (St.start w0)
 refine wc_enter Tryz.func28 rfl Tryz.ntmps28 [(0, .agg #[.slice a0 ps.length c0])] ⟨rfl, trivial⟩ rfl ?_; intro a HF
 refine wp_sr ?_
 refine wl_box rfl HF rfl (HF.ev rfl) (Z := [.slice a0 ps.length c0]) rfl rfl rfl rfl HS.out ?_; clear HF HS a; intro a w1 b1 HF HS; replace HS := Bx.mk HS
 refine wl_as HF rfl rfl rfl rfl rfl ?_; clear HF a; intro a HF
 refine wl_ne ?_
 refine wp_seq ?_
 refine wp_sr ?_
 refine wl_as HF rfl rfl rfl rfl rfl ?_; clear HF a; intro a HF
 refine wl_ne ?_
 refine wp_block ?_
 refine wc_loop (ι := Nat) (fun k a w => (k ≤ ps.length ∧ allB (fun k => (ps.getD k default).d.ok) k = true) ∧ Fr 22 a [(1, .pointer (some ⟨b1, 0, none⟩)), (3, .int .i64 (k : Int))] ∧ St w0 ([boxA b1 1 34 (.agg #[.slice a0 ps.length c0])]) w) (fun k => ps.length - k) 0 ⟨⟨Nat.zero_le _, rfl⟩, HF.less _ ⟨rfl, rfl, trivial⟩, HS.out⟩ ?_
 clear HF HS; clear a
 rintro k a w2 ⟨⟨hk, hf2⟩, HF, HS⟩
 replace HS := Bx.mk HS
 refine wp_seq ?_
 refine wp_sr ?_
 refine wl_mv HF rfl rfl rfl rfl rfl ?_; clear HF a; intro a HF
 refine wl_y rfl HF rfl rfl (yl_fieldAddr (j := 0) rfl (HF.ev rfl) (by kernel_rfl)) ?_; clear HF a; intro a HF
 refine wl_y rfl HF rfl rfl (yl_load (v := .slice a0 ps.length c0) rfl (HF.ev rfl) (((HS.out.box 0 rfl).cell 0).trans rfl) (by kernel_rfl)) ?_; clear HF a; intro a HF
 refine wl_y rfl HF rfl rfl (yl_lenL (e := 94) (size := 3) rfl (HF.ev rfl) (by kernel_rfl)) ?_; clear HF a; intro a HF
 refine wl_y rfl HF rfl rfl (yl_lssI rfl (HF.ev rfl) (HF.ev rfl)) ?_; clear HF a; intro a HF
 refine wl_ne ?_
 refine HF.cases 8 rfl (fun cc1 HF1 => ?_) (fun cc1 HF1 => ?_)
 ·clear HF; have HF := HF1; clear HF1
  have dcc1 := of_decide_eq_true cc1
  refine wc_true HF rfl ?_
  refine wp_skip ?_
  refine ex_then ?_
  refine wp_seq ?_
  refine wp_block ?_
  refine wp_seq ?_
  obtain ⟨g0, o0, r0⟩ := HR.out.opn; have R0 := Bx.mk r0; clear r0
  refine wp_region_lit ?_
  refine wl_y rfl HF rfl rfl (yl_fieldAddr (j := 0) rfl (HF.ev rfl) (by kernel_rfl)) ?_; clear HF a; intro a HF
  refine wl_y rfl HF rfl rfl (yl_load (v := .slice a0 ps.length c0) rfl (HF.ev rfl) (((HS.out.box 0 rfl).cell 0).trans rfl) (by kernel_rfl)) ?_; clear HF a; intro a HF
  refine wl_mv HF rfl rfl rfl rfl rfl ?_; clear HF a; intro a HF
  refine wl_y rfl HF rfl rfl (yl_indexAddrR (e := 94) (i := k) (size := 3) rfl (HF.ev rfl) (HF.ev rfl) (by kernel_rfl) rfl (by omega) (R0.out.ao k (by omega))) ?_; clear HF a; intro a HF
  refine wl_y rfl HF rfl rfl (yl_loadR (cs := [.slice ((ps.getD k default).a0) ((ps.getD k default).d.fCells.length) ((ps.getD k default).c0), .slice ((ps.getD k default).a1) ((ps.getD k default).d.fWaits.length) ((ps.getD k default).c1), .bool ((ps.getD k default).d.fGone)]) rfl (HF.ev rfl) (R0.out.elem HS.out (get_getD (xs := ps) (j := k) (d := default) (by omega))) (by kernel_rfl)) ?_; clear HF a; intro a HF
  refine wl_callB rfl HF rfl (enter_of Tryz.func60 (by kernel_rfl) rfl) (args := #[.agg #[.slice ((ps.getD k default).a0) ((ps.getD k default).d.fCells.length) ((ps.getD k default).c0), .slice ((ps.getD k default).a1) ((ps.getD k default).d.fWaits.length) ((ps.getD k default).c1), .bool ((ps.getD k default).d.fGone)]]) rfl (v := .bool ((ps.getD k default).d.ok)) (specDiskOk_any (ps.getD k default).a0 (ps.getD k default).c0 (ps.getD k default).a1 (ps.getD k default).c1 (ps.getD k default).d _ (hf k).c (hf k).w (hf k).cz ((HP.out k (by omega)).below HS.out.bel).rc ((HP.out k (by omega)).below HS.out.bel).rw) rfl rfl HS.out ?_; clear HF HS a; intro w3 a HS HF; replace HS := Bx.mk HS
  refine wl_y rfl HF rfl rfl (yl_not rfl (HF.ev rfl)) ?_; clear HF a; intro a HF
  refine wl_ne ?_
  refine HF.cases 17 rfl (fun cc2 HF1 => ?_) (fun cc2 HF1 => ?_)
  ·clear HF; have HF := HF1; clear HF1
   refine wc_true HF rfl ?_
   refine wp_sr ?_
   refine wl_as HF rfl rfl rfl rfl rfl ?_; clear HF a; intro a HF
   refine wl_ne ?_
   refine wp_ret ?_
   refine ex_block_ret ?_
   refine ex_then_ret ?_
   refine ex_then_ret ?_
   refine ex_block_ret ?_
   refine ex_then_ret ?_
   refine bp_ret1 HF Tryz.results28 (HF.res rfl) ?_
   have hp : (ps.getD k default).d.ok = false := by simpa using cc2
   exact ⟨by rw [okR_ps, allB_false (p := fun k => (ps.getD k default).d.ok) (k := k) hp (by omega)]; simp, HS.out.bel⟩
  ·clear HF; have HF := HF1; clear HF1
   refine wc_false HF rfl ?_
   refine wp_skip ?_
   refine ex_block ?_
   refine ex_then ?_
   refine wp_region_lit ?_
   refine wl_mv HF rfl rfl rfl rfl rfl ?_; clear HF a; intro a HF
   refine wl_y rfl HF rfl rfl (yl_addI rfl (HF.ev rfl) (HF.ev rfl) (i64w (by omega))) ?_; clear HF a; intro a HF
   refine wl_as HF rfl rfl rfl rfl rfl ?_; clear HF a; intro a HF
   refine wl_ne ?_
   have hp : (ps.getD k default).d.ok = true := by simpa using cc2
   exact ⟨k + 1, ⟨⟨by omega, by unfold allB; rw [hf2, hp]; rfl⟩, HF.less _ ⟨rfl, rfl, trivial⟩, HS.out⟩, (by omega)⟩
 ·clear HF; have HF := HF1; clear HF1
  have dcc1 := of_decide_eq_false cc1
  refine wc_false HF rfl ?_
  refine wp_exit ?_
  refine ex_then_exit ?_
  refine ex_then_exit ?_
  refine ex_block_hit ?_
  refine ex_then ?_
  refine wp_sr ?_
  refine wl_y rfl HF rfl rfl (yl_fieldAddr (j := 0) rfl (HF.ev rfl) (by kernel_rfl)) ?_; clear HF a; intro a HF
  refine wl_y rfl HF rfl rfl (yl_load (v := .slice a0 ps.length c0) rfl (HF.ev rfl) (((HS.out.box 0 rfl).cell 0).trans rfl) (by kernel_rfl)) ?_; clear HF a; intro a HF
  refine wl_y rfl HF rfl rfl (yl_lenL (e := 94) (size := 3) rfl (HF.ev rfl) (by kernel_rfl)) ?_; clear HF a; intro a HF
  refine wl_y rfl HF rfl rfl (yl_eqlI rfl (HF.ev rfl) (HF.ev rfl)) ?_; clear HF a; intro a HF
  refine wl_as HF rfl rfl rfl rfl rfl ?_; clear HF a; intro a HF
  refine wl_ne ?_
  refine wp_ret ?_
  refine bp_ret1 HF Tryz.results28 (HF.res rfl) ?_
  obtain rfl : k = ps.length := by omega
  exact ⟨by rw [okR_ps, hf2, Bool.and_true]; congr 2; by_cases h3 : ps.length = 3 <;> simp [h3]; omega, HS.out.bel⟩

end Go.Proofs.YtoaopmkbfifhaaaGreatDoor

/- slices.Clone of waiting writes. -/
namespace Go.Proofs.YtoaopmkbfifhaaaGreatDoor
set_option linter.unusedVariables false
set_option linter.unusedSimpArgs false
set_option maxHeartbeats 1000000
set_option maxRecDepth 100000
open Go.RowKit

theorem cloneW_any (ao : Option Addr) (cap : Nat) (xs : List WaitD) (w : World) (hlen : xs.length ≤ 1048576) (hr : Rd WaitD.cells 2 w ao xs.length xs) :
    Calls Tryz.prog 123 #[.slice ao xs.length cap] w fun e w' => (∃ ao' cap', e = .returned (.slice ao' xs.length cap') ∧ RowO WaitD.cells 2 137 w' w.heap.size w'.heap.size (.slice ao' xs.length cap') xs) ∧ Below w.heap.size w w' := by
  have hb1 : Below w.heap.size w (w.alloc (.cells #[] 137)) := (Below.refl _ _).alloc (Nat.le_refl _) _
  have H1 := Bx.mk hb1
  have HN := Bx.mk (hr.below hb1)
  clear hb1
  cases ao with
  | none =>
    obtain rfl := rd_nil hr
    clear hr
    have hq := fun (w : World) => run_eql_slice_nil (P := Tryz.prog) w 92 137 none 0 cap Tryz.underlying92
    go_enter Tryz.func123, Tryz.ntmps123
    go_wp2
    go_ret
    exact ⟨⟨_, _, rfl, RowO.empty _ _ _ _ _ _ _⟩, Below.refl _ _⟩
  | some a =>
    obtain ⟨i0, hi, hz0, hz1, hz2⟩ := info_parts Tryz.infoWaitS
    clear hr
    have hq := fun (w : World) => run_eql_slice_nil (P := Tryz.prog) w 92 137 (some a) xs.length cap Tryz.underlying92
    go_enter Tryz.func123, Tryz.ntmps123
    go_wp2_with (at_builtin; refine wpList_append_own _ rfl (.tmp 5) (.tmp 6) 92 rfl w.heap.size 137 i0 _ 2 24 Tryz.underlying92 hi hz0 hz1 hz2 rfl (by decide) _ 0 [] rfl (owns_made w 137 2) a xs.length cap (xs.flatMap WaitD.cells) rfl (flat_len _ _ WaitD.cells_len xs) (HN.out.news WaitD.cells_len (by decide)) (cells_one_W xs) ?b1 ?b2 ?b3 ?_)
    case b1 => unfold maxLen; omega
    case b2 => omega
    case b3 => simp
    intro v w2 hown hg _
    obtain ⟨ao', cap', rfl, _⟩ := owns_slice hown
    go_wp2
    go_ret
    exact ⟨⟨_, _, rfl, RowO.mk hown (fun g h => (hown.lt g h).2)⟩, H1.out.grown hg H1.out.size (by simp [Value.ownBlock])⟩
end Go.Proofs.YtoaopmkbfifhaaaGreatDoor

/- Drawn regions that first read (and call), then write: what holds of the world is asked only until a marked operation has come up. -/
namespace Go.Proofs.YtoaopmkbfifhaaaGreatDoor
set_option linter.unusedVariables false
set_option linter.unusedSimpArgs false
set_option maxHeartbeats 1000000
set_option maxRecDepth 100000
open Go.RowKit

section
variable {P : Program} {md : Region.Mode} {ops : Array Oper} {Q : Exit → Act → World → Prop} {S : World → Prop} {m : Nat}
def wpAnyM (P : Program) (md : Region.Mode) (ops : Array Oper) (Q : Exit → Act → World → Prop) (S : World → Prop) (m : Nat) : Nat → Array Bool → Act → World → Prop
  | 0, listed, a, w => Region.ready md ops listed = [] ∧ Q .normal a w
  | fuel + 1, listed, a, w =>
    (Region.ready md ops listed = [] → Q .normal a w) ∧
    ∀ i ∈ Region.ready md ops listed, wpOp P ops Q i (fun a' w' => ((listed.setIfInBounds i true).getD m true = false → S w') ∧ wpAnyM P md ops Q S m fuel (listed.setIfInBounds i true) a' w') a w
theorem wpAny_of_M : ∀ (fuel : Nat) (listed : Array Bool) (a : Act) (w : World), wpAnyM P md ops Q S m fuel listed a w → wpAny P md ops Q fuel listed a w
  | 0, _, _, _, h => h
  | fuel + 1, _, _, _, h => ⟨h.1, fun i hi => wpOp_mono (fun a' w' h' => wpAny_of_M fuel _ a' w' h'.2) (h.2 i hi)⟩
/-- A read that the marked operation waits for may be taken first. -/
theorem wpAnyM_first {i : Nat} {oi : Oper} {v : Value} (hi : ops[i]? = some oi) (hsel : ∀ (j : Nat) (o : Oper) cs b, ops[j]? = some o → o.op ≠ .select cs b)
    (hQ : ∀ c a w, Q (.panic c) (a.put oi.dst v) w → Q (.panic c) a w) (him : i ≠ m) (hdep : ∀ om, ops[m]? = some om → ∃ e ∈ om.after, Region.binds md e = true ∧ e.on = i) :
    ∀ (fuel : Nat) (listed : Array Bool) (a : Act) (w : World),
      (∀ j oj, ops[j]? = some oj → j ≠ i → listed.getD j true = false → (∀ e ∈ oj.after, Region.binds md e = true → e.on ≠ i) → oi.apart ops oj = true) →
      i ∈ Region.ready md ops listed → YieldsIf P ops S oi v a → listed.getD m true = false → S w →
      wpAnyM P md ops Q S m fuel (listed.setIfInBounds i true) (a.put oi.dst v) w → wpAnyM P md ops Q S m (fuel + 1) listed a w := by
  intro fuel
  induction fuel with
  | zero =>
    intro listed a w _ hr hy hm hS H
    refine ⟨fun h => (by rw [h] at hr; cases hr), fun j hj => ?_⟩
    by_cases hji : j = i
    · subst hji; exact hy.wpOp hi hS ⟨fun _ => hS, H⟩
    · have := ready_mono hj hji
      rw [H.1] at this
      cases this
  | succ fuel ih =>
    intro listed a w hfree hr hy hm hS H
    refine ⟨fun h => (by rw [h] at hr; cases hr), fun j hj => ?_⟩
    by_cases hji : j = i
    · subst hji; exact hy.wpOp hi hS ⟨fun _ => hS, H⟩
    · have h1 := H.2 j (ready_mono hj hji)
      obtain ⟨hjun, oj, hoj, hall⟩ := mem_ready.1 hj
      have hnot : ∀ e ∈ oj.after, Region.binds md e = true → e.on ≠ i := fun e he hb heq => by
        have h1 := hall e he hb
        have h0 := (mem_ready.1 hr).1
        rw [heq] at h1
        rcases Nat.lt_or_ge i listed.size with h' | h'
        · simp [h'] at h0 h1; rw [h0] at h1; cases h1
        · simp [Array.getElem?_eq_none h'] at h1
      have hjm : j ≠ m := fun e => by
        subst e
        obtain ⟨e, he, hb, hon⟩ := hdep oj hoj
        exact hnot e he hb hon
      have h2 := wpOp_putIf hoj (hfree j oj hoj hji hjun hnot) (fun cs b => hsel i oi cs b hi) (fun cs b => hsel j oj cs b hoj) hQ hy h1
      have hfree' : ∀ k ok, ops[k]? = some ok → k ≠ i → (listed.setIfInBounds j true).getD k true = false →
          (∀ e ∈ ok.after, Region.binds md e = true → e.on ≠ i) → oi.apart ops ok = true := fun k ok hk hki hun hno => by
        refine hfree k ok hk hki ?_ hno
        by_cases hjk : j = k
        · subst hjk; exact hjun
        · rw [getD_set_ne true hjk] at hun; exact hun
      have hmj : (listed.setIfInBounds j true).getD m true = false := by rw [getD_set_ne true hjm]; exact hm
      refine wpOp_mono (fun a' w' h3 => ?_) h2
      have hS' : S w' := h3.2.1 (by rw [getD_set_ne true hjm, getD_set_ne true him]; exact hm)
      refine ⟨fun _ => hS', ih (listed.setIfInBounds j true) a' w' hfree' (ready_mono hr (Ne.symm hji)) h3.1 hmj hS' ?_⟩
      rw [Array.setIfInBounds_comm _ _ hji]
      exact h3.2.2
/-- What yields in every world may be taken first. -/
theorem wpAnyM_firstT {i : Nat} {oi : Oper} {v : Value} (hi : ops[i]? = some oi) (hsel : ∀ (j : Nat) (o : Oper) cs b, ops[j]? = some o → o.op ≠ .select cs b)
    (hQ : ∀ c a w, Q (.panic c) (a.put oi.dst v) w → Q (.panic c) a w) (him : i ≠ m) :
    ∀ (fuel : Nat) (listed : Array Bool) (a : Act) (w : World),
      (∀ j oj, ops[j]? = some oj → j ≠ i → listed.getD j true = false → (∀ e ∈ oj.after, Region.binds md e = true → e.on ≠ i) → oi.apart ops oj = true) →
      i ∈ Region.ready md ops listed → YieldsIf P ops (fun _ => True) oi v a → (listed.getD m true = false → S w) →
      wpAnyM P md ops Q S m fuel (listed.setIfInBounds i true) (a.put oi.dst v) w → wpAnyM P md ops Q S m (fuel + 1) listed a w := by
  intro fuel
  induction fuel with
  | zero =>
    intro listed a w _ hr hy hS H
    refine ⟨fun h => (by rw [h] at hr; cases hr), fun j hj => ?_⟩
    by_cases hji : j = i
    · subst hji; exact hy.wpOp hi trivial ⟨fun h => hS (by rw [getD_set_ne true him] at h; exact h), H⟩
    · have := ready_mono hj hji
      rw [H.1] at this
      cases this
  | succ fuel ih =>
    intro listed a w hfree hr hy hS H
    refine ⟨fun h => (by rw [h] at hr; cases hr), fun j hj => ?_⟩
    by_cases hji : j = i
    · subst hji; exact hy.wpOp hi trivial ⟨fun h => hS (by rw [getD_set_ne true him] at h; exact h), H⟩
    · have h1 := H.2 j (ready_mono hj hji)
      obtain ⟨hjun, oj, hoj, hall⟩ := mem_ready.1 hj
      have hnot : ∀ e ∈ oj.after, Region.binds md e = true → e.on ≠ i := fun e he hb heq => by
        have h1 := hall e he hb
        have h0 := (mem_ready.1 hr).1
        rw [heq] at h1
        rcases Nat.lt_or_ge i listed.size with h' | h'
        · simp [h'] at h0 h1; rw [h0] at h1; cases h1
        · simp [Array.getElem?_eq_none h'] at h1
      have h2 := wpOp_putIf hoj (hfree j oj hoj hji hjun hnot) (fun cs b => hsel i oi cs b hi) (fun cs b => hsel j oj cs b hoj) hQ hy h1
      have hfree' : ∀ k ok, ops[k]? = some ok → k ≠ i → (listed.setIfInBounds j true).getD k true = false →
          (∀ e ∈ ok.after, Region.binds md e = true → e.on ≠ i) → oi.apart ops ok = true := fun k ok hk hki hun hno => by
        refine hfree k ok hk hki ?_ hno
        by_cases hjk : j = k
        · subst hjk; exact hjun
        · rw [getD_set_ne true hjk] at hun; exact hun
      refine wpOp_mono (fun a' w' h3 => ?_) h2
      have hS' : (listed.setIfInBounds j true).getD m true = false → S w' := fun h => h3.2.1 (by rw [Array.setIfInBounds_comm _ _ (Ne.symm hji), getD_set_ne true him]; exact h)
      refine ⟨hS', ih (listed.setIfInBounds j true) a' w' hfree' (ready_mono hr (Ne.symm hji)) h3.1 hS' ?_⟩
      rw [Array.setIfInBounds_comm _ _ hji]
      exact h3.2.2
end
/-- Does the marked operation wait for this one? -/
def waitsB (ops : Array Oper) (m i : Nat) : Bool :=
  match ops[m]? with
  | some om => om.after.any fun e => Region.binds .any e && e.on == i
  | none => true
theorem waitsB_spec {ops : Array Oper} {m i : Nat} (h : waitsB ops m i = true) : ∀ om, ops[m]? = some om → ∃ e ∈ om.after, Region.binds .any e = true ∧ e.on = i := by
  intro om hom
  unfold waitsB at h
  rw [hom] at h
  simp only [Array.any_eq_true'] at h
  obtain ⟨e, he, hb⟩ := h
  rw [Bool.and_eq_true, beq_iff_eq] at hb
  exact ⟨e, he, hb.1, hb.2⟩
section
variable {P : Program} {ops : Array Oper} {Q : Exit → Act → World → Prop} {a : Act} {w W : World} {N : Nat} {l : List (Nat × Value)} {s : List Asr} {fuel m : Nat} {listed : Array Bool}
theorem wr_marked {id : Nat} {l : List Oper} (m : Nat) (hm : P.follows .mixedOrders = true)
    (h : wpAnyM P .any l.toArray Q (St W s) m l.length (Array.replicate l.length false) a w.drew) : (Code.region id l.toArray true).wp P Q a w :=
  wp_region_any hm (wpAny_of_M _ _ _ _ (by simpa using h))
theorem wm_y {oi : Oper} (i : Nat) (hi : ops[i]? = some oi) (hs : Region.noSelect ops = true) (hf : Region.free .any ops listed i = true) (hr : (Region.ready .any ops listed).contains i = true) {v : Value} (hQ : ∀ c a w, Q (.panic c) (a.put oi.dst v) w → Q (.panic c) a w)
    (him : i ≠ m) (hdep : waitsB ops m i = true) (hml : listed.getD m true = false) (hg : oi.guard = none) (hF : Fr N a l) {d : Nat} (hd : oi.dst = some d) (hN : Nat.blt d N = true) (hy : ∀ w, St W s w → Yl P w oi a v) (hS : St W s w) (h : ∀ a', Fr N a' ((d, v) :: l) → wpAnyM P .any ops Q (St W s) m fuel (listed.setIfInBounds i true) a' w) : wpAnyM P .any ops Q (St W s) m (fuel + 1) listed a w :=
  wpAnyM_first hi (Region.noSelect_spec hs) hQ him (waitsB_spec hdep) fuel listed a w (Region.free_spec hi hf) (by simpa using hr) (.inl ⟨wanted_none hg, hy⟩) hml hS (hd ▸ h _ (hF.put (Nat.le_of_ble_eq_true hN) v))
theorem wm_t {oi : Oper} (i : Nat) (hi : ops[i]? = some oi) (hs : Region.noSelect ops = true) (hf : Region.free .any ops listed i = true) (hr : (Region.ready .any ops listed).contains i = true) {v : Value} (hQ : ∀ c a w, Q (.panic c) (a.put oi.dst v) w → Q (.panic c) a w)
    (him : i ≠ m) (hg : oi.guard = none) (hF : Fr N a l) {d : Nat} (hd : oi.dst = some d) (hN : Nat.blt d N = true) (hy : ∀ w, True → Yl P w oi a v) (hS : listed.getD m true = false → St W s w) (h : ∀ a', Fr N a' ((d, v) :: l) → wpAnyM P .any ops Q (St W s) m fuel (listed.setIfInBounds i true) a' w) : wpAnyM P .any ops Q (St W s) m (fuel + 1) listed a w :=
  wpAnyM_firstT hi (Region.noSelect_spec hs) hQ him fuel listed a w (Region.free_spec hi hf) (by simpa using hr) (.inl ⟨wanted_none hg, hy⟩) hS (hd ▸ h _ (hF.put (Nat.le_of_ble_eq_true hN) v))
theorem wm_one (i : Nat) (hr : Region.ready .any ops listed = [i]) (h : wpOp P ops Q i (fun a' w' => ((listed.setIfInBounds i true).getD m true = false → St W s w') ∧ wpAnyM P .any ops Q (St W s) m fuel (listed.setIfInBounds i true) a' w') a w) : wpAnyM P .any ops Q (St W s) m (fuel + 1) listed a w :=
  ⟨fun h0 => (by rw [hr] at h0; cases h0), fun j hj => (by rw [hr] at hj; obtain rfl := List.mem_singleton.1 hj; exact h)⟩
theorem wm_done (hr : Region.ready .any ops listed = []) (h : Q .normal a w) : ∀ {fuel : Nat}, wpAnyM P .any ops Q (St W s) m fuel listed a w
  | 0 => ⟨hr, h⟩
  | _ + 1 => ⟨fun _ => h, by rw [hr]; simp⟩
end
end Go.Proofs.YtoaopmkbfifhaaaGreatDoor

/- Disks in rows, put in and taken out; copies. -/
namespace Go.Proofs.YtoaopmkbfifhaaaGreatDoor
set_option linter.unusedVariables false
set_option linter.unusedSimpArgs false
set_option maxHeartbeats 1000000
set_option maxRecDepth 100000
open Go.RowKit

theorem St.swap {W w : World} {a b : Asr} {F : List Asr} (h : St W (a :: b :: F) w) : St W (b :: a :: F) w := h.perm (List.Perm.swap ..)
theorem St.midl {W w : World} {L C F : List Asr} (h : St W (L ++ (C ++ F)) w) : St W (C ++ (L ++ F)) w := by
  refine h.perm ?_
  rw [← List.append_assoc, ← List.append_assoc]
  exact (List.perm_append_comm).append_right F
theorem getD_get {α : Type} [Inhabited α] {xs : List α} {k : Nat} (h : k < xs.length) : xs.getD k default = xs[k] := by simp [List.getD, h]
/-- A disk out of a set of disks. -/
theorem St.hdOut {W w : World} {F : List Asr} {qs : List HD} (h : St W (sepA (qs.map HD.asr) :: F) w) (k : Nat) (hk : k < qs.length) : St W ((qs.getD k default).asr :: sepA ((qs.eraseIdx k).map HD.asr) :: F) w := by
  have h1 := St.join.2 h
  rw [getD_get hk]
  have hp : (qs.map HD.asr ++ F).Perm ((qs.eraseIdx k).map HD.asr ++ (qs[k].asr :: F)) := by
    refine (((pick_perm qs k hk).map HD.asr).append_right F).trans ?_
    rw [List.map_cons, List.cons_append]
    exact (List.perm_middle).symm
  exact (St.join.1 (h1.perm hp)).swap
theorem St.hdIn {W w : World} {F : List Asr} {qs : List HD} {q : HD} {k : Nat} (h : St W (q.asr :: sepA ((qs.eraseIdx k).map HD.asr) :: F) w) (hk : k < qs.length) : St W (sepA ((qs.set k q).map HD.asr) :: F) w := by
  have h1 := St.join.2 h.swap
  refine St.join.1 (h1.perm ?_)
  refine (List.perm_middle).trans ?_
  rw [← List.cons_append, ← List.map_cons]
  exact (((set_pick qs k q hk).map HD.asr).append_right F)
theorem St.hdSnoc {W w : World} {F : List Asr} {qs : List HD} {q : HD} (h : St W (q.asr :: sepA (qs.map HD.asr) :: F) w) : St W (sepA ((qs ++ [q]).map HD.asr) :: F) w := by
  have h1 := St.join.2 h.swap
  refine St.join.1 (h1.perm ?_)
  rw [List.map_append, List.map_cons, List.map_nil, List.append_assoc]
  exact List.Perm.refl _
theorem St.hdNil {W w : World} {F : List Asr} (h : St W F w) : St W (sepA (([] : List HD).map HD.asr) :: F) w := (St.join (r := []) (s := F)).1 h
theorem dsOf_append (ps qs : List HD) : dsOf (ps ++ qs) = dsOf ps ++ dsOf qs := List.map_append ..
theorem dsOf_take_succ (ps : List HD) (k : Nat) (hk : k < ps.length) : dsOf (ps.take (k + 1)) = dsOf (ps.take k) ++ [(ps.getD k default).d] := by
  rw [List.take_succ_eq_append_getElem hk, dsOf_append, getD_get hk]; rfl
theorem elemD : ElemT Tryz.prog 32 94 3 56 := by
  obtain ⟨i0, hi, hz0, hz1, hz2⟩ := info_parts (P := Tryz.prog) (e := 94) (z := .agg #[.slice none 0 0, .slice none 0 0, .bool false]) (size := 3) (bytes := 56) (by kernel_rfl)
  exact ⟨Tryz.underlying32, ⟨i0, _, hi, hz0, hz1, hz2, rfl⟩, by decide⟩
theorem cells_one_D (xs : List HD) : ∀ u ∈ xs.flatMap HD.cells, u.oneCell' = true := by
  intro u hu
  obtain ⟨x, _, hx⟩ := List.mem_flatMap.1 hu
  simp only [HD.cells, List.mem_cons, List.not_mem_nil, or_false] at hx
  rcases hx with rfl | rfl | rfl <;> rfl
/-- A copy of a disk, as a header and its rows. -/
theorem hd_of_own {w w' : World} {v : Value} {d : DiskD} (h : DiskD.Own w' w.heap.size w'.heap.size v d) (hb : Below w.heap.size w w') : ∃ q : HD, q.d = d ∧ v = .agg #[.slice q.a0 q.d.fCells.length q.c0, .slice q.a1 q.d.fWaits.length q.c1, .bool q.d.fGone] ∧ St w [q.asr] w' := by
  obtain ⟨a0, c0, a1, c1, rfl, hs⟩ := DiskD.own_st h hb
  exact ⟨⟨a0, c0, a1, c1, d⟩, rfl, rfl, (St.join (r := [_, _]) (s := [])).1 hs⟩
theorem l3CopyH_any (p : HD) (w0 : World) (hr : p.reads w0) (hf : p.d.fits) : Calls Tryz.prog 64 #[.agg #[.slice p.a0 p.d.fCells.length p.c0, .slice p.a1 p.d.fWaits.length p.c1, .bool p.d.fGone]] w0 fun e w' => ∃ q : HD, q.d = p.d ∧ e = .returned (.agg #[.slice q.a0 q.d.fCells.length q.c0, .slice q.a1 q.d.fWaits.length q.c1, .bool q.d.fGone]) ∧ St w0 [q.asr] w' := by
  refine (l3Copy_any _ p.d w0 ⟨_, _, _, _, rfl, hr.rc, hr.rw⟩ hf.c hf.w).mono ?_
  rintro e w' ⟨v, rfl, ho, hb⟩
  obtain ⟨q, h1, rfl, h3⟩ := hd_of_own ho hb
  exact ⟨q, h1, rfl, h3⟩

theorem clone_any (p : HD) (w0 : World) (hr : p.reads w0) (hf : p.d.fits) : Calls Tryz.prog 77 #[.agg #[.slice p.a0 p.d.fCells.length p.c0, .slice p.a1 p.d.fWaits.length p.c1, .bool p.d.fGone]] w0 fun e w' => ∃ q : HD, q.d = p.d ∧ e = .returned (.agg #[.slice q.a0 q.d.fCells.length q.c0, .slice q.a1 q.d.fWaits.length q.c1, .bool q.d.fGone]) ∧ St w0 [q.asr] w' := by
 have HP := Bx.mk hr
 clear hr
 have HS := Bx.mk (St.start w0)
 refine wc_enter Tryz.func77 rfl Tryz.ntmps77 [(0, .agg #[.slice p.a0 p.d.fCells.length p.c0, .slice p.a1 p.d.fWaits.length p.c1, .bool p.d.fGone])] ⟨rfl, trivial⟩ rfl ?_; intro a HF
 refine wp_sr ?_
 refine wl_box rfl HF rfl (HF.ev rfl) (Z := [.slice p.a0 p.d.fCells.length p.c0, .slice p.a1 p.d.fWaits.length p.c1, .bool p.d.fGone]) rfl rfl rfl rfl HS.out ?_; clear HF HS a; intro a w1 b1 HF HS; replace HS := Bx.mk HS
 refine wl_alloc rfl HF rfl rfl rfl (Z := [.slice none 0 0, .slice none 0 0, .bool false]) (by kernel_rfl) rfl HS.out ?_; clear HF HS a; intro a w2 b2 HF HS; replace HS := Bx.mk HS
 refine wl_ne ?_
 refine wp_seq ?_
 refine wr_heldS (s := [boxA b1 3 94 (.agg #[.slice p.a0 p.d.fCells.length p.c0, .slice p.a1 p.d.fWaits.length p.c1, .bool p.d.fGone])]) (by kernel_rfl) (St.drew ((HS.out.erase 0))) ?_
 have HS2 := Bx.mk HS.out.drew; replace HS := Bx.mk (show St w0 ([boxA b1 3 94 (.agg #[.slice p.a0 p.d.fCells.length p.c0, .slice p.a1 p.d.fWaits.length p.c1, .bool p.d.fGone])]) _ from (HS.out.drew.erase 0))
 generalize World.drew _ = w3 at HS HS2 ⊢
 refine wh_y 0 rfl (by kernel_rfl) (by kernel_rfl) (by kernel_rfl) (fun _ _ _ h => h) rfl HF rfl rfl (fun _ HS => (yl_fieldAddr (j := 0) rfl (HF.ev rfl) (by kernel_rfl))) HS.out ?_; clear HF a; intro a HF
 refine wh_y 1 rfl (by kernel_rfl) (by kernel_rfl) (by kernel_rfl) (fun _ _ _ h => h) rfl HF rfl rfl (fun _ HS => (yl_load (v := .slice p.a0 p.d.fCells.length p.c0) rfl (HF.ev rfl) (((HS.box 0 rfl).cell 0).trans rfl) (by kernel_rfl))) HS.out ?_; clear HF a; intro a HF
 refine wh_y 3 rfl (by kernel_rfl) (by kernel_rfl) (by kernel_rfl) (fun _ _ _ h => h) rfl HF rfl rfl (fun _ HS => (yl_fieldAddr (j := 1) rfl (HF.ev rfl) (by kernel_rfl))) HS.out ?_; clear HF a; intro a HF
 refine wh_y 4 rfl (by kernel_rfl) (by kernel_rfl) (by kernel_rfl) (fun _ _ _ h => h) rfl HF rfl rfl (fun _ HS => (yl_load (v := .slice p.a1 p.d.fWaits.length p.c1) rfl (HF.ev rfl) (((HS.box 0 rfl).cell 1).trans rfl) (by kernel_rfl))) HS.out ?_; clear HF a; intro a HF
 refine wh_y 6 rfl (by kernel_rfl) (by kernel_rfl) (by kernel_rfl) (fun _ _ _ h => h) rfl HF rfl rfl (fun _ HS => (yl_fieldAddr (j := 2) rfl (HF.ev rfl) (by kernel_rfl))) HS.out ?_; clear HF a; intro a HF
 refine wh_y 7 rfl (by kernel_rfl) (by kernel_rfl) (by kernel_rfl) (fun _ _ _ h => h) rfl HF rfl rfl (fun _ HS => (yl_load (v := .bool p.d.fGone) rfl (HF.ev rfl) (((HS.box 0 rfl).cell 2).trans rfl) (by kernel_rfl))) HS.out ?_; clear HF a; intro a HF
 refine wh_one 2 (by kernel_rfl) ?_
 refine wo_call rfl rfl HF rfl (enter_of Tryz.func122 (by kernel_rfl) rfl) (args := #[.slice p.a0 p.d.fCells.length p.c0]) rfl (cloneS_any _ _ p.d.fCells _ (by have := hf.c; omega) (HP.out.rc.below HS2.out.bel)) rfl rfl ?_
 rintro _ w5 ⟨⟨ao3, cp4, rfl, ho⟩, hb⟩
 refine ⟨_, rfl, ?_⟩; replace HS := Bx.mk (HS.out.later hb); replace HS2 := Bx.mk (HS2.out.add (St.ofRow ho hb)); clear ho hb HF; clear a; intro a HF; refine ⟨HS.out, ?_⟩
 replace HS2 : Bx (St w0 ([rowA encS 1 9 (.slice ao3 p.d.fCells.length cp4) p.d.fCells, boxA b2 3 94 (.agg #[.slice none 0 0, .slice none 0 0, .bool false]), boxA b1 3 94 (.agg #[.slice p.a0 p.d.fCells.length p.c0, .slice p.a1 p.d.fWaits.length p.c1, .bool p.d.fGone])]) _) := ⟨HS2.out⟩
 refine wh_one 5 (by kernel_rfl) ?_
 refine wo_call rfl rfl HF rfl (enter_of Tryz.func123 (by kernel_rfl) rfl) (args := #[.slice p.a1 p.d.fWaits.length p.c1]) rfl (cloneW_any _ _ p.d.fWaits _ (by have := hf.w; omega) (HP.out.rw.below HS2.out.bel)) rfl rfl ?_
 rintro _ w7 ⟨⟨ao6, cp7, rfl, ho⟩, hb⟩
 refine ⟨_, rfl, ?_⟩; replace HS := Bx.mk (HS.out.later hb); replace HS2 := Bx.mk (HS2.out.add (St.ofRow ho hb)); clear ho hb HF; clear a; intro a HF; refine ⟨HS.out, ?_⟩
 replace HS2 : Bx (St w0 ([rowA WaitD.cells 2 137 (.slice ao6 p.d.fWaits.length cp7) p.d.fWaits, rowA encS 1 9 (.slice ao3 p.d.fCells.length cp4) p.d.fCells, boxA b2 3 94 (.agg #[.slice none 0 0, .slice none 0 0, .bool false]), boxA b1 3 94 (.agg #[.slice p.a0 p.d.fCells.length p.c0, .slice p.a1 p.d.fWaits.length p.c1, .bool p.d.fGone])]) _) := ⟨HS2.out⟩
 refine wh_y 8 rfl (by kernel_rfl) (by kernel_rfl) (by kernel_rfl) (fun _ _ _ h => h) rfl HF rfl rfl (fun _ HS => (yl_build HF rfl (ps := [(0, .slice ao3 p.d.fCells.length cp4), (1, .slice ao6 p.d.fWaits.length cp7), (2, .bool p.d.fGone)]) rfl (cs := #[.slice ao3 p.d.fCells.length cp4, .slice ao6 p.d.fWaits.length cp7, .bool p.d.fGone]) (by kernel_rfl))) HS.out ?_; clear HF a; intro a HF
 refine wh_one 9 (by kernel_rfl) ?_
 refine wo_storeBox rfl rfl rfl rfl (HF.ev rfl) (HF.ev rfl) HS2.out 2 rfl (cells_lit [.slice ao3 p.d.fCells.length cp4, .slice ao6 p.d.fWaits.length cp7, .bool p.d.fGone] rfl rfl) (by kernel_rfl) ?_
 clear HS HS2; intro w8 HS2; replace HS2 : Bx (St w0 ([rowA WaitD.cells 2 137 (.slice ao6 p.d.fWaits.length cp7) p.d.fWaits, rowA encS 1 9 (.slice ao3 p.d.fCells.length cp4) p.d.fCells, boxA b2 3 94 (.agg #[.slice ao3 p.d.fCells.length cp4, .slice ao6 p.d.fWaits.length cp7, .bool p.d.fGone]), boxA b1 3 94 (.agg #[.slice p.a0 p.d.fCells.length p.c0, .slice p.a1 p.d.fWaits.length p.c1, .bool p.d.fGone])]) _) := ⟨HS2⟩
 have HS : Bx (St w0 ([boxA b1 3 94 (.agg #[.slice p.a0 p.d.fCells.length p.c0, .slice p.a1 p.d.fWaits.length p.c1, .bool p.d.fGone])]) _) := ⟨(((HS2.out.erase 2).erase 1).erase 0)⟩; refine ⟨HS.out, ?_⟩
 refine wh_done (by kernel_rfl) ?_
 replace HS := HS2; clear HS2
 refine ex_then ?_
 refine wp_ret ?_
 refine bp_ret1 HF Tryz.results77 (HF.resBox rfl (HS.out.box 2 rfl) (by kernel_rfl)) ?_
 replace HS : Bx (St w0 ([rowA encS 1 9 (.slice ao3 p.d.fCells.length cp4) p.d.fCells, rowA WaitD.cells 2 137 (.slice ao6 p.d.fWaits.length cp7) p.d.fWaits, boxA b2 3 94 (.agg #[.slice ao3 p.d.fCells.length cp4, .slice ao6 p.d.fWaits.length cp7, .bool p.d.fGone]), boxA b1 3 94 (.agg #[.slice p.a0 p.d.fCells.length p.c0, .slice p.a1 p.d.fWaits.length p.c1, .bool p.d.fGone])]) _) := ⟨((HS.out).pick 0 rfl).pick 1 rfl⟩
 exact ⟨⟨ao3, cp4, ao6, cp7, p.d⟩, rfl, rfl, (St.join (r := [_, _]) (s := [])).1 (((HS.out.erase 3).erase 2))⟩

def DiskD.putD (d : DiskD) (n : Int) (t : ByteArray) : DiskD := { d with fWaits := d.fWaits ++ [(⟨n, t⟩ : WaitD)] }
theorem ok_waits {d : DiskD} (h : d.ok = true) : d.fCells.length = 64 ∧ d.fWaits.length ≤ 120 := by
  unfold DiskD.ok at h
  simp only [Bool.and_eq_true, decide_eq_true_eq] at h
  exact ⟨h.1, h.2.1⟩

theorem diskWrite_any (p : HD) (n : Int) (t : ByteArray) (w0 : World) (hr : p.reads w0) (hf : p.d.fits) (hok : p.d.ok = true) (ht : t.size ≤ 9223372036854775806) : Calls Tryz.prog 78 #[.agg #[.slice p.a0 p.d.fCells.length p.c0, .slice p.a1 p.d.fWaits.length p.c1, .bool p.d.fGone], .int .i64 n, .string t] w0 fun e w' => (p.d.can n t = false ∧ ∃ q : HD, e = .returned (.tuple #[.agg #[.slice q.a0 q.d.fCells.length q.c0, .slice q.a1 q.d.fWaits.length q.c1, .bool q.d.fGone], .bool false]) ∧ St w0 [q.asr] w') ∨ (p.d.can n t = true ∧ ∃ q : HD, q.d = p.d.putD n t ∧ e = .returned (.tuple #[.agg #[.slice q.a0 q.d.fCells.length q.c0, .slice q.a1 q.d.fWaits.length q.c1, .bool q.d.fGone], .bool true]) ∧ St w0 [q.asr] w') := by
 have HP := Bx.mk hr
 clear hr
 have hok2 := ok_waits hok
 have HS := Bx.mk (St.start w0)
 refine wc_enter Tryz.func78 rfl Tryz.ntmps78 [(0, .agg #[.slice p.a0 p.d.fCells.length p.c0, .slice p.a1 p.d.fWaits.length p.c1, .bool p.d.fGone]), (1, .int .i64 n), (2, .string t)] ⟨rfl, rfl, rfl, trivial⟩ rfl ?_; intro a HF
 refine wp_sr ?_
 refine wl_box rfl HF rfl (HF.ev rfl) (Z := [.slice p.a0 p.d.fCells.length p.c0, .slice p.a1 p.d.fWaits.length p.c1, .bool p.d.fGone]) rfl rfl rfl rfl HS.out ?_; clear HF HS a; intro a w1 b1 HF HS; replace HS := Bx.mk HS
 refine wl_alloc rfl HF rfl rfl rfl (Z := [.slice none 0 0, .slice none 0 0, .bool false]) (by kernel_rfl) rfl HS.out ?_; clear HF HS a; intro a w2 b2 HF HS; replace HS := Bx.mk HS
 refine wl_as HF rfl rfl rfl rfl rfl ?_; clear HF a; intro a HF
 refine wl_ne ?_
 refine wp_seq ?_
 refine wp_sr ?_
 refine wl_y rfl HF rfl rfl (yl_loadR (cs := [.slice p.a0 p.d.fCells.length p.c0, .slice p.a1 p.d.fWaits.length p.c1, .bool p.d.fGone]) rfl (HF.ev rfl) ((HS.out.box 1 rfl).sub 0 3) (by kernel_rfl)) ?_; clear HF a; intro a HF
 refine wl_callB rfl HF rfl (enter_of Tryz.func73 (by kernel_rfl) rfl) (args := #[.agg #[.slice p.a0 p.d.fCells.length p.c0, .slice p.a1 p.d.fWaits.length p.c1, .bool p.d.fGone]]) rfl (v := .bool true) ((by have := implDiskOk_any p.a0 p.c0 p.a1 p.c1 p.d _ hf.c hf.w hf.cz hf.wz (HP.out.below HS.out.bel).rc (HP.out.below HS.out.bel).rw; rw [hok] at this; exact this)) rfl rfl HS.out ?_; clear HF HS a; intro w3 a HS HF; replace HS := Bx.mk HS
 refine wl_y rfl HF rfl rfl (yl_not rfl (HF.ev rfl)) ?_; clear HF a; intro a HF
 refine wl_ne ?_
 refine wc_false HF rfl ?_
 refine wp_skip ?_
 refine ex_then ?_
 refine wp_sr ?_
 refine wl_y rfl HF rfl rfl (yl_loadR (cs := [.slice p.a0 p.d.fCells.length p.c0, .slice p.a1 p.d.fWaits.length p.c1, .bool p.d.fGone]) rfl (HF.ev rfl) ((HS.out.box 1 rfl).sub 0 3) (by kernel_rfl)) ?_; clear HF a; intro a HF
 refine wl_call rfl HF rfl (enter_of Tryz.func77 (by kernel_rfl) rfl) (args := #[.agg #[.slice p.a0 p.d.fCells.length p.c0, .slice p.a1 p.d.fWaits.length p.c1, .bool p.d.fGone]]) rfl (clone_any p _ (HP.out.below HS.out.bel) hf) rfl rfl ?_
 rintro _ w4 ⟨⟨qa3, qc3, qb3, qe3, qd⟩, hqd, rfl, hs⟩; obtain rfl : qd = p.d := hqd; refine ⟨_, rfl, ?_⟩
 replace HS := Bx.mk (St.join.2 (HS.out.add hs)); clear hs HF; clear a; intro a HF
 replace HS : Bx (St w0 ([rowA encS 1 9 (.slice qa3 p.d.fCells.length qc3) p.d.fCells, rowA WaitD.cells 2 137 (.slice qb3 p.d.fWaits.length qe3) p.d.fWaits, boxA b2 3 94 (.agg #[.slice none 0 0, .slice none 0 0, .bool false]), boxA b1 3 94 (.agg #[.slice p.a0 p.d.fCells.length p.c0, .slice p.a1 p.d.fWaits.length p.c1, .bool p.d.fGone])]) _) := ⟨HS.out⟩
 refine wl_alloc rfl HF rfl rfl rfl (Z := [.slice none 0 0, .slice none 0 0, .bool false]) (by kernel_rfl) rfl HS.out ?_; clear HF HS a; intro a w5 b4 HF HS; replace HS := Bx.mk HS
 refine wl_storeBox rfl HF rfl rfl (HF.ev rfl) (HF.ev rfl) HS.out 0 rfl (cells_lit [.slice qa3 p.d.fCells.length qc3, .slice qb3 p.d.fWaits.length qe3, .bool p.d.fGone] rfl rfl) (by kernel_rfl) ?_; clear HS; intro w6 HS; replace HS := Bx.mk HS
 have HS : Bx (St w0 ([boxA b4 3 94 (.agg #[.slice qa3 p.d.fCells.length qc3, .slice qb3 p.d.fWaits.length qe3, .bool p.d.fGone]), rowA encS 1 9 (.slice qa3 p.d.fCells.length qc3) p.d.fCells, rowA WaitD.cells 2 137 (.slice qb3 p.d.fWaits.length qe3) p.d.fWaits, boxA b2 3 94 (.agg #[.slice none 0 0, .slice none 0 0, .bool false]), boxA b1 3 94 (.agg #[.slice p.a0 p.d.fCells.length p.c0, .slice p.a1 p.d.fWaits.length p.c1, .bool p.d.fGone])]) _) := HS
 refine wl_ne ?_
 refine wp_seq ?_
 refine wp_sr ?_
 refine wl_y rfl HF rfl rfl (yl_fieldAddr (j := 2) rfl (HF.ev rfl) (by kernel_rfl)) ?_; clear HF a; intro a HF
 refine wl_y rfl HF rfl rfl (yl_load (v := .bool p.d.fGone) rfl (HF.ev rfl) (((HS.out.box 4 rfl).cell 2).trans rfl) (by kernel_rfl)) ?_; clear HF a; intro a HF
 refine wl_mv HF rfl rfl rfl rfl rfl ?_; clear HF a; intro a HF
 refine HF.cases 17 rfl (fun cc1 HF1 => ?_) (fun cc1 HF1 => ?_)
 ·clear HF; have HF := HF1; clear HF1
  have q1 : p.d.fGone = true := cc1
  refine wl_skip HF rfl rfl rfl rfl rfl rfl ?_; clear HF a; intro a HF
  refine wl_skip HF rfl rfl rfl rfl rfl rfl ?_; clear HF a; intro a HF
  refine wl_skip HF rfl rfl rfl rfl rfl rfl ?_; clear HF a; intro a HF
  refine wl_y rfl HF rfl rfl (yl_pick_t rfl (HF.ev rfl) (HF.ev rfl)) ?_; clear HF a; intro a HF
  refine wl_mv HF rfl rfl rfl rfl rfl ?_; clear HF a; intro a HF
  refine wl_skip HF rfl rfl rfl rfl rfl rfl ?_; clear HF a; intro a HF
  refine wl_skip HF rfl rfl rfl rfl rfl rfl ?_; clear HF a; intro a HF
  refine wl_skip HF rfl rfl rfl rfl rfl rfl ?_; clear HF a; intro a HF
  refine wl_y rfl HF rfl rfl (yl_pick_t rfl (HF.ev rfl) (HF.ev rfl)) ?_; clear HF a; intro a HF
  refine wl_mv HF rfl rfl rfl rfl rfl ?_; clear HF a; intro a HF
  refine wl_skip HF rfl rfl rfl rfl rfl rfl ?_; clear HF a; intro a HF
  refine wl_skip HF rfl rfl rfl rfl rfl rfl ?_; clear HF a; intro a HF
  refine wl_skip HF rfl rfl rfl rfl rfl rfl ?_; clear HF a; intro a HF
  refine wl_skip HF rfl rfl rfl rfl rfl rfl ?_; clear HF a; intro a HF
  refine wl_y rfl HF rfl rfl (yl_pick_t rfl (HF.ev rfl) (HF.ev rfl)) ?_; clear HF a; intro a HF
  refine wl_ne ?_
  refine wc_true HF rfl ?_
  refine wp_sr ?_
  refine wl_y rfl HF rfl rfl (yl_loadR (cs := [.slice qa3 p.d.fCells.length qc3, .slice qb3 p.d.fWaits.length qe3, .bool p.d.fGone]) rfl (HF.ev rfl) ((HS.out.box 0 rfl).sub 0 3) (by kernel_rfl)) ?_; clear HF a; intro a HF
  refine wl_storeBox rfl HF rfl rfl (HF.ev rfl) (HF.ev rfl) HS.out 3 rfl (cells_lit [.slice qa3 p.d.fCells.length qc3, .slice qb3 p.d.fWaits.length qe3, .bool p.d.fGone] rfl rfl) (by kernel_rfl) ?_; clear HS; intro w7 HS; replace HS := Bx.mk HS
  have HS : Bx (St w0 ([boxA b4 3 94 (.agg #[.slice qa3 p.d.fCells.length qc3, .slice qb3 p.d.fWaits.length qe3, .bool p.d.fGone]), rowA encS 1 9 (.slice qa3 p.d.fCells.length qc3) p.d.fCells, rowA WaitD.cells 2 137 (.slice qb3 p.d.fWaits.length qe3) p.d.fWaits, boxA b2 3 94 (.agg #[.slice qa3 p.d.fCells.length qc3, .slice qb3 p.d.fWaits.length qe3, .bool p.d.fGone]), boxA b1 3 94 (.agg #[.slice p.a0 p.d.fCells.length p.c0, .slice p.a1 p.d.fWaits.length p.c1, .bool p.d.fGone])]) _) := HS
  refine wl_as HF rfl rfl rfl rfl rfl ?_; clear HF a; intro a HF
  refine wl_ne ?_
  refine wp_ret ?_
  refine ex_then_ret ?_
  refine bp_ret2 HF Tryz.results78 (HF.resBox rfl (HS.out.box 3 rfl) (by kernel_rfl)) (HF.res rfl) ?_
  replace HS : Bx (St w0 ([rowA encS 1 9 (.slice qa3 p.d.fCells.length qc3) p.d.fCells, rowA WaitD.cells 2 137 (.slice qb3 p.d.fWaits.length qe3) p.d.fWaits, boxA b4 3 94 (.agg #[.slice qa3 p.d.fCells.length qc3, .slice qb3 p.d.fWaits.length qe3, .bool p.d.fGone]), boxA b2 3 94 (.agg #[.slice qa3 p.d.fCells.length qc3, .slice qb3 p.d.fWaits.length qe3, .bool p.d.fGone]), boxA b1 3 94 (.agg #[.slice p.a0 p.d.fCells.length p.c0, .slice p.a1 p.d.fWaits.length p.c1, .bool p.d.fGone])]) _) := ⟨((HS.out).pick 2 rfl).pick 2 rfl⟩
  exact .inl ⟨by unfold DiskD.can; rw [q1]; rfl, ⟨qa3, qc3, qb3, qe3, p.d⟩, rfl, (St.join (r := [_, _]) (s := [])).1 ((((HS.out.erase 4).erase 3).erase 2))⟩
 ·clear HF; have HF := HF1; clear HF1
  have q1 : p.d.fGone = false := cc1
  refine wl_yg HF rfl rfl rfl rfl rfl (yl_move rfl (HF.ev rfl)) ?_; clear HF a; intro a HF
  refine wl_callBg HF rfl rfl rfl rfl (enter_of Tryz.func119 (by kernel_rfl) rfl) (args := #[.int .i64 n]) rfl (v := .bool (inB n 0 63)) (isCell_any n _) rfl rfl HS.out ?_; clear HF HS a; intro w8 a HS HF; replace HS := Bx.mk HS
  refine wl_yg HF rfl rfl rfl rfl rfl (yl_not rfl (HF.ev rfl)) ?_; clear HF a; intro a HF
  refine wl_y rfl HF rfl rfl (yl_pick_f rfl (HF.ev rfl) (HF.ev rfl)) ?_; clear HF a; intro a HF
  refine wl_mv HF rfl rfl rfl rfl rfl ?_; clear HF a; intro a HF
  refine HF.cases 22 rfl (fun cc2 HF1 => ?_) (fun cc2 HF1 => ?_)
  ·clear HF; have HF := HF1; clear HF1
   have q2 : inB n 0 63 = false := by simpa using cc2
   refine wl_skip HF rfl rfl rfl rfl rfl rfl ?_; clear HF a; intro a HF
   refine wl_skip HF rfl rfl rfl rfl rfl rfl ?_; clear HF a; intro a HF
   refine wl_skip HF rfl rfl rfl rfl rfl rfl ?_; clear HF a; intro a HF
   refine wl_y rfl HF rfl rfl (yl_pick_t rfl (HF.ev rfl) (HF.ev rfl)) ?_; clear HF a; intro a HF
   refine wl_mv HF rfl rfl rfl rfl rfl ?_; clear HF a; intro a HF
   refine wl_skip HF rfl rfl rfl rfl rfl rfl ?_; clear HF a; intro a HF
   refine wl_skip HF rfl rfl rfl rfl rfl rfl ?_; clear HF a; intro a HF
   refine wl_skip HF rfl rfl rfl rfl rfl rfl ?_; clear HF a; intro a HF
   refine wl_skip HF rfl rfl rfl rfl rfl rfl ?_; clear HF a; intro a HF
   refine wl_y rfl HF rfl rfl (yl_pick_t rfl (HF.ev rfl) (HF.ev rfl)) ?_; clear HF a; intro a HF
   refine wl_ne ?_
   refine wc_true HF rfl ?_
   refine wp_sr ?_
   refine wl_y rfl HF rfl rfl (yl_loadR (cs := [.slice qa3 p.d.fCells.length qc3, .slice qb3 p.d.fWaits.length qe3, .bool p.d.fGone]) rfl (HF.ev rfl) ((HS.out.box 0 rfl).sub 0 3) (by kernel_rfl)) ?_; clear HF a; intro a HF
   refine wl_storeBox rfl HF rfl rfl (HF.ev rfl) (HF.ev rfl) HS.out 3 rfl (cells_lit [.slice qa3 p.d.fCells.length qc3, .slice qb3 p.d.fWaits.length qe3, .bool p.d.fGone] rfl rfl) (by kernel_rfl) ?_; clear HS; intro w9 HS; replace HS := Bx.mk HS
   have HS : Bx (St w0 ([boxA b4 3 94 (.agg #[.slice qa3 p.d.fCells.length qc3, .slice qb3 p.d.fWaits.length qe3, .bool p.d.fGone]), rowA encS 1 9 (.slice qa3 p.d.fCells.length qc3) p.d.fCells, rowA WaitD.cells 2 137 (.slice qb3 p.d.fWaits.length qe3) p.d.fWaits, boxA b2 3 94 (.agg #[.slice qa3 p.d.fCells.length qc3, .slice qb3 p.d.fWaits.length qe3, .bool p.d.fGone]), boxA b1 3 94 (.agg #[.slice p.a0 p.d.fCells.length p.c0, .slice p.a1 p.d.fWaits.length p.c1, .bool p.d.fGone])]) _) := HS
   refine wl_as HF rfl rfl rfl rfl rfl ?_; clear HF a; intro a HF
   refine wl_ne ?_
   refine wp_ret ?_
   refine ex_then_ret ?_
   refine bp_ret2 HF Tryz.results78 (HF.resBox rfl (HS.out.box 3 rfl) (by kernel_rfl)) (HF.res rfl) ?_
   replace HS : Bx (St w0 ([rowA encS 1 9 (.slice qa3 p.d.fCells.length qc3) p.d.fCells, rowA WaitD.cells 2 137 (.slice qb3 p.d.fWaits.length qe3) p.d.fWaits, boxA b4 3 94 (.agg #[.slice qa3 p.d.fCells.length qc3, .slice qb3 p.d.fWaits.length qe3, .bool p.d.fGone]), boxA b2 3 94 (.agg #[.slice qa3 p.d.fCells.length qc3, .slice qb3 p.d.fWaits.length qe3, .bool p.d.fGone]), boxA b1 3 94 (.agg #[.slice p.a0 p.d.fCells.length p.c0, .slice p.a1 p.d.fWaits.length p.c1, .bool p.d.fGone])]) _) := ⟨((HS.out).pick 2 rfl).pick 2 rfl⟩
   exact .inl ⟨by unfold DiskD.can; rw [q1, q2]; rfl, ⟨qa3, qc3, qb3, qe3, p.d⟩, rfl, (St.join (r := [_, _]) (s := [])).1 ((((HS.out.erase 4).erase 3).erase 2))⟩
  ·clear HF; have HF := HF1; clear HF1
   have q2 : inB n 0 63 = true := by simpa using cc2
   refine wl_yg HF rfl rfl rfl rfl rfl (yl_move rfl (HF.ev rfl)) ?_; clear HF a; intro a HF
   refine wl_yg HF rfl rfl rfl rfl rfl (yl_lenS rfl (HF.ev rfl) (by kernel_rfl)) ?_; clear HF a; intro a HF
   refine wl_yg HF rfl rfl rfl rfl rfl (yl_gtrI rfl (HF.ev rfl) (HF.ev rfl)) ?_; clear HF a; intro a HF
   refine wl_y rfl HF rfl rfl (yl_pick_f rfl (HF.ev rfl) (HF.ev rfl)) ?_; clear HF a; intro a HF
   refine wl_mv HF rfl rfl rfl rfl rfl ?_; clear HF a; intro a HF
   refine HF.cases 27 rfl (fun cc3 HF1 => ?_) (fun cc3 HF1 => ?_)
   ·clear HF; have HF := HF1; clear HF1
    have q3 : decide (t.size ≤ 200) = false := decide_eq_false (by have := of_decide_eq_true cc3; omega)
    refine wl_skip HF rfl rfl rfl rfl rfl rfl ?_; clear HF a; intro a HF
    refine wl_skip HF rfl rfl rfl rfl rfl rfl ?_; clear HF a; intro a HF
    refine wl_skip HF rfl rfl rfl rfl rfl rfl ?_; clear HF a; intro a HF
    refine wl_skip HF rfl rfl rfl rfl rfl rfl ?_; clear HF a; intro a HF
    refine wl_y rfl HF rfl rfl (yl_pick_t rfl (HF.ev rfl) (HF.ev rfl)) ?_; clear HF a; intro a HF
    refine wl_ne ?_
    refine wc_true HF rfl ?_
    refine wp_sr ?_
    refine wl_y rfl HF rfl rfl (yl_loadR (cs := [.slice qa3 p.d.fCells.length qc3, .slice qb3 p.d.fWaits.length qe3, .bool p.d.fGone]) rfl (HF.ev rfl) ((HS.out.box 0 rfl).sub 0 3) (by kernel_rfl)) ?_; clear HF a; intro a HF
    refine wl_storeBox rfl HF rfl rfl (HF.ev rfl) (HF.ev rfl) HS.out 3 rfl (cells_lit [.slice qa3 p.d.fCells.length qc3, .slice qb3 p.d.fWaits.length qe3, .bool p.d.fGone] rfl rfl) (by kernel_rfl) ?_; clear HS; intro w10 HS; replace HS := Bx.mk HS
    have HS : Bx (St w0 ([boxA b4 3 94 (.agg #[.slice qa3 p.d.fCells.length qc3, .slice qb3 p.d.fWaits.length qe3, .bool p.d.fGone]), rowA encS 1 9 (.slice qa3 p.d.fCells.length qc3) p.d.fCells, rowA WaitD.cells 2 137 (.slice qb3 p.d.fWaits.length qe3) p.d.fWaits, boxA b2 3 94 (.agg #[.slice qa3 p.d.fCells.length qc3, .slice qb3 p.d.fWaits.length qe3, .bool p.d.fGone]), boxA b1 3 94 (.agg #[.slice p.a0 p.d.fCells.length p.c0, .slice p.a1 p.d.fWaits.length p.c1, .bool p.d.fGone])]) _) := HS
    refine wl_as HF rfl rfl rfl rfl rfl ?_; clear HF a; intro a HF
    refine wl_ne ?_
    refine wp_ret ?_
    refine ex_then_ret ?_
    refine bp_ret2 HF Tryz.results78 (HF.resBox rfl (HS.out.box 3 rfl) (by kernel_rfl)) (HF.res rfl) ?_
    replace HS : Bx (St w0 ([rowA encS 1 9 (.slice qa3 p.d.fCells.length qc3) p.d.fCells, rowA WaitD.cells 2 137 (.slice qb3 p.d.fWaits.length qe3) p.d.fWaits, boxA b4 3 94 (.agg #[.slice qa3 p.d.fCells.length qc3, .slice qb3 p.d.fWaits.length qe3, .bool p.d.fGone]), boxA b2 3 94 (.agg #[.slice qa3 p.d.fCells.length qc3, .slice qb3 p.d.fWaits.length qe3, .bool p.d.fGone]), boxA b1 3 94 (.agg #[.slice p.a0 p.d.fCells.length p.c0, .slice p.a1 p.d.fWaits.length p.c1, .bool p.d.fGone])]) _) := ⟨((HS.out).pick 2 rfl).pick 2 rfl⟩
    exact .inl ⟨by unfold DiskD.can; rw [q1, q2, q3]; rfl, ⟨qa3, qc3, qb3, qe3, p.d⟩, rfl, (St.join (r := [_, _]) (s := [])).1 ((((HS.out.erase 4).erase 3).erase 2))⟩
   ·clear HF; have HF := HF1; clear HF1
    have q3 : decide (t.size ≤ 200) = true := decide_eq_true (by have := of_decide_eq_false cc3; omega)
    refine wl_yg HF rfl rfl rfl rfl rfl (yl_fieldAddr (j := 1) rfl (HF.ev rfl) (by kernel_rfl)) ?_; clear HF a; intro a HF
    refine wl_yg HF rfl rfl rfl rfl rfl (yl_load (v := .slice p.a1 p.d.fWaits.length p.c1) rfl (HF.ev rfl) (((HS.out.box 4 rfl).cell 1).trans rfl) (by kernel_rfl)) ?_; clear HF a; intro a HF
    refine wl_yg HF rfl rfl rfl rfl rfl (yl_lenL (e := 137) (size := 2) rfl (HF.ev rfl) (by kernel_rfl)) ?_; clear HF a; intro a HF
    refine wl_yg HF rfl rfl rfl rfl rfl (yl_eqlI rfl (HF.ev rfl) (HF.ev rfl)) ?_; clear HF a; intro a HF
    refine wl_y rfl HF rfl rfl (yl_pick_f rfl (HF.ev rfl) (HF.ev rfl)) ?_; clear HF a; intro a HF
    refine wl_ne ?_
    refine HF.cases 32 rfl (fun cc4 HF1 => ?_) (fun cc4 HF1 => ?_)
    ·clear HF; have HF := HF1; clear HF1
     have q4 : decide (p.d.fWaits.length < 120) = false := decide_eq_false (by have := eq_of_beq cc4; omega)
     refine wc_true HF rfl ?_
     refine wp_sr ?_
     refine wl_y rfl HF rfl rfl (yl_loadR (cs := [.slice qa3 p.d.fCells.length qc3, .slice qb3 p.d.fWaits.length qe3, .bool p.d.fGone]) rfl (HF.ev rfl) ((HS.out.box 0 rfl).sub 0 3) (by kernel_rfl)) ?_; clear HF a; intro a HF
     refine wl_storeBox rfl HF rfl rfl (HF.ev rfl) (HF.ev rfl) HS.out 3 rfl (cells_lit [.slice qa3 p.d.fCells.length qc3, .slice qb3 p.d.fWaits.length qe3, .bool p.d.fGone] rfl rfl) (by kernel_rfl) ?_; clear HS; intro w11 HS; replace HS := Bx.mk HS
     have HS : Bx (St w0 ([boxA b4 3 94 (.agg #[.slice qa3 p.d.fCells.length qc3, .slice qb3 p.d.fWaits.length qe3, .bool p.d.fGone]), rowA encS 1 9 (.slice qa3 p.d.fCells.length qc3) p.d.fCells, rowA WaitD.cells 2 137 (.slice qb3 p.d.fWaits.length qe3) p.d.fWaits, boxA b2 3 94 (.agg #[.slice qa3 p.d.fCells.length qc3, .slice qb3 p.d.fWaits.length qe3, .bool p.d.fGone]), boxA b1 3 94 (.agg #[.slice p.a0 p.d.fCells.length p.c0, .slice p.a1 p.d.fWaits.length p.c1, .bool p.d.fGone])]) _) := HS
     refine wl_as HF rfl rfl rfl rfl rfl ?_; clear HF a; intro a HF
     refine wl_ne ?_
     refine wp_ret ?_
     refine ex_then_ret ?_
     refine bp_ret2 HF Tryz.results78 (HF.resBox rfl (HS.out.box 3 rfl) (by kernel_rfl)) (HF.res rfl) ?_
     replace HS : Bx (St w0 ([rowA encS 1 9 (.slice qa3 p.d.fCells.length qc3) p.d.fCells, rowA WaitD.cells 2 137 (.slice qb3 p.d.fWaits.length qe3) p.d.fWaits, boxA b4 3 94 (.agg #[.slice qa3 p.d.fCells.length qc3, .slice qb3 p.d.fWaits.length qe3, .bool p.d.fGone]), boxA b2 3 94 (.agg #[.slice qa3 p.d.fCells.length qc3, .slice qb3 p.d.fWaits.length qe3, .bool p.d.fGone]), boxA b1 3 94 (.agg #[.slice p.a0 p.d.fCells.length p.c0, .slice p.a1 p.d.fWaits.length p.c1, .bool p.d.fGone])]) _) := ⟨((HS.out).pick 2 rfl).pick 2 rfl⟩
     exact .inl ⟨by unfold DiskD.can; rw [q1, q2, q3, q4]; rfl, ⟨qa3, qc3, qb3, qe3, p.d⟩, rfl, (St.join (r := [_, _]) (s := [])).1 ((((HS.out.erase 4).erase 3).erase 2))⟩
    ·clear HF; have HF := HF1; clear HF1
     have q4 : decide (p.d.fWaits.length < 120) = true := decide_eq_true (by have := ne_of_beq_false cc4; omega)
     refine wc_false HF rfl ?_
     refine wp_skip ?_
     refine ex_then ?_
     refine wp_sr ?_
     refine wl_y rfl HF rfl rfl (yl_fieldAddr (j := 1) rfl (HF.ev rfl) (by kernel_rfl)) ?_; clear HF a; intro a HF
     refine wl_y rfl HF rfl rfl (yl_load (v := .slice qb3 p.d.fWaits.length qe3) rfl (HF.ev rfl) (((HS.out.box 0 rfl).cell 1).trans rfl) (by kernel_rfl)) ?_; clear HF a; intro a HF
     refine wl_mv HF rfl rfl rfl rfl rfl ?_; clear HF a; intro a HF
     refine wl_mv HF rfl rfl rfl rfl rfl ?_; clear HF a; intro a HF
     refine wl_y rfl HF rfl rfl (yl_build HF rfl (ps := [(0, .int .i64 n), (1, .string t)]) rfl (cs := #[.int .i64 n, .string t]) (by kernel_rfl)) ?_; clear HF a; intro a HF
     refine wl_buildS (enc := WaitD.cells) (e := 137) (size := 2) rfl HF rfl rfl rfl (ps := [(0, .agg #[.int .i64 n, .string t])]) rfl (cells := [.int .i64 n, .string t]) (by kernel_rfl) [(⟨n, t⟩ : WaitD)] rfl rfl (by unfold maxLen; omega) rfl HS.out ?_; clear HF HS a; intro b5 a w12 HF HS; replace HS := Bx.mk HS
     refine wl_appL rfl HF rfl rfl rfl (HF.ev rfl) (HF.ev rfl) elemW WaitD.cells_len HS.out 3 (xs := p.d.fWaits) rfl (ys := [(⟨n, t⟩ : WaitD)]) (St.rdN HS.out WaitD.cells_len 0 rfl) (cells_one_W _) (by unfold maxLen; simp only [List.length_cons, List.length_nil]; omega) (by simp only [List.length_cons, List.length_nil]; omega) ?_; clear HF HS a; intro ao6 cp7 w13 a HF HS; replace HS := Bx.mk HS
     replace HS : Bx (St w0 ([rowA WaitD.cells 2 137 (.slice (some ⟨b5, 0, none⟩) 1 1) ([(⟨n, t⟩ : WaitD)]), boxA b4 3 94 (.agg #[.slice qa3 p.d.fCells.length qc3, .slice qb3 p.d.fWaits.length qe3, .bool p.d.fGone]), rowA encS 1 9 (.slice qa3 p.d.fCells.length qc3) p.d.fCells, rowA WaitD.cells 2 137 (.slice ao6 (p.d.fWaits.length + ([(⟨n, t⟩ : WaitD)]).length) cp7) (p.d.fWaits ++ ([(⟨n, t⟩ : WaitD)])), boxA b2 3 94 (.agg #[.slice none 0 0, .slice none 0 0, .bool false]), boxA b1 3 94 (.agg #[.slice p.a0 p.d.fCells.length p.c0, .slice p.a1 p.d.fWaits.length p.c1, .bool p.d.fGone])]) _) := ⟨HS.out⟩
     refine wl_y rfl HF rfl rfl (yl_fieldAddr (j := 1) rfl (HF.ev rfl) (by kernel_rfl)) ?_; clear HF a; intro a HF
     refine wl_storeF rfl rfl rfl (HF.ev rfl) (HF.ev rfl) (by kernel_rfl) HS.out 1 rfl rfl rfl ?_; clear HS; intro w14 HS; replace HS := Bx.mk HS
     have HS : Bx (St w0 ([rowA WaitD.cells 2 137 (.slice (some ⟨b5, 0, none⟩) 1 1) ([(⟨n, t⟩ : WaitD)]), boxA b4 3 94 (.agg #[.slice qa3 p.d.fCells.length qc3, .slice ao6 (p.d.fWaits.length + ([(⟨n, t⟩ : WaitD)]).length) cp7, .bool p.d.fGone]), rowA encS 1 9 (.slice qa3 p.d.fCells.length qc3) p.d.fCells, rowA WaitD.cells 2 137 (.slice ao6 (p.d.fWaits.length + ([(⟨n, t⟩ : WaitD)]).length) cp7) (p.d.fWaits ++ ([(⟨n, t⟩ : WaitD)])), boxA b2 3 94 (.agg #[.slice none 0 0, .slice none 0 0, .bool false]), boxA b1 3 94 (.agg #[.slice p.a0 p.d.fCells.length p.c0, .slice p.a1 p.d.fWaits.length p.c1, .bool p.d.fGone])]) _) := HS
     refine wl_ne ?_
     refine wp_sr ?_
     refine wl_y rfl HF rfl rfl (yl_loadR (cs := [.slice qa3 p.d.fCells.length qc3, .slice ao6 (p.d.fWaits.length + ([(⟨n, t⟩ : WaitD)]).length) cp7, .bool p.d.fGone]) rfl (HF.ev rfl) ((HS.out.box 1 rfl).sub 0 3) (by kernel_rfl)) ?_; clear HF a; intro a HF
     refine wl_storeBox rfl HF rfl rfl (HF.ev rfl) (HF.ev rfl) HS.out 4 rfl (cells_lit [.slice qa3 p.d.fCells.length qc3, .slice ao6 (p.d.fWaits.length + ([(⟨n, t⟩ : WaitD)]).length) cp7, .bool p.d.fGone] rfl rfl) (by kernel_rfl) ?_; clear HS; intro w15 HS; replace HS := Bx.mk HS
     have HS : Bx (St w0 ([rowA WaitD.cells 2 137 (.slice (some ⟨b5, 0, none⟩) 1 1) ([(⟨n, t⟩ : WaitD)]), boxA b4 3 94 (.agg #[.slice qa3 p.d.fCells.length qc3, .slice ao6 (p.d.fWaits.length + ([(⟨n, t⟩ : WaitD)]).length) cp7, .bool p.d.fGone]), rowA encS 1 9 (.slice qa3 p.d.fCells.length qc3) p.d.fCells, rowA WaitD.cells 2 137 (.slice ao6 (p.d.fWaits.length + ([(⟨n, t⟩ : WaitD)]).length) cp7) (p.d.fWaits ++ ([(⟨n, t⟩ : WaitD)])), boxA b2 3 94 (.agg #[.slice qa3 p.d.fCells.length qc3, .slice ao6 (p.d.fWaits.length + ([(⟨n, t⟩ : WaitD)]).length) cp7, .bool p.d.fGone]), boxA b1 3 94 (.agg #[.slice p.a0 p.d.fCells.length p.c0, .slice p.a1 p.d.fWaits.length p.c1, .bool p.d.fGone])]) _) := HS
     refine wl_as HF rfl rfl rfl rfl rfl ?_; clear HF a; intro a HF
     refine wl_ne ?_
     refine wp_ret ?_
     refine bp_ret2 HF Tryz.results78 (HF.resBox rfl (HS.out.box 4 rfl) (by kernel_rfl)) (HF.res rfl) ?_
     replace HS : Bx (St w0 ([rowA encS 1 9 (.slice qa3 p.d.fCells.length qc3) p.d.fCells, rowA WaitD.cells 2 137 (.slice ao6 (p.d.fWaits.length + ([(⟨n, t⟩ : WaitD)]).length) cp7) (p.d.fWaits ++ ([(⟨n, t⟩ : WaitD)])), rowA WaitD.cells 2 137 (.slice (some ⟨b5, 0, none⟩) 1 1) ([(⟨n, t⟩ : WaitD)]), boxA b4 3 94 (.agg #[.slice qa3 p.d.fCells.length qc3, .slice ao6 (p.d.fWaits.length + ([(⟨n, t⟩ : WaitD)]).length) cp7, .bool p.d.fGone]), boxA b2 3 94 (.agg #[.slice qa3 p.d.fCells.length qc3, .slice ao6 (p.d.fWaits.length + ([(⟨n, t⟩ : WaitD)]).length) cp7, .bool p.d.fGone]), boxA b1 3 94 (.agg #[.slice p.a0 p.d.fCells.length p.c0, .slice p.a1 p.d.fWaits.length p.c1, .bool p.d.fGone])]) _) := ⟨((HS.out).pick 3 rfl).pick 3 rfl⟩
     have hz : p.d.fWaits.length + [(⟨n, t⟩ : WaitD)].length = (p.d.fWaits ++ [(⟨n, t⟩ : WaitD)]).length := (List.length_append ..).symm
     have HT := ((((HS.out.erase 5).erase 4).erase 3).erase 2)
     rw [hz] at HT ⊢
     exact .inr ⟨by unfold DiskD.can; rw [q1, q2, q3, q4]; rfl, ⟨qa3, qc3, ao6, cp7, p.d.putD n t⟩, rfl, rfl, (St.join (r := [_, _]) (s := [])).1 HT⟩

theorem l4Copy_any (a0 : Option Addr) (c0 : Nat) (ps : List HD) (w0 : World) (hl : ps.length ≤ 1048576) (hf : ∀ k, (ps.getD k default).d.fits) (hR : Rd HD.cells 3 w0 a0 ps.length ps) (hP : ∀ k, k < ps.length → (ps.getD k default).reads w0) : Calls Tryz.prog 31 #[.agg #[.slice a0 ps.length c0]] w0 fun e w' => ∃ ao cp qs, e = .returned (.agg #[.slice ao qs.length cp]) ∧ dsOf qs = dsOf ps ∧ St w0 [rowA HD.cells 3 94 (.slice ao qs.length cp) qs, sepA (qs.map HD.asr)] w' := by
 have HR := Bx.mk hR; have HP := Bx.mk hP; clear hR hP
 have HS := Bx.mk (St.start w0)
 refine wc_enter Tryz.func31 rfl Tryz.ntmps31 [(0, .agg #[.slice a0 ps.length c0])] ⟨rfl, trivial⟩ rfl ?_; intro a HF
 refine wp_sr ?_
 refine wl_box rfl HF rfl (HF.ev rfl) (Z := [.slice a0 ps.length c0]) rfl rfl rfl rfl HS.out ?_; clear HF HS a; intro a w1 b1 HF HS; replace HS := Bx.mk HS
 refine wl_alloc rfl HF rfl rfl rfl (Z := [.slice none 0 0]) (by kernel_rfl) rfl HS.out ?_; clear HF HS a; intro a w2 b2 HF HS; replace HS := Bx.mk HS
 refine wl_ne ?_
 refine wp_sr ?_
 refine wl_empty (e := 94) (size := 3) rfl HF rfl rfl rfl (by kernel_rfl) HS.out ?_; clear HF HS a; intro a w3 b3 HF HS; replace HS := Bx.mk HS
 refine wl_y rfl HF rfl rfl (yl_build HF rfl (ps := [(0, .slice (some ⟨b3, 0, none⟩) 0 0)]) rfl (cs := #[.slice (some ⟨b3, 0, none⟩) 0 0]) (by kernel_rfl)) ?_; clear HF a; intro a HF
 refine wl_alloc rfl HF rfl rfl rfl (Z := [.slice none 0 0]) (by kernel_rfl) rfl HS.out ?_; clear HF HS a; intro a w4 b4 HF HS; replace HS := Bx.mk HS
 refine wl_storeBox rfl HF rfl rfl (HF.ev rfl) (HF.ev rfl) HS.out 0 rfl (cells_lit [.slice (some ⟨b3, 0, none⟩) 0 0] rfl rfl) (by kernel_rfl) ?_; clear HS; intro w5 HS; replace HS := Bx.mk HS
 have HS : Bx (St w0 ([boxA b4 1 34 (.agg #[.slice (some ⟨b3, 0, none⟩) 0 0]), boxA b2 1 34 (.agg #[.slice none 0 0]), boxA b1 1 34 (.agg #[.slice a0 ps.length c0])]) _) := HS
 refine wl_ne ?_
 refine wp_seq ?_
 refine wp_sr ?_
 refine wl_as HF rfl rfl rfl rfl rfl ?_; clear HF a; intro a HF
 refine wl_ne ?_
 refine wp_block ?_
 replace HS := Bx.mk ((HS.out.hdNil).nilRow HD.cells 3 94 (some ⟨b3, 0, none⟩))
 refine wc_loop (ι := Nat) (fun k a w => ∃ (ao : Option Addr) (cp : Nat) (qs : List HD), (k ≤ ps.length ∧ qs.length = k ∧ dsOf qs = dsOf (ps.take k)) ∧ Fr 26 a [(1, .pointer (some ⟨b1, 0, none⟩)), (2, .pointer (some ⟨b2, 0, none⟩)), (3, .pointer (some ⟨b4, 0, none⟩)), (4, .int .i64 (k : Int))] ∧ St w0 ([rowA HD.cells 3 94 (.slice ao qs.length cp) qs, sepA (qs.map HD.asr), boxA b4 1 34 (.agg #[.slice ao qs.length cp]), boxA b2 1 34 (.agg #[.slice none 0 0]), boxA b1 1 34 (.agg #[.slice a0 ps.length c0])]) w) (fun k => ps.length - k) 0 ⟨_, _, [], ⟨Nat.zero_le _, rfl, rfl⟩, HF.less _ ⟨rfl, rfl, rfl, rfl, trivial⟩, HS.out⟩ ?_
 clear HF HS; clear a
 rintro k a w6 ⟨ao, cp, qs, ⟨hk, hql, hq⟩, HF, HS⟩
 replace HS := Bx.mk HS
 refine wp_seq ?_
 refine wp_sr ?_
 refine wl_mv HF rfl rfl rfl rfl rfl ?_; clear HF a; intro a HF
 refine wl_y rfl HF rfl rfl (yl_fieldAddr (j := 0) rfl (HF.ev rfl) (by kernel_rfl)) ?_; clear HF a; intro a HF
 refine wl_y rfl HF rfl rfl (yl_load (v := .slice a0 ps.length c0) rfl (HF.ev rfl) (((HS.out.box 4 rfl).cell 0).trans rfl) (by kernel_rfl)) ?_; clear HF a; intro a HF
 refine wl_y rfl HF rfl rfl (yl_lenL (e := 94) (size := 3) rfl (HF.ev rfl) (by kernel_rfl)) ?_; clear HF a; intro a HF
 refine wl_y rfl HF rfl rfl (yl_lssI rfl (HF.ev rfl) (HF.ev rfl)) ?_; clear HF a; intro a HF
 refine wl_ne ?_
 refine HF.cases 11 rfl (fun cc1 HF1 => ?_) (fun cc1 HF1 => ?_)
 ·clear HF; have HF := HF1; clear HF1
  have dcc1 := of_decide_eq_true cc1
  refine wc_true HF rfl ?_
  refine wp_skip ?_
  refine ex_then ?_
  refine wp_seq ?_
  refine wp_block ?_
  obtain ⟨g0, o0, r0⟩ := HR.out.opn; have R0 := Bx.mk r0; clear r0
  refine wr_marked (W := w0) (s := [sepA (qs.map HD.asr), boxA b4 1 34 (.agg #[.slice ao qs.length cp]), boxA b2 1 34 (.agg #[.slice none 0 0]), boxA b1 1 34 (.agg #[.slice a0 ps.length c0])]) 11 (by kernel_rfl) ?_
  have HS2 := Bx.mk HS.out.drew; replace HS := Bx.mk (show St w0 ([sepA (qs.map HD.asr), boxA b4 1 34 (.agg #[.slice ao qs.length cp]), boxA b2 1 34 (.agg #[.slice none 0 0]), boxA b1 1 34 (.agg #[.slice a0 ps.length c0])]) _ from (HS.out.drew.erase 0)); generalize World.drew _ = w7 at HS HS2 ⊢
  refine wm_t 0 rfl (by kernel_rfl) (by kernel_rfl) (by kernel_rfl) (fun _ _ _ h => h) (by decide) rfl HF rfl rfl (fun _ _ => (yl_fieldAddr (j := 0) rfl (HF.ev rfl) (by kernel_rfl))) (fun _ => HS.out) ?_; clear HF a; intro a HF
  refine wm_y 1 rfl (by kernel_rfl) (by kernel_rfl) (by kernel_rfl) (fun _ _ _ h => h) (by decide) (by kernel_rfl) (by kernel_rfl) rfl HF rfl rfl (fun _ HS => (yl_load (v := .slice ao qs.length cp) rfl (HF.ev rfl) (((HS.box 1 rfl).cell 0).trans rfl) (by kernel_rfl))) HS.out ?_; clear HF a; intro a HF
  refine wm_t 2 rfl (by kernel_rfl) (by kernel_rfl) (by kernel_rfl) (fun _ _ _ h => h) (by decide) rfl HF rfl rfl (fun _ _ => (yl_fieldAddr (j := 0) rfl (HF.ev rfl) (by kernel_rfl))) (fun _ => HS.out) ?_; clear HF a; intro a HF
  refine wm_y 3 rfl (by kernel_rfl) (by kernel_rfl) (by kernel_rfl) (fun _ _ _ h => h) (by decide) (by kernel_rfl) (by kernel_rfl) rfl HF rfl rfl (fun _ HS => (yl_load (v := .slice a0 ps.length c0) rfl (HF.ev rfl) (((HS.box 3 rfl).cell 0).trans rfl) (by kernel_rfl))) HS.out ?_; clear HF a; intro a HF
  refine wm_t 4 rfl (by kernel_rfl) (by kernel_rfl) (by kernel_rfl) (fun _ _ _ h => h) (by decide) rfl HF rfl rfl (fun _ _ => (yl_move rfl (HF.ev rfl))) (fun _ => HS.out) ?_; clear HF a; intro a HF
  refine wm_y 5 rfl (by kernel_rfl) (by kernel_rfl) (by kernel_rfl) (fun _ _ _ h => h) (by decide) (by kernel_rfl) (by kernel_rfl) rfl HF rfl rfl (fun _ HS => (yl_indexAddrR (e := 94) (i := k) (size := 3) rfl (HF.ev rfl) (HF.ev rfl) (by kernel_rfl) rfl (by omega) (R0.out.ao k (by omega)))) HS.out ?_; clear HF a; intro a HF
  refine wm_y 6 rfl (by kernel_rfl) (by kernel_rfl) (by kernel_rfl) (fun _ _ _ h => h) (by decide) (by kernel_rfl) (by kernel_rfl) rfl HF rfl rfl (fun _ HS => (yl_loadR (cs := [.slice ((ps.getD k default).a0) ((ps.getD k default).d.fCells.length) ((ps.getD k default).c0), .slice ((ps.getD k default).a1) ((ps.getD k default).d.fWaits.length) ((ps.getD k default).c1), .bool ((ps.getD k default).d.fGone)]) rfl (HF.ev rfl) (R0.out.elem HS (get_getD (xs := ps) (j := k) (d := default) (by omega))) (by kernel_rfl))) HS.out ?_; clear HF a; intro a HF
  refine wm_one 7 (by kernel_rfl) ?_
  refine wo_call rfl rfl HF rfl (enter_of Tryz.func64 (by kernel_rfl) rfl) (args := #[.agg #[.slice ((ps.getD k default).a0) ((ps.getD k default).d.fCells.length) ((ps.getD k default).c0), .slice ((ps.getD k default).a1) ((ps.getD k default).d.fWaits.length) ((ps.getD k default).c1), .bool ((ps.getD k default).d.fGone)]]) rfl (l3CopyH_any (ps.getD k default) _ ((HP.out k (by omega)).below HS2.out.bel) (hf k)) rfl rfl ?_
  rintro _ w8 ⟨⟨qa5, qc5, qb5, qe5, qd⟩, hqd, rfl, hs⟩; obtain rfl : qd = (ps.getD k default).d := hqd; refine ⟨_, rfl, ?_⟩
  replace HS := Bx.mk (HS.out.later hs.bel)
  replace HS2 := Bx.mk ((HS2.out.add hs)); clear hs HF; clear a; intro a HF
  replace HS2 : Bx (St w0 ([HD.asr ⟨qa5, qc5, qb5, qe5, (ps.getD k default).d⟩, rowA HD.cells 3 94 (.slice ao qs.length cp) qs, sepA (qs.map HD.asr), boxA b4 1 34 (.agg #[.slice ao qs.length cp]), boxA b2 1 34 (.agg #[.slice none 0 0]), boxA b1 1 34 (.agg #[.slice a0 ps.length c0])]) _) := ⟨HS2.out⟩
  refine ⟨fun _ => HS.out, ?_⟩
  refine wm_one 8 (by kernel_rfl) ?_
  refine wo_buildS (enc := HD.cells) (e := 94) (size := 3) rfl rfl HF rfl rfl rfl (ps := [(0, .agg #[.slice qa5 ((ps.getD k default).d.fCells.length) qc5, .slice qb5 ((ps.getD k default).d.fWaits.length) qe5, .bool ((ps.getD k default).d.fGone)])]) rfl (cells := [.slice qa5 ((ps.getD k default).d.fCells.length) qc5, .slice qb5 ((ps.getD k default).d.fWaits.length) qe5, .bool ((ps.getD k default).d.fGone)]) (by kernel_rfl) [(⟨qa5, qc5, qb5, qe5, (ps.getD k default).d⟩ : HD)] rfl rfl (by unfold maxLen; omega) rfl HS2.out HS.out ?_; clear HF HS HS2 a; intro b6 a w9 HF HS2 HS; replace HS := Bx.mk HS; replace HS2 := Bx.mk HS2; refine ⟨fun _ => HS.out, ?_⟩
  refine wm_one 9 (by kernel_rfl) ?_
  refine wo_appL rfl rfl HF rfl rfl rfl (HF.ev rfl) (HF.ev rfl) elemD HD.cells_len HS2.out 2 (xs := qs) rfl (ys := [(⟨qa5, qc5, qb5, qe5, (ps.getD k default).d⟩ : HD)]) (St.rdN HS2.out HD.cells_len 0 rfl) (cells_one_D _) (by unfold maxLen; simp only [List.length_cons, List.length_nil]; omega) (by simp only [List.length_cons, List.length_nil]; omega) ?_; clear HF HS HS2 a; intro ao7 cp8 w10 a HF HS2; replace HS2 := Bx.mk HS2
  replace HS2 : Bx (St w0 ([rowA HD.cells 3 94 (.slice (some ⟨b6, 0, none⟩) 1 1) ([(⟨qa5, qc5, qb5, qe5, (ps.getD k default).d⟩ : HD)]), HD.asr ⟨qa5, qc5, qb5, qe5, (ps.getD k default).d⟩, rowA HD.cells 3 94 (.slice ao7 (qs.length + ([(⟨qa5, qc5, qb5, qe5, (ps.getD k default).d⟩ : HD)]).length) cp8) (qs ++ ([(⟨qa5, qc5, qb5, qe5, (ps.getD k default).d⟩ : HD)])), sepA (qs.map HD.asr), boxA b4 1 34 (.agg #[.slice ao qs.length cp]), boxA b2 1 34 (.agg #[.slice none 0 0]), boxA b1 1 34 (.agg #[.slice a0 ps.length c0])]) _) := ⟨HS2.out⟩
  have HS : Bx (St w0 ([sepA (qs.map HD.asr), boxA b4 1 34 (.agg #[.slice ao qs.length cp]), boxA b2 1 34 (.agg #[.slice none 0 0]), boxA b1 1 34 (.agg #[.slice a0 ps.length c0])]) _) := ⟨(((HS2.out.erase 2).erase 1).erase 0)⟩
  refine ⟨fun _ => HS.out, ?_⟩
  refine wm_t 10 rfl (by kernel_rfl) (by kernel_rfl) (by kernel_rfl) (fun _ _ _ h => h) (by decide) rfl HF rfl rfl (fun _ _ => (yl_fieldAddr (j := 0) rfl (HF.ev rfl) (by kernel_rfl))) (fun _ => HS.out) ?_; clear HF a; intro a HF
  refine wm_one 11 (by kernel_rfl) ?_
  refine wo_storeF rfl rfl rfl rfl (HF.ev rfl) (HF.ev rfl) (by kernel_rfl) HS2.out 4 rfl rfl rfl ?_
  clear HS2; intro w11 HS2; replace HS2 : Bx (St w0 ([rowA HD.cells 3 94 (.slice (some ⟨b6, 0, none⟩) 1 1) ([(⟨qa5, qc5, qb5, qe5, (ps.getD k default).d⟩ : HD)]), HD.asr ⟨qa5, qc5, qb5, qe5, (ps.getD k default).d⟩, rowA HD.cells 3 94 (.slice ao7 (qs.length + ([(⟨qa5, qc5, qb5, qe5, (ps.getD k default).d⟩ : HD)]).length) cp8) (qs ++ ([(⟨qa5, qc5, qb5, qe5, (ps.getD k default).d⟩ : HD)])), sepA (qs.map HD.asr), boxA b4 1 34 (.agg #[.slice ao7 (qs.length + ([(⟨qa5, qc5, qb5, qe5, (ps.getD k default).d⟩ : HD)]).length) cp8]), boxA b2 1 34 (.agg #[.slice none 0 0]), boxA b1 1 34 (.agg #[.slice a0 ps.length c0])]) _) := ⟨HS2⟩; refine ⟨(fun h => absurd (show true = false from h) (by decide)), ?_⟩
  refine wm_done (by kernel_rfl) ?_
  clear HS; have HS := HS2; clear HS2
  refine ex_block ?_
  refine ex_then ?_
  refine wp_region_lit ?_
  refine wl_mv HF rfl rfl rfl rfl rfl ?_; clear HF a; intro a HF
  refine wl_y rfl HF rfl rfl (yl_addI rfl (HF.ev rfl) (HF.ev rfl) (i64w (by omega))) ?_; clear HF a; intro a HF
  refine wl_as HF rfl rfl rfl rfl rfl ?_; clear HF a; intro a HF
  refine wl_ne ?_
  have hz : qs.length + [(⟨qa5, qc5, qb5, qe5, (ps.getD k default).d⟩ : HD)].length = (qs ++ [(⟨qa5, qc5, qb5, qe5, (ps.getD k default).d⟩ : HD)]).length := (List.length_append ..).symm
  rw [hz] at HS
  replace HS := Bx.mk (St.hdSnoc (((HS.out).pick 3 rfl).pick 2 rfl))
  replace HS := Bx.mk ((((((((HS.out).pick 5 rfl).pick 5 rfl).pick 5 rfl).pick 3 rfl).pick 5 rfl).erase 5))
  have hnext : dsOf (qs ++ [(⟨qa5, qc5, qb5, qe5, (ps.getD k default).d⟩ : HD)]) = dsOf (ps.take (k + 1)) := by rw [dsOf_append, hq, dsOf_take_succ ps k (by omega)]; rfl
  exact ⟨k + 1, ⟨_, _, qs ++ [(⟨qa5, qc5, qb5, qe5, (ps.getD k default).d⟩ : HD)], ⟨by omega, by rw [List.length_append]; show qs.length + 1 = k + 1; omega, hnext⟩, HF.less _ ⟨rfl, rfl, rfl, rfl, trivial⟩, HS.out⟩, (by omega)⟩
 ·clear HF; have HF := HF1; clear HF1
  have dcc1 := of_decide_eq_false cc1
  refine wc_false HF rfl ?_
  refine wp_exit ?_
  refine ex_then_exit ?_
  refine ex_then_exit ?_
  refine ex_block_hit ?_
  refine ex_then ?_
  refine wp_sr ?_
  refine wl_y rfl HF rfl rfl (yl_loadR (cs := [.slice ao qs.length cp]) rfl (HF.ev rfl) ((HS.out.box 2 rfl).sub 0 1) (by kernel_rfl)) ?_; clear HF a; intro a HF
  refine wl_storeBox rfl HF rfl rfl (HF.ev rfl) (HF.ev rfl) HS.out 3 rfl (cells_lit [.slice ao qs.length cp] rfl rfl) (by kernel_rfl) ?_; clear HS; intro w12 HS; replace HS := Bx.mk HS
  have HS : Bx (St w0 ([rowA HD.cells 3 94 (.slice ao qs.length cp) qs, sepA (qs.map HD.asr), boxA b4 1 34 (.agg #[.slice ao qs.length cp]), boxA b2 1 34 (.agg #[.slice ao qs.length cp]), boxA b1 1 34 (.agg #[.slice a0 ps.length c0])]) _) := HS
  refine wl_ne ?_
  refine wp_ret ?_
  refine bp_ret1 HF Tryz.results31 (HF.resBox rfl (HS.out.box 3 rfl) (by kernel_rfl)) ?_
  replace HS : Bx (St w0 ([rowA HD.cells 3 94 (.slice ao qs.length cp) qs, sepA (qs.map HD.asr), boxA b4 1 34 (.agg #[.slice ao qs.length cp]), boxA b2 1 34 (.agg #[.slice ao qs.length cp]), boxA b1 1 34 (.agg #[.slice a0 ps.length c0])]) _) := ⟨((HS.out).pick 1 rfl).pick 1 rfl⟩
  obtain rfl : k = ps.length := by omega
  rw [List.take_length] at hq
  exact ⟨_, _, qs, rfl, hq, (((HS.out.erase 4).erase 3).erase 2)⟩

end Go.Proofs.YtoaopmkbfifhaaaGreatDoor

/- markText: a text for each number. -/
namespace Go.Proofs.YtoaopmkbfifhaaaGreatDoor
set_option linter.unusedVariables false
set_option linter.unusedSimpArgs false
set_option maxHeartbeats 1000000
set_option maxRecDepth 100000
open Go.RowKit

/-- The decimal digits of a number, ahead of some bytes. -/
def decs (n : Nat) (acc : List UInt8) : List UInt8 := if n = 0 then acc else decs (n / 10) ((48 + UInt8.ofNat (n % 10)) :: acc)
termination_by n
decreasing_by omega
def markT (k : Int) : ByteArray := ⟨(109 :: decs k.toNat []).toArray⟩
theorem decs_pos {n : Nat} (h : 0 < n) (acc : List UInt8) : decs n acc = decs (n / 10) ((48 + UInt8.ofNat (n % 10)) :: acc) := by
  rw [decs]; exact if_neg (by omega)
theorem decs_zero (acc : List UInt8) : decs 0 acc = acc := by
  rw [decs]; exact if_pos rfl
theorem pow_small {L n : Nat} (h : n * 10 ^ L ≤ 9223372036854775807) (hn : 0 < n) : L ≤ 18 := by
  by_cases hl : L ≤ 18
  · exact hl
  · have h1 : 10 ^ 19 ≤ 10 ^ L := Nat.pow_le_pow_right (by omega) (by omega)
    have h2 : 1 * 10 ^ L ≤ n * 10 ^ L := Nat.mul_le_mul_right _ hn
    omega
theorem pow_step {L n : Nat} (h : n * 10 ^ L ≤ 9223372036854775807) : n / 10 * 10 ^ (L + 1) ≤ 9223372036854775807 := by
  have h1 : n / 10 * 10 ≤ n := Nat.div_mul_le_self n 10
  have h2 := Nat.mul_le_mul_right (10 ^ L) h1
  rw [Nat.pow_succ, Nat.mul_comm (10 ^ L) 10, ← Nat.mul_assoc]
  omega

/-- A byte that lies in a new block of one cell, as a text. -/
theorem conv1 {P : Program} (w : World) (src dst e : TypeId) (n : Int) (h0 : 0 ≤ n) (h1 : n < 256) (hs : P.underlying src = some (.slice e)) (he : P.underlying e = some (.int .u8)) (hd : P.underlying dst = some .string) :
    (convert src dst (.slice (some ⟨w.heap.size, 0, none⟩) 1 1)).run P (w.alloc (.cells #[.int .u8 n] e)) = .ok (.string ⟨[UInt8.ofNat n.toNat].toArray⟩) (w.alloc (.cells #[.int .u8 n] e)) := by
  refine run_convert_bytes_back (P := P) _ src dst e ⟨w.heap.size, 0, none⟩ 1 [UInt8.ofNat n.toNat] hs he hd ?_
  intro j hj
  simp at hj
  subst hj
  have e1 : ((UInt8.ofNat n.toNat).toNat : Int) = n := by
    rw [UInt8.toNat_ofNat']
    omega
  simp only [List.getElem_cons_zero, e1]
  exact blk_cell (blk_new w _ _ rfl) 0

theorem markText_any (k : Int) (w : World) (h0 : 0 < k) (h1 : k ≤ 9223372036854775807) :
    Calls Tryz.prog 131 #[.int .i64 k] w fun e w' => e = .returned (.string (markT k)) ∧ Below w.heap.size w w' := by
  go_enter Tryz.func131, Tryz.ntmps131
  go_wp2
  go_loopw [0, 3] (fun k' s wr => ∃ (n : Nat) (acc : List UInt8), n * 10 ^ acc.length ≤ 9223372036854775807 ∧ acc.length ≤ 19 ∧ k' = .int .i64 n ∧ s = .string ⟨acc.toArray⟩ ∧ decs n acc = decs k.toNat [] ∧ Below w.heap.size w wr) (fun k' _ _ => (intOf k').toNat)
  case atStart => exact ⟨k.toNat, [], by simp; omega, by simp, by rw [Int.toNat_of_nonneg (by omega)], rfl, rfl, Below.refl _ _⟩
  case round =>
    obtain ⟨n, acc, hn, hl, rfl, rfl, hd, hb⟩ := hrel
    have HD := Lib.hid hd
    have HN := Lib.hid hn
    have hn1 : n ≤ 9223372036854775807 := Nat.le_trans (Nat.le_mul_of_pos_right n (Nat.pow_pos (by omega))) hn
    clear hd hn
    by_cases hlt : 0 < n
    · have hcv := conv1 (P := Tryz.prog) wr 58 9 5 (48 + (n : Int) % 10) (by omega) (by omega) Tryz.underlying58 Tryz.underlying5 Tryz.underlying9
      have hl2 := pow_small HN.out hlt
      go_wp2
      go_roundw
      case rel => exact ⟨n / 10, (48 + UInt8.ofNat (n % 10)) :: acc, pow_step HN.out, by simp; omega, by go_num, rfl, by rw [← HD.out, decs_pos hlt], hb.alloc hb.size _⟩
      case measure => simp [intOf]; omega
    · have hn0 : n = 0 := by omega
      subst hn0
      have hfin := Lib.hid (HD.out.symm.trans (decs_zero acc))
      go_wp2
      go_ret
      refine ⟨?_, hb⟩
      unfold markT
      rw [hfin.out]
      rfl
end Go.Proofs.YtoaopmkbfifhaaaGreatDoor

/- Marking slices of strings. -/
namespace Go.Proofs.YtoaopmkbfifhaaaGreatDoor
set_option linter.unusedVariables false
set_option linter.unusedSimpArgs false
set_option maxHeartbeats 1000000
set_option maxRecDepth 100000
open Go.RowKit

theorem markStringS_any (ao : Option Addr) (len cap B : Nat) (cs : List Value) (k : Int) (w : World) (hk0 : 0 < k) (hk1 : k ≤ 1000000000000) (hlen : len ≤ 1048576) (hpos : 0 < len) (hown : w.ownsRow B 9 1 (.slice ao len cap) len cs) :
    Calls Tryz.prog 83 #[.slice ao len cap, .int .i64 k] w fun e w' => e = .returned (.int .i64 (k + (len : Int) * 1)) ∧ w'.ownsRow B 9 1 (.slice ao len cap) len ((marks markT 1 k len).flatMap encS) ∧ w.grownBy w' (Value.slice ao len cap).ownBlock := by
  · obtain ⟨ao', cap', hv, hcl, _, hg⟩ := owns_slice hown
    obtain ⟨g, rfl, hgB, hgs⟩ := hg hpos
    simp only [Value.slice.injEq, true_and] at hv
    obtain ⟨rfl, rfl⟩ := hv
    have hml := marks_len markT 1 k len
    have hF0 : FillC encS 1 B 9 w g len cap (marks markT 1 k len) 0 := FillC.start hown
    clear hown
    go_enter Tryz.func83, Tryz.ntmps83
    go_wp2
    go_loopw [1, 5] (fun k' i wr => ∃ j : Nat, j ≤ len ∧ i = .int .i64 j ∧ k' = .int .i64 (k + (j : Int) * 1) ∧ FillC encS 1 B 9 wr g len cap (marks markT 1 k len) j ∧ w.grownBy wr (some g)) (fun _ i _ => len - (intOf i).toNat)
    case atStart => exact ⟨0, Nat.zero_le _, rfl, by simp, hF0, grown_refl _ _⟩
    case round =>
      obtain ⟨j, hj, rfl, rfl, hf, hgr⟩ := hrel
      by_cases hlt : j < len
      · have hx := Lib.hid (marks_get markT 1 k len j hlt)
        simp only [Int.mul_one] at hx
        obtain ⟨rest, hrest, hown⟩ := hf
        have hcs := Lib.hid (show ∃ rest' : List Value, rest'.length = (len - j) * 1 ∧ ((marks markT 1 k len).take j).flatMap encS ++ rest = ((marks markT 1 k len).take j).flatMap encS ++ rest' from ⟨rest, hrest, rfl⟩)
        have hlen2 : j * 1 + 1 ≤ (((marks markT 1 k len).take j).flatMap encS ++ rest).length := by
          rw [List.length_append, flat_len _ _ encS_len, List.length_take, hml, hrest]; omega
        have hdef : ∃ C, C = ((marks markT 1 k len).take j).flatMap encS ++ rest := ⟨_, rfl⟩
        obtain ⟨C, hC⟩ := hdef
        rw [← hC] at hown hlen2
        rw [← hC] at hcs
        have HC := Lib.hid hC
        clear hC hrest hml hF0
        have hL : j + 1 ≤ C.length := by omega
        have HT := owns_there hown (j) 1 (hL)
        obtain ⟨q0, hq0⟩ := Option.isSome_iff_exists.1 (HT 0 (by omega)).1
        have hz0 := (HT 0 (by omega)).2
        simp only [Nat.add_zero] at hq0 hz0
        clear HT
        go_wp2_with fail
        refine (markText_any _ _ (by omega) (by omega)).mono ?_
        rintro e w1 ⟨rfl, hb1⟩
        have ho1 := owns_below hown hb1 (Nat.le_refl _)
        have hgr1 := grown_trans hgr (grown_below hb1 (Nat.le_refl _) (some g))
        clear hown hq0 hz0
        have hL1 : j + 1 ≤ (C).length := by simpa using hL
        have HT := owns_there ho1 (j) 1 (hL1)
        obtain ⟨q0, hq0⟩ := Option.isSome_iff_exists.1 (HT 0 (by omega)).1
        have hz0 := (HT 0 (by omega)).2
        simp only [Nat.add_zero] at hq0 hz0
        clear HT
        go_wp2
        have hp0 := ho1.stored (j + 0) (.string (markT (k + (j : Int))))
        simp only [Nat.add_zero] at hp0
        have hgE := (grown_trans hgr1 hp0.2)
        have hoE := hp0.1
        have hsp : (C.set (j) (.string (markT (k + (j : Int))))) = splice C (j * 1) (encS (markT (k + (j : Int)))) := by
          show _ = splice C (j * 1) [.string (markT (k + (j : Int)))]
          rw [Nat.mul_one, splice_one _ _ _ (by omega)]
        rw [hsp] at hoE
        have hf3 := FillC.next encS_len (marks_len markT 1 k len) hx.out hcs.out hoE
        go_roundw
        case rel => exact ⟨j + 1, by omega, by go_num, by go_num, hf3, hgE⟩
        case measure => simp [intOf]; omega
      · have hk' : j = len := by omega
        subst hk'
        have hfd := FillC.done hf hml
        rw [hml] at hfd
        go_wp2
        go_ret
        exact ⟨rfl, hfd, hgr⟩
theorem markStringS_zero (ao : Option Addr) (cap : Nat) (k : Int) (w : World) :
    Calls Tryz.prog 83 #[.slice ao 0 cap, .int .i64 k] w fun e w' => e = .returned (.int .i64 k) ∧ w = w' := by
  go_enter Tryz.func83, Tryz.ntmps83
  go_wp2
  go_loop [1, 5] (fun k' i => i = .int .i64 0 ∧ k' = .int .i64 k) (fun _ _ => 0)
  case atStart => exact ⟨rfl, rfl⟩
  case round =>
    obtain ⟨rfl, rfl⟩ := hrel
    go_wp2
    go_ret
    exact ⟨rfl, rfl⟩
theorem markStringS_r (ao : Option Addr) (cap : Nat) (B B1 : Nat) (xs : List ByteArray) (k : Int) (w : World) (hk0 : 0 < k) (hk1 : k ≤ 1000000000000) (hlen : xs.length ≤ 1048576) (h : RowO encS 1 9 w B B1 (.slice ao xs.length cap) xs) :
    Calls Tryz.prog 83 #[.slice ao xs.length cap, .int .i64 k] w fun e w' => e = .returned (.int .i64 (k + (xs.length : Int) * 1)) ∧ RowO encS 1 9 w' B B1 (.slice ao xs.length cap) (marks markT 1 k xs.length) ∧ w.grownBy w' (Value.rowBlock (.slice ao xs.length cap)) := by
  have hlt := h.lt
  obtain ⟨ao', cap', hv, hc, hg⟩ := h
  simp only [Value.slice.injEq, true_and] at hv
  obtain ⟨rfl, rfl⟩ := hv
  by_cases hpos : 0 < xs.length
  · rcases hc with ⟨_, hx⟩ | hown
    · rw [hx] at hpos; exact absurd hpos (Nat.lt_irrefl _)
    · obtain ⟨ao', cap', hv, hcl, _, _⟩ := owns_slice hown
      simp only [Value.slice.injEq, true_and] at hv
      obtain ⟨rfl, rfl⟩ := hv
      refine (markStringS_any ao xs.length cap B _ k w hk0 hk1 hlen hpos hown).mono ?_
      rintro e w' ⟨rfl, h1, h2⟩
      rw [rowBlock_pos (by omega)]
      refine ⟨rfl, ⟨ao, cap, by rw [marks_len], .inr (by rw [marks_len]; exact h1), hg⟩, h2⟩
  · have hx : xs = [] := List.length_eq_zero_iff.1 (by omega)
    subst hx
    refine (markStringS_zero ao cap k w).mono ?_
    rintro e w' ⟨rfl, rfl⟩
    refine ⟨by simp, ⟨ao, cap, by rw [marks_len], ?_, hg⟩, grown_refl _ _⟩
    rcases hc with ⟨h0, _⟩ | h0
    · exact .inl ⟨h0, rfl⟩
    · right
      rw [marks_len]
      simpa [marks] using h0

theorem heldStringS_any (ao : Option Addr) (len cap : Nat) (k : Int) (w : World) (hk0 : 0 < k) (hk1 : k ≤ 1000000000000) (hlen : len ≤ 1048576) (hr : Rd encS 1 w ao len (marks markT 1 k len)) :
    Calls Tryz.prog 85 #[.slice ao len cap, .int .i64 k] w fun e w' => e = .returned (.int .i64 (k + (len : Int) * 1)) ∧ Below w.heap.size w w' := by
  go_enter Tryz.func85, Tryz.ntmps85
  go_wp2
  go_loopw [1, 5] (fun k' i wr => ∃ j : Nat, j ≤ len ∧ i = .int .i64 j ∧ k' = .int .i64 (k + (j : Int) * 1) ∧ Below w.heap.size w wr) (fun _ i _ => len - (intOf i).toNat)
  case atStart => exact ⟨0, Nat.zero_le _, rfl, by simp, Below.refl _ _⟩
  case round =>
    obtain ⟨j, hj, rfl, rfl, hb⟩ := hrel
    by_cases hlt : j < len
    · obtain ⟨b, off, x, hx0, rfl, hbl, hrg⟩ := hr.at_ j (by rw [hr.len]; exact hlt)
      obtain rfl := Option.some.inj (hx0.symm.trans (marks_get markT 1 k len j hlt))
      clear hx0
      have hrg2 := rangeAt_below hrg hb hbl
      have hbl2 : b < wr.heap.size := Nat.lt_of_lt_of_le hbl hb.size
      simp only [Nat.mul_one, Int.mul_one] at hrg2
      have c0 : wr.cell? ⟨b, off + j, none⟩ = some (.string (markT (k + (j : Int)))) := hrg2 0 _ rfl
      clear hrg hrg2
      go_wp2_with fail
      go_region_with (first | (go_at_call 131; refine (markText_any _ _ (by omega) (by omega)).mono ?_; rintro e w1 ⟨rfl, hb_1⟩; have c1_0 := (hb_1.cell (p := ⟨b, off + j, none⟩) hbl2).trans c0; have hbl_1 : b < w1.heap.size := Nat.lt_of_lt_of_le hbl2 hb_1.size; have hbw_1 := hb.drew.trans (hb_1.mono hb.size)))
      all_goals
        go_wp2
        go_roundw
        case rel => exact ⟨j + 1, by omega, by go_num, by go_num, hbw_1⟩
        case measure => simp [intOf]; omega
    · have hk' : j = len := by omega
      subst hk'
      go_wp2
      go_ret
      exact ⟨rfl, hb⟩

end Go.Proofs.YtoaopmkbfifhaaaGreatDoor

/- Marking waiting writes. -/
namespace Go.Proofs.YtoaopmkbfifhaaaGreatDoor
set_option linter.unusedVariables false
set_option linter.unusedSimpArgs false
set_option maxHeartbeats 1000000
set_option maxRecDepth 100000
open Go.RowKit

def mkWait (k : Int) : WaitD := { fAt := (k), fText := markT (k + 1) }
theorem markWaitS_any (ao : Option Addr) (len cap B : Nat) (cs : List Value) (k : Int) (w : World) (hk0 : 0 < k) (hk1 : k ≤ 1000000000000) (hlen : len ≤ 1048576) (hpos : 0 < len) (hown : w.ownsRow B 137 2 (.slice ao len cap) len cs) :
    Calls Tryz.prog 84 #[.slice ao len cap, .int .i64 k] w fun e w' => e = .returned (.int .i64 (k + (len : Int) * 2)) ∧ w'.ownsRow B 137 2 (.slice ao len cap) len ((marks mkWait 2 k len).flatMap WaitD.cells) ∧ w.grownBy w' (Value.slice ao len cap).ownBlock := by
  · obtain ⟨ao', cap', hv, hcl, _, hg⟩ := owns_slice hown
    obtain ⟨g, rfl, hgB, hgs⟩ := hg hpos
    simp only [Value.slice.injEq, true_and] at hv
    obtain ⟨rfl, rfl⟩ := hv
    have hml := marks_len mkWait 2 k len
    have hF0 : FillC WaitD.cells 2 B 137 w g len cap (marks mkWait 2 k len) 0 := FillC.start hown
    clear hown
    go_enter Tryz.func84, Tryz.ntmps84
    go_wp2
    go_loopw [1, 5] (fun k' i wr => ∃ j : Nat, j ≤ len ∧ i = .int .i64 j ∧ k' = .int .i64 (k + (j : Int) * 2) ∧ FillC WaitD.cells 2 B 137 wr g len cap (marks mkWait 2 k len) j ∧ w.grownBy wr (some g)) (fun _ i _ => len - (intOf i).toNat)
    case atStart => exact ⟨0, Nat.zero_le _, rfl, by simp, hF0, grown_refl _ _⟩
    case round =>
      obtain ⟨j, hj, rfl, rfl, hf, hgr⟩ := hrel
      by_cases hlt : j < len
      · have hx := Lib.hid (marks_get mkWait 2 k len j hlt)
        obtain ⟨rest, hrest, hown⟩ := hf
        have hcs := Lib.hid (show ∃ rest' : List Value, rest'.length = (len - j) * 2 ∧ ((marks mkWait 2 k len).take j).flatMap WaitD.cells ++ rest = ((marks mkWait 2 k len).take j).flatMap WaitD.cells ++ rest' from ⟨rest, hrest, rfl⟩)
        have hlen2 : j * 2 + 2 ≤ (((marks mkWait 2 k len).take j).flatMap WaitD.cells ++ rest).length := by
          rw [List.length_append, flat_len _ _ WaitD.cells_len, List.length_take, hml, hrest]; omega
        have hdef : ∃ C, C = ((marks mkWait 2 k len).take j).flatMap WaitD.cells ++ rest := ⟨_, rfl⟩
        obtain ⟨C, hC⟩ := hdef
        rw [← hC] at hown hlen2
        rw [← hC] at hcs
        have HC := Lib.hid hC
        clear hC hrest hml hF0
        have hL : j * 2 + 2 ≤ C.length := by omega
        have HT := owns_there hown (j * 2) 2 (hL)
        obtain ⟨q0, hq0⟩ := Option.isSome_iff_exists.1 (HT 0 (by omega)).1
        have hz0 := (HT 0 (by omega)).2
        obtain ⟨q1, hq1⟩ := Option.isSome_iff_exists.1 (HT 1 (by omega)).1
        have hz1 := (HT 1 (by omega)).2
        simp only [Nat.add_zero] at hq0 hz0 hq1 hz1
        clear HT
        go_wp2_with fail
        refine (markText_any _ _ (by omega) (by omega)).mono ?_
        rintro e w1 ⟨rfl, hb1⟩
        have hp0 := hown.stored (j * 2 + 0) (.int .i64 (k + (j : Int) * 2))
        simp only [Nat.add_zero] at hp0
        have ho1 := owns_below hp0.1 hb1 (Nat.le_refl _)
        have hgr1 := grown_trans (grown_trans hgr hp0.2) (grown_below hb1 (Nat.le_refl _) (some g))
        clear hown hq0 hz0 hq1 hz1 hp0
        have hL1 : j * 2 + 2 ≤ ((C.set (j * 2) (.int .i64 (k + (j : Int) * 2)))).length := by simpa using hL
        have HT := owns_there ho1 (j * 2) 2 (hL1)
        obtain ⟨q1, hq1⟩ := Option.isSome_iff_exists.1 (HT 1 (by omega)).1
        have hz1 := (HT 1 (by omega)).2
        clear HT
        go_wp2
        have hp1 := ho1.stored (j * 2 + 1) (.string (markT ((k + (j : Int) * 2) + 1)))
        have hgE := (grown_trans hgr1 hp1.2)
        have hoE := hp1.1
        have hsp : ((C.set (j * 2) (.int .i64 (k + (j : Int) * 2))).set (j * 2 + 1) (.string (markT ((k + (j : Int) * 2) + 1)))) = splice C (j * 2) (WaitD.cells (mkWait (k + (j : Int) * 2))) := by
          show _ = splice C (j * 2) [.int .i64 (k + (j : Int) * 2), .string (markT ((k + (j : Int) * 2) + 1))]
          rw [← splice_cons _ (j * 2) _ _ (by simp; omega)]
          rw [splice_one _ _ _ (by simp; omega)]
        rw [hsp] at hoE
        have hf3 := FillC.next WaitD.cells_len (marks_len mkWait 2 k len) hx.out hcs.out hoE
        go_roundw
        case rel => exact ⟨j + 1, by omega, by go_num, by go_num, hf3, hgE⟩
        case measure => simp [intOf]; omega
      · have hk' : j = len := by omega
        subst hk'
        have hfd := FillC.done hf hml
        rw [hml] at hfd
        go_wp2
        go_ret
        exact ⟨rfl, hfd, hgr⟩
theorem markWaitS_zero (ao : Option Addr) (cap : Nat) (k : Int) (w : World) :
    Calls Tryz.prog 84 #[.slice ao 0 cap, .int .i64 k] w fun e w' => e = .returned (.int .i64 k) ∧ w = w' := by
  go_enter Tryz.func84, Tryz.ntmps84
  go_wp2
  go_loop [1, 5] (fun k' i => i = .int .i64 0 ∧ k' = .int .i64 k) (fun _ _ => 0)
  case atStart => exact ⟨rfl, rfl⟩
  case round =>
    obtain ⟨rfl, rfl⟩ := hrel
    go_wp2
    go_ret
    exact ⟨rfl, rfl⟩
theorem markWaitS_r (ao : Option Addr) (cap : Nat) (B B1 : Nat) (xs : List WaitD) (k : Int) (w : World) (hk0 : 0 < k) (hk1 : k ≤ 1000000000000) (hlen : xs.length ≤ 1048576) (h : RowO WaitD.cells 2 137 w B B1 (.slice ao xs.length cap) xs) :
    Calls Tryz.prog 84 #[.slice ao xs.length cap, .int .i64 k] w fun e w' => e = .returned (.int .i64 (k + (xs.length : Int) * 2)) ∧ RowO WaitD.cells 2 137 w' B B1 (.slice ao xs.length cap) (marks mkWait 2 k xs.length) ∧ w.grownBy w' (Value.rowBlock (.slice ao xs.length cap)) := by
  have hlt := h.lt
  obtain ⟨ao', cap', hv, hc, hg⟩ := h
  simp only [Value.slice.injEq, true_and] at hv
  obtain ⟨rfl, rfl⟩ := hv
  by_cases hpos : 0 < xs.length
  · rcases hc with ⟨_, hx⟩ | hown
    · rw [hx] at hpos; exact absurd hpos (Nat.lt_irrefl _)
    · obtain ⟨ao', cap', hv, hcl, _, _⟩ := owns_slice hown
      simp only [Value.slice.injEq, true_and] at hv
      obtain ⟨rfl, rfl⟩ := hv
      refine (markWaitS_any ao xs.length cap B _ k w hk0 hk1 hlen hpos hown).mono ?_
      rintro e w' ⟨rfl, h1, h2⟩
      rw [rowBlock_pos (by omega)]
      refine ⟨rfl, ⟨ao, cap, by rw [marks_len], .inr (by rw [marks_len]; exact h1), hg⟩, h2⟩
  · have hx : xs = [] := List.length_eq_zero_iff.1 (by omega)
    subst hx
    refine (markWaitS_zero ao cap k w).mono ?_
    rintro e w' ⟨rfl, rfl⟩
    refine ⟨by simp, ⟨ao, cap, by rw [marks_len], ?_, hg⟩, grown_refl _ _⟩
    rcases hc with ⟨h0, _⟩ | h0
    · exact .inl ⟨h0, rfl⟩
    · right
      rw [marks_len]
      simpa [marks] using h0

theorem heldWaitS_any (ao : Option Addr) (len cap : Nat) (k : Int) (w : World) (hk0 : 0 < k) (hk1 : k ≤ 1000000000000) (hlen : len ≤ 1048576) (hr : Rd WaitD.cells 2 w ao len (marks mkWait 2 k len)) :
    Calls Tryz.prog 86 #[.slice ao len cap, .int .i64 k] w fun e w' => e = .returned (.int .i64 (k + (len : Int) * 2)) ∧ Below w.heap.size w w' := by
  go_enter Tryz.func86, Tryz.ntmps86
  go_wp2
  go_loopw [1, 5] (fun k' i wr => ∃ j : Nat, j ≤ len ∧ i = .int .i64 j ∧ k' = .int .i64 (k + (j : Int) * 2) ∧ Below w.heap.size w wr) (fun _ i _ => len - (intOf i).toNat)
  case atStart => exact ⟨0, Nat.zero_le _, rfl, by simp, Below.refl _ _⟩
  case round =>
    obtain ⟨j, hj, rfl, rfl, hb⟩ := hrel
    by_cases hlt : j < len
    · obtain ⟨b, off, x, hx0, rfl, hbl, hrg⟩ := hr.at_ j (by rw [hr.len]; exact hlt)
      obtain rfl := Option.some.inj (hx0.symm.trans (marks_get mkWait 2 k len j hlt))
      clear hx0
      have hrg2 := rangeAt_below hrg hb hbl
      have hbl2 : b < wr.heap.size := Nat.lt_of_lt_of_le hbl hb.size
      have c0 : wr.cell? ⟨b, off + j * 2, none⟩ = some (.int .i64 (k + (j : Int) * 2)) := hrg2 0 _ rfl
      have c1 : wr.cell? ⟨b, off + j * 2 + 1, none⟩ = some (.string (markT ((k + (j : Int) * 2) + 1))) := hrg2 1 _ rfl
      clear hrg hrg2
      go_wp2_with fail
      go_region_with (first | (go_at_call 131; refine (markText_any _ _ (by omega) (by omega)).mono ?_; rintro e w1 ⟨rfl, hb_1⟩; have c1_1 := (hb_1.cell (p := ⟨b, off + j * 2 + 1, none⟩) hbl2).trans c1; have hbl_1 : b < w1.heap.size := Nat.lt_of_lt_of_le hbl2 hb_1.size; have hbw_1 := hb.drew.trans (hb_1.mono hb.size)))
      all_goals
        go_wp2
        go_roundw
        case rel => exact ⟨j + 1, by omega, by go_num, by go_num, hbw_1⟩
        case measure => simp [intOf]; omega
    · have hk' : j = len := by omega
      subst hk'
      go_wp2
      go_ret
      exact ⟨rfl, hb⟩

end Go.Proofs.YtoaopmkbfifhaaaGreatDoor

/- Rows of elements of many cells: made, a field of an element written. No program in sight. -/
namespace Go.Proofs.YtoaopmkbfifhaaaGreatDoor
set_option linter.unusedVariables false
set_option linter.unusedSimpArgs false
set_option maxHeartbeats 1000000
set_option maxRecDepth 100000
open Go.RowKit
section
variable {P : Program} {ops : Array Oper} {Q : Exit → Act → World → Prop} {rest : List Oper} {o : Oper} {a : Act} {w W : World} {N : Nat} {l : List (Nat × Value)} {s : List Asr} {t e : TypeId} {x y : Operand} {α : Type} {enc : α → List Value} {size : Nat}
theorem made_flat (z : List Value) (size n : Nat) (hz : z.length = size) (hs : 0 < size) : (madeCells z.toArray (n * size)).toList = (List.replicate n z).flatten := by
  apply List.ext_getElem
  · simp [madeCells, hz]
  · intro i h1 h2
    have hi : i < n * size := by simpa [madeCells] using h1
    have key : ∀ (n i : Nat) (h : i < (List.replicate n z).flatten.length), (List.replicate n z).flatten[i] = z[i % size]'(by rw [hz]; exact Nat.mod_lt _ hs) := by
      intro n
      induction n with
      | zero => intro i h; simp at h
      | succ n ih =>
        intro i h
        simp only [List.replicate_succ, List.flatten_cons]
        by_cases hlt : i < size
        · rw [List.getElem_append_left (by rw [hz]; exact hlt)]
          congr 1
          exact (Nat.mod_eq_of_lt hlt).symm
        · rw [List.getElem_append_right (by rw [hz]; omega)]
          have e : (i - z.length) % size = i % size := by
            rw [hz]
            conv => rhs; rw [show i = (i - size) + size by omega, Nat.add_mod_right]
          rw [ih]
          congr 1
    rw [key]
    have hm : i % size < z.length := by rw [hz]; exact Nat.mod_lt _ hs
    simp [madeCells, hz, List.getElem?_eq_getElem hm]
theorem wl_makeN (hg : o.guard = none) (hF : Fr N a l) (ho : o.op = .makeSlice t x y) {d : Nat} (hd : o.dst = some d) (hN : Nat.blt d N = true) {bytes : Nat} (hT : ElemT P t e size bytes) {kl kc : IntKind} {m m' : Int} {n : Nat} (hx : a.eval x = .int kl m) (hy : a.eval y = .int kc m') (hm : m = (n : Int)) (hm' : m' = (n : Int))
    (hb : bytes * n ≤ 281474976710656) (hn : n ≤ maxLen) (z0 : α) {u : Value} (hz : (P.info? e).bind (·.zero) = some u) (hu : u.cells = (enc z0).toArray) (hl : (enc z0).length = size) (hS : St W s w)
    (h : ∀ b a' w', Fr N a' ((d, .slice (some ⟨b, 0, none⟩) n n) :: l) → St W (rowA enc size e (.slice (some ⟨b, 0, none⟩) n n) (List.replicate n z0) :: s) w' → wpList P ops Q rest a' w') : wpList P ops Q (o :: rest) a w := by
  obtain ⟨i0, zz, hi0, hz0, k1, k2, k3⟩ := hT.info
  refine wpList_make_full w hg x y t ho w.heap.size e i0 zz size hT.ht hi0 hz0 k1 kl kc m m' n hx hy hm hm' (by rw [k2]; exact hb) hn (Nat.le_refl _) fun w' ho' hgr => ?_
  rw [hd]
  refine h _ _ _ (hF.put (Nat.le_of_ble_eq_true hN) _) ?_
  obtain rfl : zz = u := by rw [hi0] at hz; simpa [hz0] using hz
  have hc : (madeCells zz.cells (n * size)).toList = (List.replicate n z0).flatMap enc := by
    rw [hu, made_flat _ _ _ hl hT.pos, List.flatMap, List.map_replicate]
  rw [hc] at ho'
  refine hS.add (ns := [_]) (St.ofRow (B1 := w'.heap.size) (RowO.mk (by rw [List.length_replicate]; exact ho') (fun g hg => (ho'.lt g hg).2)) ⟨hgr.os, hgr.tape, hgr.output, hgr.size, fun k hk => hgr.block k hk (by simp)⟩)
theorem flat_setF (he : ∀ x, (enc x).length = size) (xs : List α) (j fo : Nat) (hj : j < xs.length) (hf : fo < size) (v : Value) (z : α) (hz : enc z = (enc xs[j]).set fo v) : (xs.flatMap enc).set (j * size + fo) v = (xs.set j z).flatMap enc := by
  have hA : ((xs.take j).flatMap enc).length = j * size := by rw [flat_len enc size he, List.length_take, Nat.min_eq_left (Nat.le_of_lt hj)]
  have e1 : xs = xs.take j ++ xs[j] :: xs.drop (j + 1) := by rw [← List.drop_eq_getElem_cons hj, List.take_append_drop]
  have e2 : xs.set j z = xs.take j ++ z :: xs.drop (j + 1) := by rw [List.set_eq_take_append_cons_drop, if_pos hj]
  rw [e2]
  conv => lhs; rw [e1]
  rw [List.flatMap_append, List.flatMap_append, List.flatMap_cons, List.flatMap_cons, List.set_append_right _ _ (by rw [hA]; omega), hA, show j * size + fo - j * size = fo by omega, List.set_append_left _ _ (by rw [he]; exact hf), hz]
theorem St.putF (he : ∀ x, (enc x).length = size) (h : St W s w) (i : Nat) {g n cap : Nat} {xs : List α} (hi : s[i]? = some (rowA enc size e (.slice (some ⟨g, 0, none⟩) n cap) xs)) {j fo : Nat} (hj : j < xs.length) (hf : fo < size) (v : Value) (z : α) (hz : enc z = (enc xs[j]).set fo v) :
    St W (s.set i (rowA enc size e (.slice (some ⟨g, 0, none⟩) n cap) (xs.set j z))) (w.setCell ⟨g, j * size + fo, none⟩ v) := by
  obtain ⟨g', e1, rfl, hb, ho, hlt⟩ := h.rowOpen i hi (by omega)
  simp only [Option.some.injEq, Addr.mk.injEq, and_true] at e1
  subst e1
  obtain ⟨h1, h2⟩ := ho.stored (j * size + fo) v
  rw [flat_setF he xs j fo hj hf v z hz] at h1
  refine h.mutRow i hi (B := W.heap.size) ⟨_, cap, by rw [List.length_set], .inr (by rw [List.length_set]; exact h1), fun g' hg' => ?_⟩ (by rw [hb]; exact h2) fun g' hg' => .inl hg'
  rw [hb] at hg'
  obtain rfl := Option.some.inj hg'
  exact Nat.lt_of_lt_of_le hlt h2.size
/-- A field of an element is written. -/
theorem wl_storeEF (he : ∀ x, (enc x).length = size) (hg : o.guard = none) {t : TypeId} {x y : Operand} (ho : o.op = .store t x y) (hd : o.dst = none) {g n cap j fo : Nat} {v : Value} (hx : a.eval x = .pointer (some ⟨g, 0 + j * size + fo, none⟩)) (hy : a.eval y = v) (hs : scalar? P t = true) (hS : St W s w) (i : Nat) {xs : List α}
    (hi : s[i]? = some (rowA enc size e (.slice (some ⟨g, 0, none⟩) n cap) xs)) (hj : j < xs.length) (hf : fo < size) (z : α) (hz : enc z = (enc xs[j]).set fo v) (hv : v.oneCell' = true)
    (h : ∀ w', St W (s.set i (rowA enc size e (.slice (some ⟨g, 0, none⟩) n cap) (xs.set j z))) w' → wpList P ops Q rest a w') : wpList P ops Q (o :: rest) a w := by
  obtain ⟨g', e1, rfl, hb, hw, hlt⟩ := hS.rowOpen i hi (by omega)
  simp only [Option.some.injEq, Addr.mk.injEq, and_true] at e1
  subst e1
  rw [Nat.zero_add] at hx
  have hc := hS.elem he i hi (List.getElem?_eq_getElem hj)
  rw [Nat.zero_add] at hc
  have hc0 := hc fo _ (List.getElem?_eq_getElem (by rw [he]; exact hf))
  exact wl_store1 hg ho hd hx hy hs hc0 (hw.frozenAt (j * size + fo)) hv (h _ (hS.putF he i hi hj hf v z hz))
end
/-! ### The orders of a region come together -/
def OnN (R : Act → World → Prop) : Exit → Act → World → Prop
  | .normal, a, w => R a w
  | _, _, _ => False
theorem on_mk {R : Act → World → Prop} {a : Act} {w : World} (h : R a w) : OnN R .normal a w := h
theorem wp_join {P : Program} {c : Code} {R : Act → World → Prop} {Q : Exit → Act → World → Prop} {a : Act} {w : World} (h : c.wp P (OnN R) a w) (k : ∀ a w, R a w → Q .normal a w) : c.wp P Q a w :=
  wp_mono h fun e a w hq => by
    cases e with
    | normal => exact k a w hq
    | _ => exact hq.elim
end Go.Proofs.YtoaopmkbfifhaaaGreatDoor

/- Sets of disks: read, owned, apart. -/
namespace Go.Proofs.YtoaopmkbfifhaaaGreatDoor
set_option linter.unusedVariables false
set_option linter.unusedSimpArgs false
set_option maxHeartbeats 1000000
set_option maxRecDepth 100000
open Go.RowKit

structure RaidD where
  fDisks : List DiskD
def RaidD.Reads (w : World) (v : Value) (x : RaidD) : Prop := ∃ (a : Option Addr) (c : Nat) (ps : List HD), v = .agg #[.slice a ps.length c] ∧ dsOf ps = x.fDisks ∧ Rd HD.cells 3 w a ps.length ps ∧ ∀ k, k < ps.length → (ps.getD k default).reads w
theorem RaidD.Reads.below {w w' : World} {v : Value} {x : RaidD} (h : RaidD.Reads w v x) (hb : Below w.heap.size w w') : RaidD.Reads w' v x := by
  obtain ⟨a, c, ps, e, hx, hr, hp⟩ := h
  exact ⟨a, c, ps, e, hx, hr.below hb, fun k hk => (hp k hk).below hb⟩
/-- The slices of a disk, of a set of disks. -/
def HD.vs (p : HD) : List Value := [.slice p.a0 p.d.fCells.length p.c0, .slice p.a1 p.d.fWaits.length p.c1]
def vsOf (a : Option Addr) (c : Nat) (ps : List HD) : List Value := .slice a ps.length c :: ps.flatMap HD.vs
def HD.own (w : World) (B B1 : Nat) (p : HD) : Prop := RowO encS 1 9 w B B1 (.slice p.a0 p.d.fCells.length p.c0) p.d.fCells ∧ RowO WaitD.cells 2 137 w B B1 (.slice p.a1 p.d.fWaits.length p.c1) p.d.fWaits
def RaidD.Own (w : World) (B B1 : Nat) (v : Value) (x : RaidD) : Prop := ∃ (a : Option Addr) (c : Nat) (ps : List HD), v = .agg #[.slice a ps.length c] ∧ dsOf ps = x.fDisks ∧ RowO HD.cells 3 94 w B B1 (.slice a ps.length c) ps ∧ (∀ p, p ∈ ps → p.own w B B1) ∧ (vsOf a c ps).Pairwise Apart
theorem RaidD.Own.loc (w w' : World) (B B1 : Nat) (v : Value) (x : RaidD) (hb : ∀ b, B ≤ b → b < B1 → w'.heap[b]? = w.heap[b]?) (h : RaidD.Own w B B1 v x) : RaidD.Own w' B B1 v x := by
  obtain ⟨a, c, ps, e, hx, hr, hp, ha⟩ := h
  exact ⟨a, c, ps, e, hx, hr.loc hb, fun p hm => ⟨(hp p hm).1.loc hb, (hp p hm).2.loc hb⟩, ha⟩
theorem RaidD.Own.cells {w : World} {B B1 : Nat} {v : Value} {x : RaidD} (h : RaidD.Own w B B1 v x) : Cells 1 v := by
  obtain ⟨a, c, ps, rfl, _⟩ := h
  exact cells_lit [_] rfl rfl
theorem RaidD.Own.rd {w : World} {B B1 : Nat} {v : Value} {x : RaidD} (h : RaidD.Own w B B1 v x) : RaidD.Reads w v x := by
  obtain ⟨a, c, ps, e, hx, hr, hp, ha⟩ := h
  refine ⟨a, c, ps, e, hx, ?_, fun k hk => ?_⟩
  · obtain ⟨u, e0, k0, d0⟩ := hr.rd HD.cells_len
    simp only [Value.slice.injEq, true_and] at k0
    obtain ⟨rfl, rfl⟩ := k0
    exact d0
  · rw [getD_get hk]
    obtain ⟨h1, h2⟩ := hp _ (List.getElem_mem hk)
    obtain ⟨u, e0, k0, d0⟩ := h1.rd encS_len
    simp only [Value.slice.injEq, true_and] at k0
    obtain ⟨rfl, rfl⟩ := k0
    obtain ⟨u, e0, k0, d1⟩ := h2.rd WaitD.cells_len
    simp only [Value.slice.injEq, true_and] at k0
    obtain ⟨rfl, rfl⟩ := k0
    exact ⟨d0, d1⟩
def blk (v : Value) : List Nat := (Value.rowBlock v).toList
theorem sep_hds {w : World} : ∀ {ps : List HD} {f : List Nat}, sepP (ps.map HD.asr) w f → f = (ps.flatMap HD.vs).flatMap blk ∧ ∀ p, p ∈ ps → ∃ B1, p.own w 0 B1
  | [], f, h => ⟨h, fun _ h => by cases h⟩
  | p :: ps, f, h => by
    obtain ⟨f1, f2, rfl, ⟨g1, g2, rfl, ⟨e1, B1, r1⟩, ⟨g3, g4, rfl, ⟨e3, B3, r3⟩, e4⟩⟩, h2⟩ := h
    obtain ⟨e2, h3⟩ := sep_hds h2
    refine ⟨?_, fun q hq => ?_⟩
    · have e4 : g4 = [] := e4
      rw [e1, e2, e3, e4]
      simp [HD.vs, blk]
    · rcases List.mem_cons.1 hq with rfl | hq
      · exact ⟨max B1 B3, r1.mono (Nat.le_refl _) (by omega), r3.mono (Nat.le_refl _) (by omega)⟩
      · exact h3 q hq
/-- What lies apart is owned. -/
theorem own_of_sep {w : World} {C C1 : Nat} {a : Option Addr} {c : Nat} {ps : List HD} {x : RaidD} (hx : dsOf ps = x.fDisks) {f : List Nat} (h : sepP [rowA HD.cells 3 94 (.slice a ps.length c) ps, sepA (ps.map HD.asr)] w f) (hn : f.Nodup) (hb : ∀ b, b ∈ f → C ≤ b ∧ b < C1) : RaidD.Own w C C1 (.agg #[.slice a ps.length c]) x := by
  obtain ⟨f1, f2, rfl, ⟨e1, B1, r1⟩, ⟨g1, g2, rfl, h1, h2⟩⟩ := h
  obtain rfl : g2 = [] := h2
  obtain ⟨e2, h3⟩ := sep_hds h1
  have ef : f1 ++ (g1 ++ []) = (vsOf a c ps).flatMap blk := by rw [e1, e2, List.append_nil]; rfl
  rw [ef] at hn hb
  have hm : ∀ v, v ∈ vsOf a c ps → ∀ g, Value.rowBlock v = some g → C ≤ g ∧ g < C1 := fun v hv g hg => hb g (List.mem_flatMap.2 ⟨v, hv, by simp [blk, hg]⟩)
  refine ⟨a, c, ps, rfl, hx, r1.bounds (hm _ (List.mem_cons_self ..)), fun p hp => ?_, nodup_apart hn⟩
  obtain ⟨B2, o1, o2⟩ := h3 p hp
  have hmem : ∀ v, v ∈ p.vs → v ∈ vsOf a c ps := fun v hv => List.mem_cons_of_mem _ (List.mem_flatMap.2 ⟨p, hp, hv⟩)
  exact ⟨o1.bounds (hm _ (hmem _ (by simp [HD.vs]))), o2.bounds (hm _ (hmem _ (by simp [HD.vs])))⟩
theorem RaidD.st_own {W w : World} {F : List Asr} {a : Option Addr} {c : Nat} {ps : List HD} {x : RaidD} (h : St W (rowA HD.cells 3 94 (.slice a ps.length c) ps :: sepA (ps.map HD.asr) :: F) w) (hx : dsOf ps = x.fDisks) : RaidD.Own w W.heap.size w.heap.size (.agg #[.slice a ps.length c]) x := by
  obtain ⟨f, hs, hn, hb⟩ := h.sep
  obtain ⟨f1, f2, rfl, k1, k2⟩ := (sepP_append [_, _] F w f).1 hs
  exact own_of_sep hx k1 (List.nodup_append.1 hn).1 (fun b hm => hb b (List.mem_append_left _ hm))
theorem sep_of_hds {w : World} {B B1 : Nat} : ∀ {ps : List HD}, (∀ p, p ∈ ps → p.own w B B1) → sepP (ps.map HD.asr) w ((ps.flatMap HD.vs).flatMap blk)
  | [], _ => rfl
  | p :: ps, h => by
    obtain ⟨o1, o2⟩ := h p (List.mem_cons_self ..)
    refine ⟨blk (.slice p.a0 p.d.fCells.length p.c0) ++ (blk (.slice p.a1 p.d.fWaits.length p.c1) ++ []), (ps.flatMap HD.vs).flatMap blk, by simp [HD.vs], ⟨_, _, rfl, o1.asr, ⟨_, _, rfl, o2.asr, rfl⟩⟩, sep_of_hds (fun q hq => h q (List.mem_cons_of_mem _ hq))⟩
/-- What is owned lies apart; its blocks are in the stretch. -/
theorem sep_of_own {w : World} {B B1 : Nat} {v : Value} {x : RaidD} (h : RaidD.Own w B B1 v x) : ∃ (a : Option Addr) (c : Nat) (ps : List HD), v = .agg #[.slice a ps.length c] ∧ dsOf ps = x.fDisks ∧ sepP [rowA HD.cells 3 94 (.slice a ps.length c) ps, sepA (ps.map HD.asr)] w ((vsOf a c ps).flatMap blk) ∧ ((vsOf a c ps).flatMap blk).Nodup ∧ ∀ b, b ∈ (vsOf a c ps).flatMap blk → B ≤ b ∧ b < B1 ∧ b < w.heap.size := by
  obtain ⟨a, c, ps, e, hx, hr, hp, ha⟩ := h
  refine ⟨a, c, ps, e, hx, ⟨_, _, rfl, hr.asr, ⟨_, _, (List.append_nil _).symm, sep_of_hds hp, rfl⟩⟩, apart_nodup ha, fun b hm => ?_⟩
  obtain ⟨v, hv, hb⟩ := List.mem_flatMap.1 hm
  rcases List.mem_cons.1 hv with rfl | hv
  · exact hr.foot b hb
  · obtain ⟨p, hpm, hv⟩ := List.mem_flatMap.1 hv
    obtain ⟨o1, o2⟩ := hp p hpm
    simp only [HD.vs, List.mem_cons, List.not_mem_nil, or_false] at hv
    rcases hv with rfl | rfl
    · exact o1.foot b hb
    · exact o2.foot b hb
/-- Blocks that lie as they lay. -/
def keepA (w0 : World) (L : List Nat) : Asr := ⟨fun w f => f = L ∧ w0.heap.size ≤ w.heap.size ∧ ∀ b, b ∈ L → w.heap[b]? = w0.heap[b]?, fun w w' f hs hb ⟨e, h1, h2⟩ => ⟨e, Nat.le_trans h1 hs, fun b hm => (hb b (by rw [e]; exact hm)).trans (h2 b hm)⟩⟩
/-- The world below a block. -/
def trunc (w : World) (B : Nat) : World := { w with heap := w.heap.extract 0 B }
theorem trunc_size (w : World) (B : Nat) (h : B ≤ w.heap.size) : (trunc w B).heap.size = B := by simp [trunc]; omega
theorem trunc_below (w : World) (B : Nat) (h : B ≤ w.heap.size) : Below (trunc w B).heap.size (trunc w B) w := by
  have hz := trunc_size w B h
  refine ⟨rfl, rfl, rfl, by omega, fun k hk => ?_⟩
  rw [hz] at hk
  simp [trunc, Array.getElem?_extract, hk]
  intro _; omega
/-- To write into what is owned: what lies outside is kept. -/
theorem RaidD.own_st {w : World} {B B1 : Nat} {v : Value} {x : RaidD} (h : RaidD.Own w B B1 v x) (hB : B ≤ B1) (hB1 : B1 ≤ w.heap.size) : ∃ (a : Option Addr) (c : Nat) (ps : List HD), v = .agg #[.slice a ps.length c] ∧ dsOf ps = x.fDisks ∧ (∀ b, b ∈ (vsOf a c ps).flatMap blk → B ≤ b ∧ b < B1) ∧
    St (trunc w B) [rowA HD.cells 3 94 (.slice a ps.length c) ps, sepA (ps.map HD.asr), keepA w (List.range' B1 (w.heap.size - B1))] w := by
  obtain ⟨a, c, ps, e, hx, hs, hn, hb⟩ := sep_of_own h
  have hz := trunc_size w B (by omega)
  refine ⟨a, c, ps, e, hx, fun b hm => ⟨(hb b hm).1, (hb b hm).2.1⟩, trunc_below w B (by omega), (vsOf a c ps).flatMap blk ++ List.range' B1 (w.heap.size - B1), (sepP_append [_, _] [_] w _).2 ⟨_, _, rfl, hs, ⟨_, [], (List.append_nil _).symm, ⟨rfl, Nat.le_refl _, fun _ _ => rfl⟩, rfl⟩⟩, ?_, fun b hm => ?_⟩
  · rw [List.nodup_append]
    refine ⟨hn, List.nodup_range', fun u hu y hy e => ?_⟩
    subst e
    have := hb u hu
    rw [List.mem_range'_1] at hy
    omega
  · rw [hz]
    rcases List.mem_append.1 hm with hm | hm
    · have := hb b hm; omega
    · rw [List.mem_range'_1] at hm; omega
theorem RaidD.st_own2 {w w' : World} {B B1 : Nat} {a : Option Addr} {c : Nat} {ps qs : List HD} {x : RaidD} (hB : B ≤ B1) (hB1 : B1 ≤ w.heap.size) (hx : dsOf qs = x.fDisks) (hq : vsOf a c qs = vsOf a c ps) (hb : ∀ b, b ∈ (vsOf a c ps).flatMap blk → B ≤ b ∧ b < B1)
    (h : St (trunc w B) [rowA HD.cells 3 94 (.slice a qs.length c) qs, sepA (qs.map HD.asr), keepA w (List.range' B1 (w.heap.size - B1))] w') : RaidD.Own w' B B1 (.agg #[.slice a qs.length c]) x ∧ Outside B B1 w w' := by
  have hz := trunc_size w B (by omega)
  obtain ⟨f, hs, hn, hb2⟩ := h.sep
  obtain ⟨f1, f2, rfl, k1, k2⟩ := (sepP_append [_, _] [_] w' f).1 hs
  have hk1 := k1
  obtain ⟨g1, g2, rfl, ⟨e1, _⟩, ⟨g3, g4, rfl, h3, h4⟩⟩ := hk1
  obtain rfl : g4 = [] := h4
  obtain ⟨e2, _⟩ := sep_hds h3
  have ef : g1 ++ (g3 ++ []) = (vsOf a c ps).flatMap blk := by rw [← hq, e1, e2, List.append_nil]; rfl
  refine ⟨own_of_sep hx k1 (List.nodup_append.1 hn).1 (fun b hm => hb b (by rw [← ef]; exact hm)), ?_⟩
  obtain ⟨g5, g6, rfl, ⟨rfl, k3, k4⟩, _⟩ := k2
  have hbel := trunc_below w B (by omega)
  refine ⟨h.bel.os.trans hbel.os.symm, h.bel.tape.trans hbel.tape.symm, h.bel.output.trans hbel.output.symm, k3, fun k hk ho => ?_⟩
  rcases ho with ho | ho
  · exact (h.bel.block k (by omega)).trans (hbel.block k (by omega)).symm
  · exact k4 k (List.mem_range'_1.2 ⟨ho, by omega⟩)
end Go.Proofs.YtoaopmkbfifhaaaGreatDoor

/- The laws' helpers over sets of disks. -/
namespace Go.Proofs.YtoaopmkbfifhaaaGreatDoor
set_option linter.unusedVariables false
set_option linter.unusedSimpArgs false
set_option maxHeartbeats 1000000
set_option maxRecDepth 100000
open Go.RowKit

def RaidD.bulk (x : RaidD) : Nat := x.fDisks.length + tot DiskD.bulk x.fDisks
structure RaidD.Small (x : RaidD) : Prop where
  n : x.fDisks.length ≤ 9223372036854775807
  d : ∀ k, (x.fDisks.getD k default).Small
def lenT (d : DiskD) : Nat := d.fCells.length + d.fWaits.length
structure RaidD.Fit (x : RaidD) : Prop where
  n : x.fDisks.length ≤ 1048576
  t : tot lenT x.fDisks ≤ 10000000
  d : ∀ k, (x.fDisks.getD k default).Fit
theorem tot_get {ds : List DiskD} (f : DiskD → Nat) (k : Nat) (hk : k < ds.length) : tot f (ds.take (k + 1)) = tot f (ds.take k) + f (ds.getD k default) := by
  exact tot_take f ds k (by rw [List.getElem?_eq_getElem hk, getD_get hk])
theorem lenT_le (d : DiskD) : lenT d ≤ d.bulk := by unfold lenT DiskD.bulk; omega
theorem tot_mono {f g : DiskD → Nat} (h : ∀ d, f d ≤ g d) : ∀ ds : List DiskD, tot f ds ≤ tot g ds
  | [] => Nat.le_refl _
  | d :: ds => by have := tot_mono h ds; have := h d; simp only [tot]; omega
theorem tot_one (f : DiskD → Nat) (h0 : f default = 0) (ds : List DiskD) (k : Nat) : f (ds.getD k default) ≤ tot f ds := by
  by_cases hk : k < ds.length
  · exact tot_le f ds k (by rw [List.getElem?_eq_getElem hk, getD_get hk])
  · rw [List.getD_eq_getElem?_getD, List.getElem?_eq_none (by omega)]; simp [h0]
theorem RaidD.fit {x : RaidD} (h : x.bulk ≤ 1048576) : x.Fit := by
  unfold RaidD.bulk at h
  have h1 := tot_mono lenT_le x.fDisks
  exact ⟨by omega, by omega, fun k => DiskD.fit (Nat.le_trans (tot_one DiskD.bulk rfl x.fDisks k) (by omega))⟩

theorem szDiskS_any (a0 : Option Addr) (c0 : Nat) (ps : List HD) (l : Int) (w0 : World) (hl0 : 0 ≤ l) (hl1 : l ≤ 1048576) (hn : ps.length ≤ 9223372036854775807) (hs : ∀ k, (ps.getD k default).d.Small) (hR : Rd HD.cells 3 w0 a0 ps.length ps) (hP : ∀ k, k < ps.length → (ps.getD k default).reads w0) : Calls Tryz.prog 27 #[.slice a0 ps.length c0, .int .i64 l] w0 fun e w' => e = .returned (.int .i64 (leftOf l (ps.length + tot DiskD.bulk (dsOf ps)))) ∧ Below w0.heap.size w0 w' := by
 have HR := Bx.mk hR; have HP := Bx.mk hP; clear hR hP
 have HS := Bx.mk (St.start w0)
 refine wc_enter Tryz.func27 rfl Tryz.ntmps27 [(0, .slice a0 ps.length c0), (1, .int .i64 l)] ⟨rfl, rfl, trivial⟩ rfl ?_; intro a HF
 refine wp_sr ?_
 refine wl_as HF rfl rfl rfl rfl rfl ?_; clear HF a; intro a HF
 refine wl_ne ?_
 refine wp_sr ?_
 refine wl_mv HF rfl rfl rfl rfl rfl ?_; clear HF a; intro a HF
 refine wl_mv HF rfl rfl rfl rfl rfl ?_; clear HF a; intro a HF
 refine wl_y rfl HF rfl rfl (yl_lenL (e := 104) (size := 3) rfl (HF.ev rfl) (by kernel_rfl)) ?_; clear HF a; intro a HF
 refine wl_y rfl HF rfl rfl (yl_subI rfl (HF.ev rfl) (HF.ev rfl) (i64w (by omega))) ?_; clear HF a; intro a HF
 refine wl_as HF rfl rfl rfl rfl rfl ?_; clear HF a; intro a HF
 refine wl_ne ?_
 refine wp_seq ?_
 refine wp_sr ?_
 refine wl_mv HF rfl rfl rfl rfl rfl ?_; clear HF a; intro a HF
 refine wl_y rfl HF rfl rfl (yl_lssI rfl (HF.ev rfl) (HF.ev rfl)) ?_; clear HF a; intro a HF
 refine wl_ne ?_
 refine HF.cases 11 rfl (fun cc1 HF1 => ?_) (fun cc1 HF1 => ?_)
 ·clear HF; have HF := HF1; clear HF1
  have dcc1 := of_decide_eq_true cc1
  refine wc_true HF rfl ?_
  refine wp_sr ?_
  refine wl_as HF rfl rfl rfl rfl rfl ?_; clear HF a; intro a HF
  refine wl_ne ?_
  refine wp_ret ?_
  refine ex_then_ret ?_
  refine bp_ret1 HF Tryz.results27 (HF.res rfl) ?_
  exact ⟨by rw [leftOf_no (by omega)], HS.out.bel⟩
 ·clear HF; have HF := HF1; clear HF1
  have dcc1 := of_decide_eq_false cc1
  refine wc_false HF rfl ?_
  refine wp_skip ?_
  refine ex_then ?_
  refine wp_seq ?_
  refine wp_sr ?_
  refine wl_as HF rfl rfl rfl rfl rfl ?_; clear HF a; intro a HF
  refine wl_ne ?_
  refine wp_block ?_
  refine wc_loop (ι := Nat) (fun k a w => (k ≤ ps.length ∧ ((ps.length + tot DiskD.bulk ((dsOf ps).take k) : Nat) : Int) ≤ l) ∧ Fr 27 a [(0, .slice a0 ps.length c0), (1, .int .i64 (l - ((ps.length + tot DiskD.bulk ((dsOf ps).take k) : Nat) : Int))), (5, .int .i64 (k : Int))] ∧ St w0 ([]) w) (fun k => ps.length - k) 0 ⟨⟨Nat.zero_le _, by simp [tot]; omega⟩, HF.less _ ⟨rfl, (by show _ = some (Value.int .i64 (l - ((ps.length + tot DiskD.bulk ((dsOf ps).take 0) : Nat) : Int))); simp only [List.take_zero, tot, Nat.add_zero]; rfl), rfl, trivial⟩, HS.out⟩ ?_
  clear HF HS; clear a
  rintro k a w1 ⟨⟨hk, hcl⟩, HF, HS⟩
  replace HS := Bx.mk HS
  refine wp_seq ?_
  refine wp_sr ?_
  refine wl_mv HF rfl rfl rfl rfl rfl ?_; clear HF a; intro a HF
  refine wl_mv HF rfl rfl rfl rfl rfl ?_; clear HF a; intro a HF
  refine wl_y rfl HF rfl rfl (yl_lenL (e := 104) (size := 3) rfl (HF.ev rfl) (by kernel_rfl)) ?_; clear HF a; intro a HF
  refine wl_y rfl HF rfl rfl (yl_lssI rfl (HF.ev rfl) (HF.ev rfl)) ?_; clear HF a; intro a HF
  refine wl_ne ?_
  refine HF.cases 15 rfl (fun cc2 HF1 => ?_) (fun cc2 HF1 => ?_)
  ·clear HF; have HF := HF1; clear HF1
   have dcc2 := of_decide_eq_true cc2
   refine wc_true HF rfl ?_
   refine wp_skip ?_
   refine ex_then ?_
   refine wp_seq ?_
   refine wp_block ?_
   refine wp_seq ?_
   obtain ⟨g_r, o_r, r0⟩ := HR.out.opn; have R_r := Bx.mk r0; clear r0
   refine wp_region_lit ?_
   refine wl_mv HF rfl rfl rfl rfl rfl ?_; clear HF a; intro a HF
   refine wl_mv HF rfl rfl rfl rfl rfl ?_; clear HF a; intro a HF
   refine wl_y rfl HF rfl rfl (yl_indexAddrR (e := 104) (i := k) (size := 3) rfl (HF.ev rfl) (HF.ev rfl) (by kernel_rfl) rfl (by omega) (R_r.out.ao k (by omega))) ?_; clear HF a; intro a HF
   refine wl_y rfl HF rfl rfl (yl_loadR (cs := [.slice ((ps.getD k default).a0) ((ps.getD k default).d.fCells.length) ((ps.getD k default).c0), .slice ((ps.getD k default).a1) ((ps.getD k default).d.fWaits.length) ((ps.getD k default).c1), .bool ((ps.getD k default).d.fGone)]) rfl (HF.ev rfl) (R_r.out.elem HS.out (get_getD (xs := ps) (j := k) (d := default) (by omega))) (by kernel_rfl)) ?_; clear HF a; intro a HF
   refine wl_mv HF rfl rfl rfl rfl rfl ?_; clear HF a; intro a HF
   refine wl_callB rfl HF rfl (enter_of Tryz.func59 (by kernel_rfl) rfl) (args := #[.agg #[.slice ((ps.getD k default).a0) ((ps.getD k default).d.fCells.length) ((ps.getD k default).c0), .slice ((ps.getD k default).a1) ((ps.getD k default).d.fWaits.length) ((ps.getD k default).c1), .bool ((ps.getD k default).d.fGone)], .int .i64 (l - ((ps.length + tot DiskD.bulk ((dsOf ps).take k) : Nat) : Int))]) rfl (v := .int .i64 (leftOf (l - ((ps.length + tot DiskD.bulk ((dsOf ps).take k) : Nat) : Int)) (ps.getD k default).d.bulk)) ((by have := szDisk_any (.agg #[.slice ((ps.getD k default).a0) ((ps.getD k default).d.fCells.length) ((ps.getD k default).c0), .slice ((ps.getD k default).a1) ((ps.getD k default).d.fWaits.length) ((ps.getD k default).c1), .bool ((ps.getD k default).d.fGone)]) (ps.getD k default).d (l - ((ps.length + tot DiskD.bulk ((dsOf ps).take k) : Nat) : Int)) _ (by omega) (by omega) ⟨_, _, _, _, rfl, ((HP.out k (by omega)).below HS.out.bel).rc, ((HP.out k (by omega)).below HS.out.bel).rw⟩ (hs k); exact this)) rfl rfl HS.out ?_; clear HF HS a; intro w2 a HS HF; replace HS := Bx.mk HS
   refine wl_as HF rfl rfl rfl rfl rfl ?_; clear HF a; intro a HF
   refine wl_ne ?_
   refine wp_sr ?_
   refine wl_mv HF rfl rfl rfl rfl rfl ?_; clear HF a; intro a HF
   refine wl_y rfl HF rfl rfl (yl_lssI rfl (HF.ev rfl) (HF.ev rfl)) ?_; clear HF a; intro a HF
   refine wl_ne ?_
   refine HF.cases 25 rfl (fun cc3 HF1 => ?_) (fun cc3 HF1 => ?_)
   ·clear HF; have HF := HF1; clear HF1
    have dcc3 := of_decide_eq_true cc3
    refine wc_true HF rfl ?_
    refine wp_sr ?_
    refine wl_as HF rfl rfl rfl rfl rfl ?_; clear HF a; intro a HF
    refine wl_ne ?_
    refine wp_ret ?_
    refine ex_block_ret ?_
    refine ex_then_ret ?_
    refine ex_then_ret ?_
    refine ex_block_ret ?_
    refine ex_then_ret ?_
    refine bp_ret1 HF Tryz.results27 (HF.res rfl) ?_
    have htk := tot_get DiskD.bulk (ds := dsOf ps) k (by rw [dsOf_len]; omega); rw [dsOf_get] at htk
    have hle := tot_take_le DiskD.bulk (dsOf ps) (k + 1)
    have hno : l < ((ps.length + tot DiskD.bulk (dsOf ps) : Nat) : Int) := by have h9 := dcc3; unfold leftOf at h9; split at h9 <;> omega
    exact ⟨by rw [leftOf_no hno], HS.out.bel⟩
   ·clear HF; have HF := HF1; clear HF1
    have dcc3 := of_decide_eq_false cc3
    refine wc_false HF rfl ?_
    refine wp_skip ?_
    refine ex_block ?_
    refine ex_then ?_
    refine wp_region_lit ?_
    refine wl_mv HF rfl rfl rfl rfl rfl ?_; clear HF a; intro a HF
    refine wl_y rfl HF rfl rfl (yl_addI rfl (HF.ev rfl) (HF.ev rfl) (i64w (by omega))) ?_; clear HF a; intro a HF
    refine wl_as HF rfl rfl rfl rfl rfl ?_; clear HF a; intro a HF
    refine wl_ne ?_
    have htk := tot_get DiskD.bulk (ds := dsOf ps) k (by rw [dsOf_len]; omega); rw [dsOf_get] at htk
    have hfit : (((ps.getD k default).d.bulk : Nat) : Int) ≤ l - ((ps.length + tot DiskD.bulk ((dsOf ps).take k) : Nat) : Int) := by have h9 := dcc3; unfold leftOf at h9; split at h9 <;> omega
    have hlf : leftOf (l - ((ps.length + tot DiskD.bulk ((dsOf ps).take k) : Nat) : Int)) (ps.getD k default).d.bulk = l - ((ps.length + tot DiskD.bulk ((dsOf ps).take (k + 1)) : Nat) : Int) := by rw [leftOf_yes hfit, htk]; omega
    rw [hlf] at HF
    exact ⟨k + 1, ⟨⟨by omega, by omega⟩, HF.less _ ⟨rfl, rfl, rfl, trivial⟩, HS.out⟩, (by omega)⟩
  ·clear HF; have HF := HF1; clear HF1
   have dcc2 := of_decide_eq_false cc2
   refine wc_false HF rfl ?_
   refine wp_exit ?_
   refine ex_then_exit ?_
   refine ex_then_exit ?_
   refine ex_block_hit ?_
   refine ex_then ?_
   refine wp_sr ?_
   refine wl_mv HF rfl rfl rfl rfl rfl ?_; clear HF a; intro a HF
   refine wl_as HF rfl rfl rfl rfl rfl ?_; clear HF a; intro a HF
   refine wl_ne ?_
   refine wp_ret ?_
   refine bp_ret1 HF Tryz.results27 (HF.res rfl) ?_
   obtain rfl : k = ps.length := by omega
   rw [List.take_of_length_le (by rw [dsOf_len]; exact Nat.le_refl _)] at hcl HF
   exact ⟨by rw [leftOf_yes hcl, List.take_of_length_le (by rw [dsOf_len]; exact Nat.le_refl _)], HS.out.bel⟩

theorem szRaid_x (a0 : Option Addr) (c0 : Nat) (ps : List HD) (l : Int) (w0 : World) (hl0 : 0 ≤ l) (hl1 : l ≤ 1048576) (hn : ps.length ≤ 9223372036854775807) (hs : ∀ k, (ps.getD k default).d.Small) (hR : Rd HD.cells 3 w0 a0 ps.length ps) (hP : ∀ k, k < ps.length → (ps.getD k default).reads w0) : Calls Tryz.prog 7 #[.agg #[.slice a0 ps.length c0], .int .i64 l] w0 fun e w' => e = .returned (.int .i64 (leftOf l (ps.length + tot DiskD.bulk (dsOf ps)))) ∧ Below w0.heap.size w0 w' := by
 have HR := Bx.mk hR; have HP := Bx.mk hP; clear hR hP
 have HS := Bx.mk (St.start w0)
 refine wc_enter Tryz.func7 rfl Tryz.ntmps7 [(0, .agg #[.slice a0 ps.length c0]), (1, .int .i64 l)] ⟨rfl, rfl, trivial⟩ rfl ?_; intro a HF
 refine wp_sr ?_
 refine wl_box rfl HF rfl (HF.ev rfl) (Z := [.slice a0 ps.length c0]) rfl rfl rfl rfl HS.out ?_; clear HF HS a; intro a w1 b1 HF HS; replace HS := Bx.mk HS
 refine wl_as HF rfl rfl rfl rfl rfl ?_; clear HF a; intro a HF
 refine wl_ne ?_
 refine wp_sr ?_
 refine wl_y rfl HF rfl rfl (yl_fieldAddr (j := 0) rfl (HF.ev rfl) (by kernel_rfl)) ?_; clear HF a; intro a HF
 refine wl_y rfl HF rfl rfl (yl_load (v := .slice a0 ps.length c0) rfl (HF.ev rfl) (((HS.out.box 0 rfl).cell 0).trans rfl) (by kernel_rfl)) ?_; clear HF a; intro a HF
 refine wl_mv HF rfl rfl rfl rfl rfl ?_; clear HF a; intro a HF
 refine wl_callB rfl HF rfl (enter_of Tryz.func27 (by kernel_rfl) rfl) (args := #[.slice a0 ps.length c0, .int .i64 l]) rfl (v := .int .i64 (leftOf l (ps.length + tot DiskD.bulk (dsOf ps)))) (szDiskS_any a0 c0 ps l _ hl0 hl1 hn hs (HR.out.below HS.out.bel) (fun k hk => (HP.out k hk).below HS.out.bel)) rfl rfl HS.out ?_; clear HF HS a; intro w2 a HS HF; replace HS := Bx.mk HS
 refine wl_as HF rfl rfl rfl rfl rfl ?_; clear HF a; intro a HF
 refine wl_ne ?_
 refine wp_seq ?_
 refine wp_sr ?_
 refine wl_mv HF rfl rfl rfl rfl rfl ?_; clear HF a; intro a HF
 refine wl_y rfl HF rfl rfl (yl_lssI rfl (HF.ev rfl) (HF.ev rfl)) ?_; clear HF a; intro a HF
 refine wl_ne ?_
 refine HF.cases 10 rfl (fun cc1 HF1 => ?_) (fun cc1 HF1 => ?_)
 ·clear HF; have HF := HF1; clear HF1
  have dcc1 := of_decide_eq_true cc1
  refine wc_true HF rfl ?_
  refine wp_sr ?_
  refine wl_as HF rfl rfl rfl rfl rfl ?_; clear HF a; intro a HF
  refine wl_ne ?_
  refine wp_ret ?_
  refine ex_then_ret ?_
  refine bp_ret1 HF Tryz.results7 (HF.res rfl) ?_
  exact ⟨by have h9 := dcc1; unfold leftOf at h9 ⊢; split at h9 <;> first | omega | (rename_i h8; rw [if_pos h8]), HS.out.bel⟩
 ·clear HF; have HF := HF1; clear HF1
  have dcc1 := of_decide_eq_false cc1
  refine wc_false HF rfl ?_
  refine wp_skip ?_
  refine ex_then ?_
  refine wp_sr ?_
  refine wl_mv HF rfl rfl rfl rfl rfl ?_; clear HF a; intro a HF
  refine wl_as HF rfl rfl rfl rfl rfl ?_; clear HF a; intro a HF
  refine wl_ne ?_
  refine wp_ret ?_
  refine bp_ret1 HF Tryz.results7 (HF.res rfl) ?_
  exact ⟨rfl, HS.out.bel⟩

theorem szRaid_any (v : Value) (x : RaidD) (l : Int) (w : World) (hl0 : 0 ≤ l) (hl1 : l ≤ 1048576) (hr : RaidD.Reads w v x) (hs : x.Small) : Calls Tryz.prog 7 #[v, .int .i64 l] w fun e w' => e = .returned (.int .i64 (leftOf l x.bulk)) ∧ Below w.heap.size w w' := by
  obtain ⟨a, c, ps, rfl, hx, hr, hp⟩ := hr
  have := szRaid_x a c ps l w hl0 hl1 (by have := hs.n; rw [← hx, dsOf_len] at this; exact this) (fun k => by rw [← dsOf_get, hx]; exact hs.d k) hr hp
  unfold RaidD.bulk
  rw [← hx, dsOf_len]
  exact this

theorem repl_set {α : Type} (qs : List α) (n : Nat) (z q : α) (hn : qs.length < n) : (qs ++ List.replicate (n - qs.length) z).set qs.length q = (qs ++ [q]) ++ List.replicate (n - (qs ++ [q]).length) z := by
  rw [List.length_append, List.length_singleton, List.set_append_right _ _ (Nat.le_refl _), Nat.sub_self, show n - qs.length = (n - (qs.length + 1)) + 1 by omega, List.replicate_succ, List.set_cons_zero, List.append_assoc]; rfl

theorem toDiskH_any (p : HD) (w0 : World) (hf : p.d.Fit) (hp : p.reads w0) : Calls Tryz.prog 69 #[.agg #[.slice p.a0 p.d.fCells.length p.c0, .slice p.a1 p.d.fWaits.length p.c1, .bool p.d.fGone]] w0 fun e w' => ∃ q : HD, q.d = p.d ∧ e = .returned (.agg #[.slice q.a0 q.d.fCells.length q.c0, .slice q.a1 q.d.fWaits.length q.c1, .bool q.d.fGone]) ∧ St w0 [q.asr] w' := by
  refine (toDisk_any _ p.d w0 hf ⟨_, _, _, _, rfl, hp.rc, hp.rw⟩).mono ?_
  rintro e w' ⟨v, rfl, ho, hb⟩
  obtain ⟨q, h1, rfl, h3⟩ := hd_of_own ho hb
  exact ⟨q, h1, rfl, h3⟩

theorem toDiskS_any (a0 : Option Addr) (c0 : Nat) (ps : List HD) (w0 : World) (hn : ps.length ≤ 1048576) (hf : ∀ k, (ps.getD k default).d.Fit) (hR : Rd HD.cells 3 w0 a0 ps.length ps) (hP : ∀ k, k < ps.length → (ps.getD k default).reads w0) : Calls Tryz.prog 33 #[.slice a0 ps.length c0] w0 fun e w' => ∃ ao cp qs, e = .returned (.slice ao qs.length cp) ∧ dsOf qs = dsOf ps ∧ St w0 [rowA HD.cells 3 94 (.slice ao qs.length cp) qs, sepA (qs.map HD.asr)] w' := by
 have HR := Bx.mk hR; have HP := Bx.mk hP; clear hR hP
 have HS := Bx.mk (St.start w0)
 refine wc_enter Tryz.func33 rfl Tryz.ntmps33 [(0, .slice a0 ps.length c0)] ⟨rfl, trivial⟩ rfl ?_; intro a HF
 refine wp_sr ?_
 refine wl_as HF rfl rfl rfl rfl rfl ?_; clear HF a; intro a HF
 refine wl_ne ?_
 refine wp_sr ?_
 refine wl_mv HF rfl rfl rfl rfl rfl ?_; clear HF a; intro a HF
 refine wl_y rfl HF rfl rfl (yl_lenL (e := 104) (size := 3) rfl (HF.ev rfl) (by kernel_rfl)) ?_; clear HF a; intro a HF
 refine wl_makeN (enc := HD.cells) (n := ps.length) rfl HF rfl rfl rfl elemD (HF.ev rfl) (HF.ev rfl) (by omega) (by omega) (by omega) (by unfold maxLen; omega) (default : HD) (u := .agg #[.slice none 0 0, .slice none 0 0, .bool false]) (by kernel_rfl) rfl rfl HS.out ?_; clear HF HS a; intro b1 a w1 HF HS; replace HS := Bx.mk HS
 refine wl_as HF rfl rfl rfl rfl rfl ?_; clear HF a; intro a HF
 refine wl_ne ?_
 refine wp_seq ?_
 refine wp_sr ?_
 refine wl_as HF rfl rfl rfl rfl rfl ?_; clear HF a; intro a HF
 refine wl_ne ?_
 refine wp_block ?_
 replace HS := Bx.mk HS.out.hdNil.swap
 refine wc_loop (ι := Nat) (fun k a w => ∃ (qs : List HD), (k ≤ ps.length ∧ qs.length = k ∧ dsOf qs = dsOf (ps.take k)) ∧ Fr 23 a [(0, .slice a0 ps.length c0), (3, .slice (some ⟨b1, 0, none⟩) ps.length ps.length), (4, .int .i64 (qs.length : Int))] ∧ St w0 ([rowA HD.cells 3 94 (.slice (some ⟨b1, 0, none⟩) ps.length ps.length) (qs ++ List.replicate (ps.length - qs.length) (default : HD)), sepA (qs.map HD.asr)]) w) (fun k => ps.length - k) 0 ⟨[], ⟨Nat.zero_le _, rfl, rfl⟩, HF.less _ ⟨rfl, rfl, rfl, trivial⟩, HS.out⟩ ?_
 clear HF HS; clear a
 rintro k a w2 ⟨qs, ⟨hk, hql, hq⟩, HF, HS⟩
 replace HS := Bx.mk HS
 have hlr : (qs ++ List.replicate (ps.length - qs.length) (default : HD)).length = ps.length := by simp; omega
 refine wp_seq ?_
 refine wp_sr ?_
 refine wl_mv HF rfl rfl rfl rfl rfl ?_; clear HF a; intro a HF
 refine wl_mv HF rfl rfl rfl rfl rfl ?_; clear HF a; intro a HF
 refine wl_y rfl HF rfl rfl (yl_lenL (e := 104) (size := 3) rfl (HF.ev rfl) (by kernel_rfl)) ?_; clear HF a; intro a HF
 refine wl_y rfl HF rfl rfl (yl_lssI rfl (HF.ev rfl) (HF.ev rfl)) ?_; clear HF a; intro a HF
 refine wl_ne ?_
 refine HF.cases 11 rfl (fun cc1 HF1 => ?_) (fun cc1 HF1 => ?_)
 ·clear HF; have HF := HF1; clear HF1
  have dcc1 := of_decide_eq_true cc1
  refine wc_true HF rfl ?_
  refine wp_skip ?_
  refine ex_then ?_
  refine wp_seq ?_
  refine wp_block ?_
  obtain ⟨g_r, o_r, r0⟩ := HR.out.opn; have R_r := Bx.mk r0; clear r0
  refine wp_region_lit ?_
  refine wl_mv HF rfl rfl rfl rfl rfl ?_; clear HF a; intro a HF
  refine wl_mv HF rfl rfl rfl rfl rfl ?_; clear HF a; intro a HF
  refine wl_mv HF rfl rfl rfl rfl rfl ?_; clear HF a; intro a HF
  refine wl_mv HF rfl rfl rfl rfl rfl ?_; clear HF a; intro a HF
  refine wl_y rfl HF rfl rfl (yl_indexAddrR (e := 104) (i := k) (size := 3) rfl (HF.ev rfl) (HF.ev rfl) (by kernel_rfl) (by omega) (by omega) (R_r.out.ao k (by omega))) ?_; clear HF a; intro a HF
  refine wl_y rfl HF rfl rfl (yl_loadR (cs := [.slice ((ps.getD k default).a0) ((ps.getD k default).d.fCells.length) ((ps.getD k default).c0), .slice ((ps.getD k default).a1) ((ps.getD k default).d.fWaits.length) ((ps.getD k default).c1), .bool ((ps.getD k default).d.fGone)]) rfl (HF.ev rfl) (R_r.out.elem HS.out (get_getD (xs := ps) (j := k) (d := default) (by omega))) (by kernel_rfl)) ?_; clear HF a; intro a HF
  refine wl_call rfl HF rfl (enter_of Tryz.func69 (by kernel_rfl) rfl) (args := #[.agg #[.slice ((ps.getD k default).a0) ((ps.getD k default).d.fCells.length) ((ps.getD k default).c0), .slice ((ps.getD k default).a1) ((ps.getD k default).d.fWaits.length) ((ps.getD k default).c1), .bool ((ps.getD k default).d.fGone)]]) rfl (toDiskH_any (ps.getD k default) _ (hf k) ((HP.out k (by omega)).below HS.out.bel)) rfl rfl ?_
  rintro _ w3 ⟨⟨qa2, qc2, qb2, qe2, qd⟩, hqd, rfl, hs⟩; obtain rfl : qd = (ps.getD k default).d := hqd; refine ⟨_, rfl, ?_⟩
  replace HS := Bx.mk ((HS.out.add hs)); clear hs HF; clear a; intro a HF
  replace HS : Bx (St w0 ([HD.asr ⟨qa2, qc2, qb2, qe2, (ps.getD k default).d⟩, rowA HD.cells 3 94 (.slice (some ⟨b1, 0, none⟩) ps.length ps.length) (qs ++ List.replicate (ps.length - qs.length) (default : HD)), sepA (qs.map HD.asr)]) _) := ⟨HS.out⟩
  refine wl_y rfl HF rfl rfl (yl_indexAddr (e := 94) (i := qs.length) (size := 3) rfl (HF.ev rfl) (HF.ev rfl) (by kernel_rfl) rfl (by omega)) ?_; clear HF a; intro a HF
  refine wl_storeEn HD.cells_len rfl rfl rfl (HF.ev rfl) (HF.ev rfl) (by kernel_rfl) HS.out 1 rfl (by omega) (z := (⟨qa2, qc2, qb2, qe2, (ps.getD k default).d⟩ : HD)) rfl (by first | rfl | simp [Value.oneCell']) ?_; clear HS; intro w4 HS; replace HS := Bx.mk HS
  refine wpList_nil ?_
  refine ex_block ?_
  refine ex_then ?_
  refine wp_region_lit ?_
  refine wl_mv HF rfl rfl rfl rfl rfl ?_; clear HF a; intro a HF
  refine wl_y rfl HF rfl rfl (yl_addI rfl (HF.ev rfl) (HF.ev rfl) (i64w (by omega))) ?_; clear HF a; intro a HF
  refine wl_as HF rfl rfl rfl rfl rfl ?_; clear HF a; intro a HF
  refine wl_ne ?_
  rw [repl_set qs ps.length default (⟨qa2, qc2, qb2, qe2, (ps.getD k default).d⟩ : HD) (by omega)] at HS
  replace HS := Bx.mk (St.hdSnoc (((HS.out).pick 2 rfl).pick 1 rfl))
  replace HS := Bx.mk ((((HS.out).pick 0 rfl).pick 1 rfl))
  have hnext : dsOf (qs ++ [(⟨qa2, qc2, qb2, qe2, (ps.getD k default).d⟩ : HD)]) = dsOf (ps.take (k + 1)) := by rw [dsOf_append, hq, dsOf_take_succ ps k (by omega)]; rfl
  exact ⟨k + 1, ⟨qs ++ [(⟨qa2, qc2, qb2, qe2, (ps.getD k default).d⟩ : HD)], ⟨by omega, by rw [List.length_append]; show qs.length + 1 = k + 1; omega, hnext⟩, HF.less _ ⟨rfl, rfl, (by show _ = some (Value.int .i64 (((qs ++ [(⟨qa2, qc2, qb2, qe2, (ps.getD k default).d⟩ : HD)]).length : Nat) : Int)); rw [List.length_append]; rfl), trivial⟩, HS.out⟩, (by omega)⟩
 ·clear HF; have HF := HF1; clear HF1
  have dcc1 := of_decide_eq_false cc1
  refine wc_false HF rfl ?_
  refine wp_exit ?_
  refine ex_then_exit ?_
  refine ex_then_exit ?_
  refine ex_block_hit ?_
  refine ex_then ?_
  refine wp_sr ?_
  refine wl_mv HF rfl rfl rfl rfl rfl ?_; clear HF a; intro a HF
  refine wl_as HF rfl rfl rfl rfl rfl ?_; clear HF a; intro a HF
  refine wl_ne ?_
  refine wp_ret ?_
  refine bp_ret1 HF Tryz.results33 (HF.res rfl) ?_
  replace HS : Bx (St w0 ([rowA HD.cells 3 94 (.slice (some ⟨b1, 0, none⟩) ps.length ps.length) (qs ++ List.replicate (ps.length - qs.length) (default : HD)), sepA (qs.map HD.asr)]) _) := ⟨((HS.out).pick 1 rfl).pick 1 rfl⟩
  have hkn : qs.length = ps.length := by omega
  have HT := HS.out
  rw [show ps.length - qs.length = 0 by omega, List.replicate_zero, List.append_nil] at HT
  rw [show k = ps.length by omega, List.take_length] at hq
  exact ⟨_, _, qs, by rw [hkn], hq, by rw [hkn]; exact HT⟩

theorem toRaid_x (a0 : Option Addr) (c0 : Nat) (ps : List HD) (w0 : World) (hn : ps.length ≤ 1048576) (hf : ∀ k, (ps.getD k default).d.Fit) (hR : Rd HD.cells 3 w0 a0 ps.length ps) (hP : ∀ k, k < ps.length → (ps.getD k default).reads w0) : Calls Tryz.prog 9 #[.agg #[.slice a0 ps.length c0]] w0 fun e w' => ∃ ao cp qs, e = .returned (.agg #[.slice ao qs.length cp]) ∧ dsOf qs = dsOf ps ∧ St w0 [rowA HD.cells 3 94 (.slice ao qs.length cp) qs, sepA (qs.map HD.asr)] w' := by
 have HR := Bx.mk hR; have HP := Bx.mk hP; clear hR hP
 have HS := Bx.mk (St.start w0)
 refine wc_enter Tryz.func9 rfl Tryz.ntmps9 [(0, .agg #[.slice a0 ps.length c0])] ⟨rfl, trivial⟩ rfl ?_; intro a HF
 refine wp_sr ?_
 refine wl_box rfl HF rfl (HF.ev rfl) (Z := [.slice a0 ps.length c0]) rfl rfl rfl rfl HS.out ?_; clear HF HS a; intro a w1 b1 HF HS; replace HS := Bx.mk HS
 refine wl_alloc rfl HF rfl rfl rfl (Z := [.slice none 0 0]) (by kernel_rfl) rfl HS.out ?_; clear HF HS a; intro a w2 b2 HF HS; replace HS := Bx.mk HS
 refine wl_ne ?_
 refine wp_sr ?_
 refine wl_alloc rfl HF rfl rfl rfl (Z := [.slice none 0 0]) (by kernel_rfl) rfl HS.out ?_; clear HF HS a; intro a w3 b3 HF HS; replace HS := Bx.mk HS
 refine wl_ne ?_
 refine wp_sr ?_
 refine wl_y rfl HF rfl rfl (yl_fieldAddr (j := 0) rfl (HF.ev rfl) (by kernel_rfl)) ?_; clear HF a; intro a HF
 refine wl_y rfl HF rfl rfl (yl_load (v := .slice a0 ps.length c0) rfl (HF.ev rfl) (((HS.out.box 2 rfl).cell 0).trans rfl) (by kernel_rfl)) ?_; clear HF a; intro a HF
 refine wl_call rfl HF rfl (enter_of Tryz.func33 (by kernel_rfl) rfl) (args := #[.slice a0 ps.length c0]) rfl (toDiskS_any a0 c0 ps _ hn hf (HR.out.below HS.out.bel) (fun k hk => (HP.out k hk).below HS.out.bel)) rfl rfl ?_
 rintro _ w4 ⟨ao, cp, qs, rfl, hq, hs⟩
 refine ⟨_, rfl, ?_⟩; replace HS := Bx.mk (HS.out.add hs); clear hs HF; clear a; intro a HF
 replace HS : Bx (St w0 ([rowA HD.cells 3 94 (.slice ao qs.length cp) qs, sepA (qs.map HD.asr), boxA b3 1 34 (.agg #[.slice none 0 0]), boxA b2 1 34 (.agg #[.slice none 0 0]), boxA b1 1 24 (.agg #[.slice a0 ps.length c0])]) _) := ⟨HS.out⟩
 refine wl_y rfl HF rfl rfl (yl_fieldAddr (j := 0) rfl (HF.ev rfl) (by kernel_rfl)) ?_; clear HF a; intro a HF
 refine wl_storeF rfl rfl rfl (HF.ev rfl) (HF.ev rfl) (by kernel_rfl) HS.out 2 rfl rfl rfl ?_; clear HS; intro w5 HS; replace HS := Bx.mk HS
 have HS : Bx (St w0 ([rowA HD.cells 3 94 (.slice ao qs.length cp) qs, sepA (qs.map HD.asr), boxA b3 1 34 (.agg #[.slice ao qs.length cp]), boxA b2 1 34 (.agg #[.slice none 0 0]), boxA b1 1 24 (.agg #[.slice a0 ps.length c0])]) _) := HS
 refine wl_ne ?_
 refine wp_sr ?_
 refine wl_y rfl HF rfl rfl (yl_loadR (cs := [.slice ao qs.length cp]) rfl (HF.ev rfl) ((HS.out.box 2 rfl).sub 0 1) (by kernel_rfl)) ?_; clear HF a; intro a HF
 refine wl_storeBox rfl HF rfl rfl (HF.ev rfl) (HF.ev rfl) HS.out 3 rfl (cells_lit [.slice ao qs.length cp] rfl rfl) (by kernel_rfl) ?_; clear HS; intro w6 HS; replace HS := Bx.mk HS
 have HS : Bx (St w0 ([rowA HD.cells 3 94 (.slice ao qs.length cp) qs, sepA (qs.map HD.asr), boxA b3 1 34 (.agg #[.slice ao qs.length cp]), boxA b2 1 34 (.agg #[.slice ao qs.length cp]), boxA b1 1 24 (.agg #[.slice a0 ps.length c0])]) _) := HS
 refine wl_ne ?_
 refine wp_ret ?_
 refine bp_ret1 HF Tryz.results9 (HF.resBox rfl (HS.out.box 3 rfl) (by kernel_rfl)) ?_
 replace HS : Bx (St w0 ([rowA HD.cells 3 94 (.slice ao qs.length cp) qs, sepA (qs.map HD.asr), boxA b3 1 34 (.agg #[.slice ao qs.length cp]), boxA b2 1 34 (.agg #[.slice ao qs.length cp]), boxA b1 1 24 (.agg #[.slice a0 ps.length c0])]) _) := ⟨((HS.out).pick 1 rfl).pick 1 rfl⟩
 exact ⟨_, _, qs, rfl, hq, (((HS.out.erase 4).erase 3).erase 2)⟩

theorem toRaid_any (v : Value) (x : RaidD) (w : World) (hf : x.Fit) (hr : RaidD.Reads w v x) : Calls Tryz.prog 9 #[v] w fun e w' => ∃ v', e = .returned v' ∧ RaidD.Own w' w.heap.size w'.heap.size v' x ∧ Below w.heap.size w w' := by
  obtain ⟨a, c, ps, rfl, hx, hr, hp⟩ := hr
  refine (toRaid_x a c ps w (by have := hf.n; rw [← hx, dsOf_len] at this; exact this) (fun k => by rw [← dsOf_get, hx]; exact hf.d k) hr hp).mono ?_
  rintro e w' ⟨ao, cp, qs, rfl, hq, hs⟩
  exact ⟨_, rfl, RaidD.st_own hs (hq.trans hx), hs.bel⟩

theorem eqDiskS_any (a0 : Option Addr) (c0 : Nat) (ps : List HD) (a1 : Option Addr) (c1 : Nat) (qs : List HD) (w0 : World) (hq : dsOf qs = dsOf ps) (hn : ps.length ≤ 1048576) (hf : ∀ k, (ps.getD k default).d.Fit) (hR : Rd HD.cells 3 w0 a0 ps.length ps) (hP : ∀ k, k < ps.length → (ps.getD k default).reads w0) (hR2 : Rd HD.cells 3 w0 a1 qs.length qs) (hP2 : ∀ k, k < qs.length → (qs.getD k default).reads w0) : Calls Tryz.prog 39 #[.slice a0 ps.length c0, .slice a1 qs.length c1] w0 fun e w' => e = .returned (.bool true) ∧ Below w0.heap.size w0 w' := by
 have HR := Bx.mk hR; have HP := Bx.mk hP; clear hR hP; have HR2 := Bx.mk hR2; have HP2 := Bx.mk hP2; clear hR2 hP2
 have hlq : qs.length = ps.length := by rw [← dsOf_len, hq, dsOf_len]
 have HS := Bx.mk (St.start w0)
 refine wc_enter Tryz.func39 rfl Tryz.ntmps39 [(0, .slice a0 ps.length c0), (1, .slice a1 qs.length c1)] ⟨rfl, rfl, trivial⟩ rfl ?_; intro a HF
 refine wp_sr ?_
 refine wl_as HF rfl rfl rfl rfl rfl ?_; clear HF a; intro a HF
 refine wl_ne ?_
 refine wp_seq ?_
 refine wp_sr ?_
 refine wl_mv HF rfl rfl rfl rfl rfl ?_; clear HF a; intro a HF
 refine wl_y rfl HF rfl rfl (yl_lenL (e := 94) (size := 3) rfl (HF.ev rfl) (by kernel_rfl)) ?_; clear HF a; intro a HF
 refine wl_mv HF rfl rfl rfl rfl rfl ?_; clear HF a; intro a HF
 refine wl_y rfl HF rfl rfl (yl_lenL (e := 94) (size := 3) rfl (HF.ev rfl) (by kernel_rfl)) ?_; clear HF a; intro a HF
 refine wl_y rfl HF rfl rfl (yl_neqI rfl (HF.ev rfl) (HF.ev rfl)) ?_; clear HF a; intro a HF
 refine wl_ne ?_
 refine HF.cases 10 rfl (fun cc1 HF1 => ?_) (fun cc1 HF1 => ?_)
 ·clear HF; have HF := HF1; clear HF1
  have dcc1 := bne_iff_ne.1 cc1
  omega
 ·clear HF; have HF := HF1; clear HF1
  have dcc1 := bne_eq_false_iff_eq.1 cc1
  refine wc_false HF rfl ?_
  refine wp_skip ?_
  refine ex_then ?_
  refine wp_seq ?_
  refine wp_sr ?_
  refine wl_as HF rfl rfl rfl rfl rfl ?_; clear HF a; intro a HF
  refine wl_ne ?_
  refine wp_block ?_
  refine wc_loop (ι := Nat) (fun k a w => (k ≤ ps.length) ∧ Fr 27 a [(0, .slice a0 ps.length c0), (1, .slice a1 qs.length c1), (5, .int .i64 (k : Int))] ∧ St w0 ([]) w) (fun k => ps.length - k) 0 ⟨Nat.zero_le _, HF.less _ ⟨rfl, rfl, rfl, trivial⟩, HS.out⟩ ?_
  clear HF HS; clear a
  rintro k a w1 ⟨hk, HF, HS⟩
  replace HS := Bx.mk HS
  refine wp_seq ?_
  refine wp_sr ?_
  refine wl_mv HF rfl rfl rfl rfl rfl ?_; clear HF a; intro a HF
  refine wl_mv HF rfl rfl rfl rfl rfl ?_; clear HF a; intro a HF
  refine wl_y rfl HF rfl rfl (yl_lenL (e := 94) (size := 3) rfl (HF.ev rfl) (by kernel_rfl)) ?_; clear HF a; intro a HF
  refine wl_y rfl HF rfl rfl (yl_lssI rfl (HF.ev rfl) (HF.ev rfl)) ?_; clear HF a; intro a HF
  refine wl_ne ?_
  refine HF.cases 14 rfl (fun cc2 HF1 => ?_) (fun cc2 HF1 => ?_)
  ·clear HF; have HF := HF1; clear HF1
   have dcc2 := of_decide_eq_true cc2
   refine wc_true HF rfl ?_
   refine wp_skip ?_
   refine ex_then ?_
   refine wp_seq ?_
   refine wp_block ?_
   refine wp_seq ?_
   obtain ⟨g_r, o_r, r0⟩ := HR.out.opn; have R_r := Bx.mk r0; clear r0
   obtain ⟨g_s, o_s, r0⟩ := HR2.out.opn; have R_s := Bx.mk r0; clear r0
   have hqk : (qs.getD k default).d = (ps.getD k default).d := by rw [← dsOf_get, ← dsOf_get, hq]
   refine wr_quiet (by kernel_rfl) (by kernel_rfl) HS.out ?_
   refine wq_y rfl HF rfl rfl (fun _ HS => (yl_move rfl (HF.ev rfl))) ?_; clear HF a; intro a HF
   refine wq_y rfl HF rfl rfl (fun _ HS => (yl_move rfl (HF.ev rfl))) ?_; clear HF a; intro a HF
   refine wq_y rfl HF rfl rfl (fun _ HS => (yl_indexAddrR (e := 94) (i := k) (size := 3) rfl (HF.ev rfl) (HF.ev rfl) (by kernel_rfl) rfl (by omega) (R_r.out.ao k (by omega)))) ?_; clear HF a; intro a HF
   refine wq_y rfl HF rfl rfl (fun _ HS => (yl_loadR (cs := [.slice ((ps.getD k default).a0) ((ps.getD k default).d.fCells.length) ((ps.getD k default).c0), .slice ((ps.getD k default).a1) ((ps.getD k default).d.fWaits.length) ((ps.getD k default).c1), .bool ((ps.getD k default).d.fGone)]) rfl (HF.ev rfl) (R_r.out.elem HS (get_getD (xs := ps) (j := k) (d := default) (by omega))) (by kernel_rfl))) ?_; clear HF a; intro a HF
   refine wq_y rfl HF rfl rfl (fun _ HS => (yl_move rfl (HF.ev rfl))) ?_; clear HF a; intro a HF
   refine wq_y rfl HF rfl rfl (fun _ HS => (yl_move rfl (HF.ev rfl))) ?_; clear HF a; intro a HF
   refine wq_y rfl HF rfl rfl (fun _ HS => (yl_indexAddrR (e := 94) (i := k) (size := 3) rfl (HF.ev rfl) (HF.ev rfl) (by kernel_rfl) rfl (by omega) (R_s.out.ao k (by omega)))) ?_; clear HF a; intro a HF
   refine wq_y rfl HF rfl rfl (fun _ HS => (yl_loadR (cs := [.slice ((qs.getD k default).a0) ((qs.getD k default).d.fCells.length) ((qs.getD k default).c0), .slice ((qs.getD k default).a1) ((qs.getD k default).d.fWaits.length) ((qs.getD k default).c1), .bool ((qs.getD k default).d.fGone)]) rfl (HF.ev rfl) (R_s.out.elem HS (get_getD (xs := qs) (j := k) (d := default) (by omega))) (by kernel_rfl))) ?_; clear HF a; intro a HF
   refine wq_call rfl HF rfl (enter_of Tryz.func82 (by kernel_rfl) rfl) (args := #[.agg #[.slice ((ps.getD k default).a0) ((ps.getD k default).d.fCells.length) ((ps.getD k default).c0), .slice ((ps.getD k default).a1) ((ps.getD k default).d.fWaits.length) ((ps.getD k default).c1), .bool ((ps.getD k default).d.fGone)], .agg #[.slice ((qs.getD k default).a0) ((qs.getD k default).d.fCells.length) ((qs.getD k default).c0), .slice ((qs.getD k default).a1) ((qs.getD k default).d.fWaits.length) ((qs.getD k default).c1), .bool ((qs.getD k default).d.fGone)]]) rfl (v := .bool true) (fun _ HS => (by have := eqDisk_yes (.agg #[.slice ((ps.getD k default).a0) ((ps.getD k default).d.fCells.length) ((ps.getD k default).c0), .slice ((ps.getD k default).a1) ((ps.getD k default).d.fWaits.length) ((ps.getD k default).c1), .bool ((ps.getD k default).d.fGone)]) (.agg #[.slice ((qs.getD k default).a0) ((qs.getD k default).d.fCells.length) ((qs.getD k default).c0), .slice ((qs.getD k default).a1) ((qs.getD k default).d.fWaits.length) ((qs.getD k default).c1), .bool ((qs.getD k default).d.fGone)]) (ps.getD k default).d _ (hf k) ⟨_, _, _, _, rfl, ((HP.out k (by omega)).below HS.bel).rc, ((HP.out k (by omega)).below HS.bel).rw⟩ (by rw [← hqk]; exact ⟨_, _, _, _, rfl, ((HP2.out k (by omega)).below HS.bel).rc, ((HP2.out k (by omega)).below HS.bel).rw⟩); exact this)) rfl rfl ?_; clear HF a; intro a HF
   refine wq_y rfl HF rfl rfl (fun _ HS => (yl_not rfl (HF.ev rfl))) ?_; clear HF a; intro a HF
   refine wpQuiet_nil ?_; intro w2 HS; replace HS := Bx.mk HS
   refine ex_then ?_
   refine wc_false HF rfl ?_
   refine wp_skip ?_
   refine ex_block ?_
   refine ex_then ?_
   refine wp_region_lit ?_
   refine wl_mv HF rfl rfl rfl rfl rfl ?_; clear HF a; intro a HF
   refine wl_y rfl HF rfl rfl (yl_addI rfl (HF.ev rfl) (HF.ev rfl) (i64w (by omega))) ?_; clear HF a; intro a HF
   refine wl_as HF rfl rfl rfl rfl rfl ?_; clear HF a; intro a HF
   refine wl_ne ?_
   exact ⟨k + 1, ⟨(by omega), HF.less _ ⟨rfl, rfl, rfl, trivial⟩, HS.out⟩, (by omega)⟩
  ·clear HF; have HF := HF1; clear HF1
   have dcc2 := of_decide_eq_false cc2
   refine wc_false HF rfl ?_
   refine wp_exit ?_
   refine ex_then_exit ?_
   refine ex_then_exit ?_
   refine ex_block_hit ?_
   refine ex_then ?_
   refine wp_sr ?_
   refine wl_as HF rfl rfl rfl rfl rfl ?_; clear HF a; intro a HF
   refine wl_ne ?_
   refine wp_ret ?_
   refine bp_ret1 HF Tryz.results39 (HF.res rfl) ?_
   exact ⟨rfl, HS.out.bel⟩

theorem eqRaid_x (a0 : Option Addr) (c0 : Nat) (ps : List HD) (a1 : Option Addr) (c1 : Nat) (qs : List HD) (w0 : World) (hq : dsOf qs = dsOf ps) (hn : ps.length ≤ 1048576) (hf : ∀ k, (ps.getD k default).d.Fit) (hR : Rd HD.cells 3 w0 a0 ps.length ps) (hP : ∀ k, k < ps.length → (ps.getD k default).reads w0) (hR2 : Rd HD.cells 3 w0 a1 qs.length qs) (hP2 : ∀ k, k < qs.length → (qs.getD k default).reads w0) : Calls Tryz.prog 12 #[.agg #[.slice a0 ps.length c0], .agg #[.slice a1 qs.length c1]] w0 fun e w' => e = .returned (.bool true) ∧ Below w0.heap.size w0 w' := by
 have HR := Bx.mk hR; have HP := Bx.mk hP; clear hR hP; have HR2 := Bx.mk hR2; have HP2 := Bx.mk hP2; clear hR2 hP2
 have hlq : qs.length = ps.length := by rw [← dsOf_len, hq, dsOf_len]
 have HS := Bx.mk (St.start w0)
 refine wc_enter Tryz.func12 rfl Tryz.ntmps12 [(0, .agg #[.slice a0 ps.length c0]), (1, .agg #[.slice a1 qs.length c1])] ⟨rfl, rfl, trivial⟩ rfl ?_; intro a HF
 refine wp_sr ?_
 refine wl_box rfl HF rfl (HF.ev rfl) (Z := [.slice a0 ps.length c0]) rfl rfl rfl rfl HS.out ?_; clear HF HS a; intro a w1 b1 HF HS; replace HS := Bx.mk HS
 refine wl_box rfl HF rfl (HF.ev rfl) (Z := [.slice a1 qs.length c1]) rfl rfl rfl rfl HS.out ?_; clear HF HS a; intro a w2 b2 HF HS; replace HS := Bx.mk HS
 refine wl_as HF rfl rfl rfl rfl rfl ?_; clear HF a; intro a HF
 refine wl_ne ?_
 refine wp_seq ?_
 refine wp_sr ?_
 refine wl_y rfl HF rfl rfl (yl_fieldAddr (j := 0) rfl (HF.ev rfl) (by kernel_rfl)) ?_; clear HF a; intro a HF
 refine wl_y rfl HF rfl rfl (yl_load (v := .slice a0 ps.length c0) rfl (HF.ev rfl) (((HS.out.box 1 rfl).cell 0).trans rfl) (by kernel_rfl)) ?_; clear HF a; intro a HF
 refine wl_y rfl HF rfl rfl (yl_fieldAddr (j := 0) rfl (HF.ev rfl) (by kernel_rfl)) ?_; clear HF a; intro a HF
 refine wl_y rfl HF rfl rfl (yl_load (v := .slice a1 qs.length c1) rfl (HF.ev rfl) (((HS.out.box 0 rfl).cell 0).trans rfl) (by kernel_rfl)) ?_; clear HF a; intro a HF
 refine wl_callB rfl HF rfl (enter_of Tryz.func39 (by kernel_rfl) rfl) (args := #[.slice a0 ps.length c0, .slice a1 qs.length c1]) rfl (v := .bool true) (eqDiskS_any a0 c0 ps a1 c1 qs _ hq hn hf (HR.out.below HS.out.bel) (fun k hk => (HP.out k hk).below HS.out.bel) (HR2.out.below HS.out.bel) (fun k hk => (HP2.out k hk).below HS.out.bel)) rfl rfl HS.out ?_; clear HF HS a; intro w3 a HS HF; replace HS := Bx.mk HS
 refine wl_y rfl HF rfl rfl (yl_not rfl (HF.ev rfl)) ?_; clear HF a; intro a HF
 refine wl_ne ?_
 refine wc_false HF rfl ?_
 refine wp_skip ?_
 refine ex_then ?_
 refine wp_sr ?_
 refine wl_as HF rfl rfl rfl rfl rfl ?_; clear HF a; intro a HF
 refine wl_ne ?_
 refine wp_ret ?_
 refine bp_ret1 HF Tryz.results12 (HF.res rfl) ?_
 exact ⟨rfl, HS.out.bel⟩

theorem eqRaid_yes (u v : Value) (x : RaidD) (w : World) (hf : x.Fit) (hr : RaidD.Reads w u x) (hs : RaidD.Reads w v x) : Calls Tryz.prog 12 #[u, v] w fun e w' => e = .returned (.bool true) ∧ Below w.heap.size w w' := by
  obtain ⟨a, c, ps, rfl, hx, hr, hp⟩ := hr
  obtain ⟨b, d, qs, rfl, hy, hr2, hp2⟩ := hs
  exact eqRaid_x a c ps b d qs w (hy.trans hx.symm) (by have := hf.n; rw [← hx, dsOf_len] at this; exact this) (fun k => by rw [← dsOf_get, hx]; exact hf.d k) hr hp hr2 hp2

end Go.Proofs.YtoaopmkbfifhaaaGreatDoor

/- Marking sets of disks. -/
namespace Go.Proofs.YtoaopmkbfifhaaaGreatDoor
set_option linter.unusedVariables false
set_option linter.unusedSimpArgs false
set_option maxHeartbeats 1000000
set_option maxRecDepth 100000
open Go.RowKit

def DiskD.markG (d : DiskD) (k : Int) : DiskD := { fCells := marks markT 1 k d.fCells.length, fWaits := marks mkWait 2 (k + (d.fCells.length : Int) * 1) d.fWaits.length, fGone := ((k + (d.fCells.length : Int) * 1 + (d.fWaits.length : Int) * 2) % 3 == 0) }
def DiskD.pastG (d : DiskD) (k : Int) : Int := k + (d.fCells.length : Int) * 1 + (d.fWaits.length : Int) * 2 + 1
def pastTo (ds : List DiskD) (k : Int) : Nat → Int
  | 0 => k
  | j + 1 => (ds.getD j default).pastG (pastTo ds k j)
def markTo (ds : List DiskD) (k : Int) (j : Nat) : List DiskD := (List.range ds.length).map fun i => if i < j then (ds.getD i default).markG (pastTo ds k i) else ds.getD i default
theorem markTo_zero (ds : List DiskD) (k : Int) : markTo ds k 0 = ds := by
  unfold markTo
  apply List.ext_getElem
  · simp
  · intro i h1 h2
    simp [List.getD, h2]
theorem markTo_len (ds : List DiskD) (k : Int) (j : Nat) : (markTo ds k j).length = ds.length := by simp [markTo]
theorem markTo_get (ds : List DiskD) (k : Int) (j i : Nat) (hi : i < ds.length) : (markTo ds k j).getD i default = if i < j then (ds.getD i default).markG (pastTo ds k i) else ds.getD i default := by
  rw [getD_get (by rw [markTo_len]; exact hi)]
  simp [markTo]
theorem markTo_succ (ds : List DiskD) (k : Int) (j : Nat) (hj : j < ds.length) : (markTo ds k j).set j ((ds.getD j default).markG (pastTo ds k j)) = markTo ds k (j + 1) := by
  apply List.ext_getElem
  · simp [markTo]
  · intro i h1 h2
    have hi : i < ds.length := by rw [markTo_len] at h2; exact h2
    rw [List.getElem_set]
    have e1 := markTo_get ds k j i hi
    have e2 := markTo_get ds k (j + 1) i hi
    rw [getD_get (by rw [markTo_len]; exact hi)] at e1 e2
    rw [e1, e2]
    by_cases h : j = i
    · subst h; rw [if_pos rfl, if_pos (by omega)]
    · rw [if_neg h]
      by_cases h2 : i < j
      · rw [if_pos h2, if_pos (by omega)]
      · rw [if_neg h2, if_neg (by omega)]
theorem pastTo_le (ds : List DiskD) (k : Int) : ∀ j, j ≤ ds.length → k ≤ pastTo ds k j ∧ pastTo ds k j ≤ k + 2 * (tot lenT (ds.take j) : Nat) + j := by
  intro j
  induction j with
  | zero => intro _; simp [pastTo, tot]
  | succ j ih =>
    intro hj
    have := ih (by omega)
    have ht := tot_get lenT (ds := ds) j (by omega)
    unfold pastTo DiskD.pastG
    have : lenT (ds.getD j default) = (ds.getD j default).fCells.length + (ds.getD j default).fWaits.length := rfl
    rw [ht]
    omega
def RaidD.marked (x : RaidD) (k : Int) : RaidD := ⟨markTo x.fDisks k x.fDisks.length⟩
def RaidD.past (x : RaidD) (k : Int) : Int := pastTo x.fDisks k x.fDisks.length
theorem RaidD.past_pos1 (x : RaidD) : 0 < x.past 1 := by
  have := (pastTo_le x.fDisks 1 x.fDisks.length (Nat.le_refl _)).1
  unfold RaidD.past; omega
/-- A header and its rows, marked. -/
def HD.wth (p : HD) (d : DiskD) : HD := ⟨p.a0, p.c0, p.a1, p.c1, d⟩
theorem hd_marked {W w : World} {F : List Asr} (p : HD) (k : Int) (h : St W (rowA encS 1 9 (.slice p.a0 p.d.fCells.length p.c0) (marks markT 1 k p.d.fCells.length) :: rowA WaitD.cells 2 137 (.slice p.a1 p.d.fWaits.length p.c1) (marks mkWait 2 (k + (p.d.fCells.length : Int) * 1) p.d.fWaits.length) :: F) w) : St W ((p.wth (p.d.markG k)).asr :: F) w := by
  refine (St.join (r := [_, _]) (s := F)).1 ?_
  show St W (rowA encS 1 9 (.slice p.a0 (marks markT 1 k p.d.fCells.length).length p.c0) (marks markT 1 k p.d.fCells.length) :: rowA WaitD.cells 2 137 (.slice p.a1 (marks mkWait 2 (k + (p.d.fCells.length : Int) * 1) p.d.fWaits.length).length p.c1) (marks mkWait 2 (k + (p.d.fCells.length : Int) * 1) p.d.fWaits.length) :: F) w
  rw [marks_len, marks_len]
  exact h
theorem hd_cells_marked (p : HD) (k : Int) (b : Bool) (hb : b = ((k + (p.d.fCells.length : Int) * 1 + (p.d.fWaits.length : Int) * 2) % 3 == 0)) : (p.wth (p.d.markG k)).cells = p.cells.set 2 (.bool b) := by
  subst hb
  show [Value.slice p.a0 (marks markT 1 k p.d.fCells.length).length p.c0, Value.slice p.a1 (marks mkWait 2 (k + (p.d.fCells.length : Int) * 1) p.d.fWaits.length).length p.c1, Value.bool _] = _
  rw [marks_len, marks_len]; rfl
theorem vsOf_set (a : Option Addr) (c : Nat) (ps : List HD) (j : Nat) (q : HD) (hj : j < ps.length) (h : q.vs = (ps.getD j default).vs) : vsOf a c (ps.set j q) = vsOf a c ps := by
  unfold vsOf
  rw [List.length_set]
  congr 1
  rw [List.set_eq_take_append_cons_drop, if_pos hj]
  conv => rhs; rw [← List.take_append_drop j ps, List.drop_eq_getElem_cons hj]
  rw [List.flatMap_append, List.flatMap_append, List.flatMap_cons, List.flatMap_cons, h, getD_get hj]
theorem vs_marked (p : HD) (k : Int) : (p.wth (p.d.markG k)).vs = p.vs := by
  show [Value.slice p.a0 (marks markT 1 k p.d.fCells.length).length p.c0, Value.slice p.a1 (marks mkWait 2 (k + (p.d.fCells.length : Int) * 1) p.d.fWaits.length).length p.c1] = _
  rw [marks_len, marks_len]; rfl

theorem markDiskS_any (w0 w : World) (a0 : Option Addr) (c0 : Nat) (ps : List HD) (k : Int) (F : List Asr) (hk0 : 0 < k) (hk1 : k ≤ 100000000000) (hn : ps.length ≤ 1048576) (ht : tot lenT (dsOf ps) ≤ 10000000) (hfd : ∀ k, (ps.getD k default).d.Fit) (hS : St w0 (rowA HD.cells 3 94 (.slice a0 ps.length c0) ps :: sepA (ps.map HD.asr) :: F) w) : Calls Tryz.prog 40 #[.slice a0 ps.length c0, .int .i64 k] w fun e w' => e = .returned (.int .i64 (pastTo (dsOf ps) k ps.length)) ∧ ∃ qs : List HD, qs.length = ps.length ∧ dsOf qs = markTo (dsOf ps) k ps.length ∧ vsOf a0 c0 qs = vsOf a0 c0 ps ∧ St w0 (rowA HD.cells 3 94 (.slice a0 ps.length c0) qs :: sepA (qs.map HD.asr) :: F) w' := by
 have HS := Bx.mk hS; clear hS
 refine wc_enter Tryz.func40 rfl Tryz.ntmps40 [(0, .slice a0 ps.length c0), (1, .int .i64 k)] ⟨rfl, rfl, trivial⟩ rfl ?_; intro a HF
 refine wp_sr ?_
 refine wl_as HF rfl rfl rfl rfl rfl ?_; clear HF a; intro a HF
 refine wl_ne ?_
 refine wp_seq ?_
 refine wp_sr ?_
 refine wl_as HF rfl rfl rfl rfl rfl ?_; clear HF a; intro a HF
 refine wl_ne ?_
 refine wp_block ?_
 refine wc_loop (ι := Nat) (fun j a w => ∃ (qs : List HD), (j ≤ ps.length ∧ qs.length = ps.length ∧ dsOf qs = markTo (dsOf ps) k j ∧ vsOf a0 c0 qs = vsOf a0 c0 ps) ∧ Fr 36 a [(0, .slice a0 ps.length c0), (1, .int .i64 (pastTo (dsOf ps) k j)), (5, .int .i64 (j : Int))] ∧ St w0 (rowA HD.cells 3 94 (.slice a0 ps.length c0) qs :: sepA (qs.map HD.asr) :: F) w) (fun j => ps.length - j) 0 ⟨ps, ⟨Nat.zero_le _, rfl, (markTo_zero _ _).symm, rfl⟩, HF.less _ ⟨rfl, rfl, rfl, trivial⟩, HS.out⟩ ?_
 clear HF HS; clear a
 rintro j a w1 ⟨qs, ⟨hj, hql, hq, hv⟩, HF, HS⟩
 replace HS := Bx.mk HS
 refine wp_seq ?_
 refine wp_sr ?_
 refine wl_mv HF rfl rfl rfl rfl rfl ?_; clear HF a; intro a HF
 refine wl_mv HF rfl rfl rfl rfl rfl ?_; clear HF a; intro a HF
 refine wl_y rfl HF rfl rfl (yl_lenL (e := 94) (size := 3) rfl (HF.ev rfl) (by kernel_rfl)) ?_; clear HF a; intro a HF
 refine wl_y rfl HF rfl rfl (yl_lssI rfl (HF.ev rfl) (HF.ev rfl)) ?_; clear HF a; intro a HF
 refine wl_ne ?_
 refine HF.cases 9 rfl (fun cc1 HF1 => ?_) (fun cc1 HF1 => ?_)
 ·clear HF; have HF := HF1; clear HF1
  have dcc1 := of_decide_eq_true cc1
  refine wc_true HF rfl ?_
  refine wp_skip ?_
  refine ex_then ?_
  refine wp_seq ?_
  refine wp_block ?_
  refine wp_seq ?_
  obtain ⟨g1, rfl, _, _, _, _⟩ := HS.out.rowOpen 0 rfl (by omega)
  have hqj : (qs.getD j default).d = (ps.getD j default).d := by rw [← dsOf_get, hq, markTo_get _ _ _ _ (by rw [dsOf_len]; omega), if_neg (by omega), dsOf_get]
  have hpb := pastTo_le (dsOf ps) k j (by rw [dsOf_len]; omega)
  have htt := tot_take_le lenT (dsOf ps) j
  have hfj := hfd j; rw [← hqj] at hfj; have hcl := hfj.f0; have hwl := hfj.f1
  refine wp_region_lit ?_
  refine wl_mv HF rfl rfl rfl rfl rfl ?_; clear HF a; intro a HF
  refine wl_mv HF rfl rfl rfl rfl rfl ?_; clear HF a; intro a HF
  refine wl_y rfl HF rfl rfl (yl_indexAddr (e := 94) (i := j) (size := 3) rfl (HF.ev rfl) (HF.ev rfl) (by kernel_rfl) rfl (by omega)) ?_; clear HF a; intro a HF
  refine wl_y rfl HF rfl rfl (yl_fieldAddr (j := 0) rfl (HF.ev rfl) (by kernel_rfl)) ?_; clear HF a; intro a HF
  refine wl_y rfl HF rfl rfl (yl_load (v := .slice ((qs.getD j default).a0) ((qs.getD j default).d.fCells.length) ((qs.getD j default).c0)) rfl (HF.ev rfl) (HS.out.elem HD.cells_len 0 rfl (get_getD (xs := qs) (j := j) (d := default) (by omega)) 0 _ rfl) (by kernel_rfl)) ?_; clear HF a; intro a HF
  refine wl_mv HF rfl rfl rfl rfl rfl ?_; clear HF a; intro a HF
  replace HS := Bx.mk (St.join.2 (((HS.out).pick 1 rfl).hdOut j (by omega)))
  replace HS : Bx (St w0 (rowA encS 1 9 (.slice ((qs.getD j default).a0) ((qs.getD j default).d.fCells.length) ((qs.getD j default).c0)) ((qs.getD j default).d.fCells) :: rowA WaitD.cells 2 137 (.slice ((qs.getD j default).a1) ((qs.getD j default).d.fWaits.length) ((qs.getD j default).c1)) ((qs.getD j default).d.fWaits) :: sepA ((qs.eraseIdx j).map HD.asr) :: rowA HD.cells 3 94 (.slice (some ⟨g1, 0, none⟩) ps.length c0) qs :: F) _) := ⟨HS.out⟩
  refine wl_call rfl HF rfl (enter_of Tryz.func83 (by kernel_rfl) rfl) (args := #[.slice ((qs.getD j default).a0) ((qs.getD j default).d.fCells.length) ((qs.getD j default).c0), .int .i64 (pastTo (dsOf ps) k j)]) rfl (markStringS_r _ _ _ _ _ (pastTo (dsOf ps) k j) _ (by omega) (by omega) (by omega) (HS.out.row 0 rfl)) rfl rfl ?_
  rintro _ w2 ⟨rfl, on, hgr⟩
  refine ⟨_, rfl, ?_⟩; replace HS := Bx.mk (HS.out.mutRow 0 rfl (on.mono (Nat.le_refl _) hgr.size) hgr (fun g h => .inl h)); clear on hgr HF; clear a; intro a HF
  replace HS : Bx (St w0 (rowA encS 1 9 (.slice ((qs.getD j default).a0) ((qs.getD j default).d.fCells.length) ((qs.getD j default).c0)) (marks markT 1 (pastTo (dsOf ps) k j) (qs.getD j default).d.fCells.length) :: rowA WaitD.cells 2 137 (.slice ((qs.getD j default).a1) ((qs.getD j default).d.fWaits.length) ((qs.getD j default).c1)) ((qs.getD j default).d.fWaits) :: sepA ((qs.eraseIdx j).map HD.asr) :: rowA HD.cells 3 94 (.slice (some ⟨g1, 0, none⟩) ps.length c0) qs :: F) _) := ⟨HS.out⟩
  refine wl_as HF rfl rfl rfl rfl rfl ?_; clear HF a; intro a HF
  refine wl_ne ?_
  refine wp_sr ?_
  refine wl_mv HF rfl rfl rfl rfl rfl ?_; clear HF a; intro a HF
  refine wl_mv HF rfl rfl rfl rfl rfl ?_; clear HF a; intro a HF
  refine wl_y rfl HF rfl rfl (yl_indexAddr (e := 94) (i := j) (size := 3) rfl (HF.ev rfl) (HF.ev rfl) (by kernel_rfl) rfl (by omega)) ?_; clear HF a; intro a HF
  refine wl_y rfl HF rfl rfl (yl_fieldAddr (j := 1) rfl (HF.ev rfl) (by kernel_rfl)) ?_; clear HF a; intro a HF
  refine wl_y rfl HF rfl rfl (yl_load (v := .slice ((qs.getD j default).a1) ((qs.getD j default).d.fWaits.length) ((qs.getD j default).c1)) rfl (HF.ev rfl) (HS.out.elem HD.cells_len 3 rfl (get_getD (xs := qs) (j := j) (d := default) (by omega)) 1 _ rfl) (by kernel_rfl)) ?_; clear HF a; intro a HF
  refine wl_mv HF rfl rfl rfl rfl rfl ?_; clear HF a; intro a HF
  refine wl_call rfl HF rfl (enter_of Tryz.func84 (by kernel_rfl) rfl) (args := #[.slice ((qs.getD j default).a1) ((qs.getD j default).d.fWaits.length) ((qs.getD j default).c1), .int .i64 (pastTo (dsOf ps) k j + ((qs.getD j default).d.fCells.length : Int) * 1)]) rfl (markWaitS_r _ _ _ _ _ (pastTo (dsOf ps) k j + ((qs.getD j default).d.fCells.length : Int) * 1) _ (by omega) (by omega) (by omega) (HS.out.row 1 rfl)) rfl rfl ?_
  rintro _ w3 ⟨rfl, on, hgr⟩
  refine ⟨_, rfl, ?_⟩; replace HS := Bx.mk (HS.out.mutRow 1 rfl (on.mono (Nat.le_refl _) hgr.size) hgr (fun g h => .inl h)); clear on hgr HF; clear a; intro a HF
  replace HS : Bx (St w0 (rowA encS 1 9 (.slice ((qs.getD j default).a0) ((qs.getD j default).d.fCells.length) ((qs.getD j default).c0)) (marks markT 1 (pastTo (dsOf ps) k j) (qs.getD j default).d.fCells.length) :: rowA WaitD.cells 2 137 (.slice ((qs.getD j default).a1) ((qs.getD j default).d.fWaits.length) ((qs.getD j default).c1)) (marks mkWait 2 (pastTo (dsOf ps) k j + ((qs.getD j default).d.fCells.length : Int) * 1) (qs.getD j default).d.fWaits.length) :: sepA ((qs.eraseIdx j).map HD.asr) :: rowA HD.cells 3 94 (.slice (some ⟨g1, 0, none⟩) ps.length c0) qs :: F) _) := ⟨HS.out⟩
  refine wl_as HF rfl rfl rfl rfl rfl ?_; clear HF a; intro a HF
  refine wl_ne ?_
  refine wp_sr ?_
  refine wl_mv HF rfl rfl rfl rfl rfl ?_; clear HF a; intro a HF
  refine wl_mv HF rfl rfl rfl rfl rfl ?_; clear HF a; intro a HF
  refine wl_mv HF rfl rfl rfl rfl rfl ?_; clear HF a; intro a HF
  refine wl_y rfl HF rfl rfl (yl_remI rfl (HF.ev rfl) (HF.ev rfl) (by omega) (rem_pos (by omega) (by omega))) ?_; clear HF a; intro a HF
  refine wl_y rfl HF rfl rfl (yl_eqlI rfl (HF.ev rfl) (HF.ev rfl)) ?_; clear HF a; intro a HF
  refine wl_y rfl HF rfl rfl (yl_indexAddr (e := 94) (i := j) (size := 3) rfl (HF.ev rfl) (HF.ev rfl) (by kernel_rfl) rfl (by omega)) ?_; clear HF a; intro a HF
  refine wl_y rfl HF rfl rfl (yl_fieldAddr (j := 2) rfl (HF.ev rfl) (by kernel_rfl)) ?_; clear HF a; intro a HF
  refine wl_storeEF HD.cells_len rfl rfl rfl (HF.ev rfl) (HF.ev rfl) (by kernel_rfl) HS.out 3 rfl (by omega) (by omega) (HD.wth (qs.getD j default) ((qs.getD j default).d.markG (pastTo (dsOf ps) k j))) (by rw [← getD_get]; exact hd_cells_marked (qs.getD j default) (pastTo (dsOf ps) k j) _ rfl) rfl ?_; clear HS; intro w4 HS; replace HS := Bx.mk HS
  refine wl_ne ?_
  refine wp_region_lit ?_
  refine wl_mv HF rfl rfl rfl rfl rfl ?_; clear HF a; intro a HF
  refine wl_y rfl HF rfl rfl (yl_addI rfl (HF.ev rfl) (HF.ev rfl) (i64w (by omega))) ?_; clear HF a; intro a HF
  refine wl_as HF rfl rfl rfl rfl rfl ?_; clear HF a; intro a HF
  refine wpList_nil ?_
  refine ex_block ?_
  refine ex_then ?_
  refine wp_region_lit ?_
  refine wl_mv HF rfl rfl rfl rfl rfl ?_; clear HF a; intro a HF
  refine wl_y rfl HF rfl rfl (yl_addI rfl (HF.ev rfl) (HF.ev rfl) (i64w (by omega))) ?_; clear HF a; intro a HF
  refine wl_as HF rfl rfl rfl rfl rfl ?_; clear HF a; intro a HF
  refine wl_ne ?_
  replace HS := Bx.mk (St.hdIn (hd_marked (qs.getD j default) (pastTo (dsOf ps) k j) ((((HS.out).pick 2 rfl).pick 2 rfl).pick 2 rfl)) (by omega))
  replace HS := Bx.mk ((((HS.out).pick 0 rfl).pick 1 rfl))
  have hnext : dsOf (qs.set j (HD.wth (qs.getD j default) ((qs.getD j default).d.markG (pastTo (dsOf ps) k j)))) = markTo (dsOf ps) k (j + 1) := by rw [← markTo_succ _ _ _ (by rw [dsOf_len]; omega), dsOf_get, ← hq]; unfold dsOf; rw [List.map_set, ← hqj]; rfl
  have hvs : vsOf (some ⟨g1, 0, none⟩) c0 (qs.set j (HD.wth (qs.getD j default) ((qs.getD j default).d.markG (pastTo (dsOf ps) k j)))) = vsOf (some ⟨g1, 0, none⟩) c0 ps := by rw [vsOf_set _ _ _ _ _ (by omega) (vs_marked _ _)]; exact hv
  have hpast : pastTo (dsOf ps) k (j + 1) = pastTo (dsOf ps) k j + ((qs.getD j default).d.fCells.length : Int) * 1 + ((qs.getD j default).d.fWaits.length : Int) * 2 + 1 := by show ((dsOf ps).getD j default).pastG _ = _; rw [dsOf_get, ← hqj]; rfl
  exact ⟨j + 1, ⟨qs.set j (HD.wth (qs.getD j default) ((qs.getD j default).d.markG (pastTo (dsOf ps) k j))), ⟨by omega, by rw [List.length_set]; exact hql, hnext, hvs⟩, HF.less _ ⟨rfl, (by show _ = some (Value.int .i64 (pastTo (dsOf ps) k (j + 1))); rw [hpast]; rfl), rfl, trivial⟩, HS.out⟩, (by omega)⟩
 ·clear HF; have HF := HF1; clear HF1
  have dcc1 := of_decide_eq_false cc1
  refine wc_false HF rfl ?_
  refine wp_exit ?_
  refine ex_then_exit ?_
  refine ex_then_exit ?_
  refine ex_block_hit ?_
  refine ex_then ?_
  refine wp_sr ?_
  refine wl_mv HF rfl rfl rfl rfl rfl ?_; clear HF a; intro a HF
  refine wl_as HF rfl rfl rfl rfl rfl ?_; clear HF a; intro a HF
  refine wl_ne ?_
  refine wp_ret ?_
  refine bp_ret1 HF Tryz.results40 (HF.res rfl) ?_
  obtain rfl : j = ps.length := by omega
  exact ⟨rfl, qs, hql, hq, hv, HS.out⟩

theorem markRaid_x (w0 w : World) (a0 : Option Addr) (c0 : Nat) (ps : List HD) (k : Int) (F : List Asr) (hk0 : 0 < k) (hk1 : k ≤ 100000000000) (hn : ps.length ≤ 1048576) (ht : tot lenT (dsOf ps) ≤ 10000000) (hfd : ∀ k, (ps.getD k default).d.Fit) (hS : St w0 (rowA HD.cells 3 94 (.slice a0 ps.length c0) ps :: sepA (ps.map HD.asr) :: F) w) : Calls Tryz.prog 13 #[.agg #[.slice a0 ps.length c0], .int .i64 k] w fun e w' => e = .returned (.int .i64 (pastTo (dsOf ps) k ps.length)) ∧ ∃ qs : List HD, qs.length = ps.length ∧ dsOf qs = markTo (dsOf ps) k ps.length ∧ vsOf a0 c0 qs = vsOf a0 c0 ps ∧ St w0 (rowA HD.cells 3 94 (.slice a0 ps.length c0) qs :: sepA (qs.map HD.asr) :: F) w' := by
 have HS := Bx.mk hS; clear hS
 refine wc_enter Tryz.func13 rfl Tryz.ntmps13 [(0, .agg #[.slice a0 ps.length c0]), (1, .int .i64 k)] ⟨rfl, rfl, trivial⟩ rfl ?_; intro a HF
 refine wp_sr ?_
 refine wl_box rfl HF rfl (HF.ev rfl) (Z := [.slice a0 ps.length c0]) rfl rfl rfl rfl HS.out ?_; clear HF HS a; intro a w1 b1 HF HS; replace HS := Bx.mk HS
 refine wl_as HF rfl rfl rfl rfl rfl ?_; clear HF a; intro a HF
 refine wl_ne ?_
 refine wp_sr ?_
 refine wl_y rfl HF rfl rfl (yl_fieldAddr (j := 0) rfl (HF.ev rfl) (by kernel_rfl)) ?_; clear HF a; intro a HF
 refine wl_y rfl HF rfl rfl (yl_load (v := .slice a0 ps.length c0) rfl (HF.ev rfl) (((HS.out.box 0 rfl).cell 0).trans rfl) (by kernel_rfl)) ?_; clear HF a; intro a HF
 refine wl_mv HF rfl rfl rfl rfl rfl ?_; clear HF a; intro a HF
 replace HS : Bx (St w0 (rowA HD.cells 3 94 (.slice a0 ps.length c0) ps :: sepA (ps.map HD.asr) :: boxA b1 1 34 (.agg #[.slice a0 ps.length c0]) :: F) _) := ⟨((HS.out).pick 2 rfl).pick 2 rfl⟩
 refine wl_call rfl HF rfl (enter_of Tryz.func40 (by kernel_rfl) rfl) (args := #[.slice a0 ps.length c0, .int .i64 k]) rfl (markDiskS_any w0 _ a0 c0 ps k _ hk0 hk1 hn ht hfd HS.out) rfl rfl ?_
 rintro _ w2 ⟨rfl, qs, hql, hq, hv, hs⟩
 refine ⟨_, rfl, ?_⟩; replace HS := Bx.mk hs; clear hs HF; clear a; intro a HF
 replace HS : Bx (St w0 (rowA HD.cells 3 94 (.slice a0 ps.length c0) qs :: sepA (qs.map HD.asr) :: boxA b1 1 34 (.agg #[.slice a0 ps.length c0]) :: F) _) := ⟨HS.out⟩
 refine wl_as HF rfl rfl rfl rfl rfl ?_; clear HF a; intro a HF
 refine wl_ne ?_
 refine wp_sr ?_
 refine wl_mv HF rfl rfl rfl rfl rfl ?_; clear HF a; intro a HF
 refine wl_as HF rfl rfl rfl rfl rfl ?_; clear HF a; intro a HF
 refine wl_ne ?_
 refine wp_ret ?_
 refine bp_ret1 HF Tryz.results13 (HF.res rfl) ?_
 replace HS : Bx (St w0 (rowA HD.cells 3 94 (.slice a0 ps.length c0) qs :: sepA (qs.map HD.asr) :: boxA b1 1 34 (.agg #[.slice a0 ps.length c0]) :: F) _) := ⟨((HS.out).pick 1 rfl).pick 1 rfl⟩
 exact ⟨rfl, qs, hql, hq, hv, (HS.out.erase 2)⟩

theorem St.ivB {α : Type} {Own : World → Nat → Nat → Value → α → Prop} {loc : ∀ w w' B B1 v x, (∀ b, B ≤ b → b < B1 → w'.heap[b]? = w.heap[b]?) → Own w B B1 v x → Own w' B B1 v x} {W w : World} {s : List Asr} (h : St W s w) (i : Nat) {B B1 : Nat} {v : Value} {x : α} (hi : s[i]? = some (ivA Own loc B B1 v x)) : B ≤ B1 := by
  obtain ⟨f, ⟨_, h1, _, _⟩, _⟩ := h.get i hi
  exact h1
theorem markRaid_any (v : Value) (x : RaidD) (B B1 : Nat) (k : Int) (w : World) (hk0 : 0 < k) (hk1 : k ≤ 100000000000) (hf : x.Fit) (ho : RaidD.Own w B B1 v x) (hB : B1 ≤ w.heap.size) (hBB : B ≤ B1) : Calls Tryz.prog 13 #[v, .int .i64 k] w fun e w' => e = .returned (.int .i64 (x.past k)) ∧ RaidD.Own w' B B1 v (x.marked k) ∧ Outside B B1 w w' := by
  obtain ⟨a, c, ps, rfl, hx, hb, hs⟩ := RaidD.own_st ho hBB hB
  have hn : ps.length = x.fDisks.length := by rw [← hx, dsOf_len]
  refine (markRaid_x (trunc w B) w a c ps k _ hk0 hk1 (by rw [hn]; exact hf.n) (by rw [hx]; exact hf.t) (fun k => by rw [← dsOf_get, hx]; exact hf.d k) hs).mono ?_
  rintro e w' ⟨rfl, qs, hql, hq, hv, hs2⟩
  rw [hx, hn] at hq
  rw [← hql] at hs2
  obtain ⟨h1, h2⟩ := RaidD.st_own2 (x := x.marked k) hBB hB hq hv hb hs2
  rw [hql] at h1
  exact ⟨by unfold RaidD.past; rw [hx, hn], h1, h2⟩

theorem heldDiskS_any (a0 : Option Addr) (c0 : Nat) (qs : List HD) (ds : List DiskD) (k : Int) (w0 : World) (hk0 : 0 < k) (hk1 : k ≤ 100000000000) (hn : ds.length ≤ 1048576) (ht : tot lenT ds ≤ 10000000) (hfd : ∀ k, (ds.getD k default).Fit) (hq : dsOf qs = markTo ds k ds.length) (hR : Rd HD.cells 3 w0 a0 qs.length qs) (hP : ∀ k, k < qs.length → (qs.getD k default).reads w0) : Calls Tryz.prog 41 #[.slice a0 qs.length c0, .int .i64 k] w0 fun e w' => e = .returned (.int .i64 (pastTo ds k ds.length)) ∧ Below w0.heap.size w0 w' := by
 have HR := Bx.mk hR; have HP := Bx.mk hP; clear hR hP
 have hln : qs.length = ds.length := by rw [← dsOf_len, hq, markTo_len]
 have HS := Bx.mk (St.start w0)
 refine wc_enter Tryz.func41 rfl Tryz.ntmps41 [(0, .slice a0 qs.length c0), (1, .int .i64 k)] ⟨rfl, rfl, trivial⟩ rfl ?_; intro a HF
 refine wp_sr ?_
 refine wl_as HF rfl rfl rfl rfl rfl ?_; clear HF a; intro a HF
 refine wl_ne ?_
 refine wp_seq ?_
 refine wp_sr ?_
 refine wl_as HF rfl rfl rfl rfl rfl ?_; clear HF a; intro a HF
 refine wl_ne ?_
 refine wp_block ?_
 refine wc_loop (ι := Nat) (fun j a w => (j ≤ qs.length) ∧ Fr 42 a [(0, .slice a0 qs.length c0), (1, .int .i64 (pastTo ds k j)), (5, .int .i64 (j : Int))] ∧ St w0 ([]) w) (fun j => qs.length - j) 0 ⟨Nat.zero_le _, HF.less _ ⟨rfl, rfl, rfl, trivial⟩, HS.out⟩ ?_
 clear HF HS; clear a
 rintro j a w1 ⟨hj, HF, HS⟩
 replace HS := Bx.mk HS
 refine wp_seq ?_
 refine wp_sr ?_
 refine wl_mv HF rfl rfl rfl rfl rfl ?_; clear HF a; intro a HF
 refine wl_mv HF rfl rfl rfl rfl rfl ?_; clear HF a; intro a HF
 refine wl_y rfl HF rfl rfl (yl_lenL (e := 94) (size := 3) rfl (HF.ev rfl) (by kernel_rfl)) ?_; clear HF a; intro a HF
 refine wl_y rfl HF rfl rfl (yl_lssI rfl (HF.ev rfl) (HF.ev rfl)) ?_; clear HF a; intro a HF
 refine wl_ne ?_
 refine HF.cases 9 rfl (fun cc1 HF1 => ?_) (fun cc1 HF1 => ?_)
 ·clear HF; have HF := HF1; clear HF1
  have dcc1 := of_decide_eq_true cc1
  refine wc_true HF rfl ?_
  refine wp_skip ?_
  refine ex_then ?_
  refine wp_seq ?_
  refine wp_block ?_
  refine wp_seq ?_
  obtain ⟨g0, o0, r0⟩ := HR.out.opn; have R0 := Bx.mk r0; clear r0
  have hqj : (qs.getD j default).d = (ds.getD j default).markG (pastTo ds k j) := by rw [← dsOf_get, hq, markTo_get _ _ _ _ (by omega), if_pos (by omega)]
  have hc1 : (qs.getD j default).d.fCells = marks markT 1 (pastTo ds k j) (ds.getD j default).fCells.length := by rw [hqj]; rfl
  have hc2 : (qs.getD j default).d.fCells.length = (ds.getD j default).fCells.length := by rw [hc1, marks_len]
  have hw1 : (qs.getD j default).d.fWaits = marks mkWait 2 (pastTo ds k j + ((ds.getD j default).fCells.length : Int) * 1) (ds.getD j default).fWaits.length := by rw [hqj]; rfl
  have hw2 : (qs.getD j default).d.fWaits.length = (ds.getD j default).fWaits.length := by rw [hw1, marks_len]
  have hg1 : (qs.getD j default).d.fGone = ((pastTo ds k j + ((ds.getD j default).fCells.length : Int) * 1 + ((ds.getD j default).fWaits.length : Int) * 2) % 3 == 0) := by rw [hqj]; rfl
  have hpb := pastTo_le ds k j (by omega)
  have htt := tot_take_le lenT ds j
  have hfj := hfd j; have hcl := hfj.f0; have hwl := hfj.f1
  refine wp_region_lit ?_
  refine wl_mv HF rfl rfl rfl rfl rfl ?_; clear HF a; intro a HF
  refine wl_mv HF rfl rfl rfl rfl rfl ?_; clear HF a; intro a HF
  refine wl_y rfl HF rfl rfl (yl_indexAddrR (e := 94) (i := j) (size := 3) rfl (HF.ev rfl) (HF.ev rfl) (by kernel_rfl) rfl (by omega) (R0.out.ao j (by omega))) ?_; clear HF a; intro a HF
  refine wl_y rfl HF rfl rfl (yl_fieldAddr (j := 0) rfl (HF.ev rfl) (by kernel_rfl)) ?_; clear HF a; intro a HF
  refine wl_y rfl HF rfl rfl (yl_load (v := .slice ((qs.getD j default).a0) ((qs.getD j default).d.fCells.length) ((qs.getD j default).c0)) rfl (HF.ev rfl) (R0.out.elem HS.out (get_getD (xs := qs) (j := j) (d := default) (by omega)) 0 _ rfl) (by kernel_rfl)) ?_; clear HF a; intro a HF
  refine wl_mv HF rfl rfl rfl rfl rfl ?_; clear HF a; intro a HF
  refine wl_callB rfl HF rfl (enter_of Tryz.func85 (by kernel_rfl) rfl) (args := #[.slice ((qs.getD j default).a0) ((qs.getD j default).d.fCells.length) ((qs.getD j default).c0), .int .i64 (pastTo ds k j)]) rfl (v := .int .i64 (pastTo ds k j + ((ds.getD j default).fCells.length : Int) * 1)) ((by rw [hc2]; have := heldStringS_any (qs.getD j default).a0 (ds.getD j default).fCells.length (qs.getD j default).c0 (pastTo ds k j) _ (by omega) (by omega) (by omega) (by have h9 := ((HP.out j (by omega)).below HS.out.bel).rc; rw [hc1, marks_len] at h9; exact h9); exact this)) rfl rfl HS.out ?_; clear HF HS a; intro w2 a HS HF; replace HS := Bx.mk HS
  refine wl_as HF rfl rfl rfl rfl rfl ?_; clear HF a; intro a HF
  refine wl_ne ?_
  refine wp_seq ?_
  refine wp_sr ?_
  refine wl_mv HF rfl rfl rfl rfl rfl ?_; clear HF a; intro a HF
  refine wl_y rfl HF rfl rfl (yl_lssI rfl (HF.ev rfl) (HF.ev rfl)) ?_; clear HF a; intro a HF
  refine wl_ne ?_
  refine HF.cases 20 rfl (fun cc2 HF1 => ?_) (fun cc2 HF1 => ?_)
  ·clear HF; have HF := HF1; clear HF1
   have dcc2 := of_decide_eq_true cc2
   omega
  ·clear HF; have HF := HF1; clear HF1
   have dcc2 := of_decide_eq_false cc2
   refine wc_false HF rfl ?_
   refine wp_skip ?_
   refine ex_then ?_
   refine wp_sr ?_
   refine wl_mv HF rfl rfl rfl rfl rfl ?_; clear HF a; intro a HF
   refine wl_mv HF rfl rfl rfl rfl rfl ?_; clear HF a; intro a HF
   refine wl_y rfl HF rfl rfl (yl_indexAddrR (e := 94) (i := j) (size := 3) rfl (HF.ev rfl) (HF.ev rfl) (by kernel_rfl) rfl (by omega) (R0.out.ao j (by omega))) ?_; clear HF a; intro a HF
   refine wl_y rfl HF rfl rfl (yl_fieldAddr (j := 1) rfl (HF.ev rfl) (by kernel_rfl)) ?_; clear HF a; intro a HF
   refine wl_y rfl HF rfl rfl (yl_load (v := .slice ((qs.getD j default).a1) ((qs.getD j default).d.fWaits.length) ((qs.getD j default).c1)) rfl (HF.ev rfl) (R0.out.elem HS.out (get_getD (xs := qs) (j := j) (d := default) (by omega)) 1 _ rfl) (by kernel_rfl)) ?_; clear HF a; intro a HF
   refine wl_mv HF rfl rfl rfl rfl rfl ?_; clear HF a; intro a HF
   refine wl_callB rfl HF rfl (enter_of Tryz.func86 (by kernel_rfl) rfl) (args := #[.slice ((qs.getD j default).a1) ((qs.getD j default).d.fWaits.length) ((qs.getD j default).c1), .int .i64 (pastTo ds k j + ((ds.getD j default).fCells.length : Int) * 1)]) rfl (v := .int .i64 (pastTo ds k j + ((ds.getD j default).fCells.length : Int) * 1 + ((ds.getD j default).fWaits.length : Int) * 2)) ((by rw [hw2]; have := heldWaitS_any (qs.getD j default).a1 (ds.getD j default).fWaits.length (qs.getD j default).c1 (pastTo ds k j + ((ds.getD j default).fCells.length : Int) * 1) _ (by omega) (by omega) (by omega) (by have h9 := ((HP.out j (by omega)).below HS.out.bel).rw; rw [hw1, marks_len] at h9; exact h9); exact this)) rfl rfl HS.out ?_; clear HF HS a; intro w3 a HS HF; replace HS := Bx.mk HS
   refine wl_as HF rfl rfl rfl rfl rfl ?_; clear HF a; intro a HF
   refine wl_ne ?_
   refine wp_seq ?_
   refine wp_sr ?_
   refine wl_mv HF rfl rfl rfl rfl rfl ?_; clear HF a; intro a HF
   refine wl_y rfl HF rfl rfl (yl_lssI rfl (HF.ev rfl) (HF.ev rfl)) ?_; clear HF a; intro a HF
   refine wl_ne ?_
   refine HF.cases 29 rfl (fun cc3 HF1 => ?_) (fun cc3 HF1 => ?_)
   ·clear HF; have HF := HF1; clear HF1
    have dcc3 := of_decide_eq_true cc3
    omega
   ·clear HF; have HF := HF1; clear HF1
    have dcc3 := of_decide_eq_false cc3
    refine wc_false HF rfl ?_
    refine wp_skip ?_
    refine ex_then ?_
    refine wp_seq ?_
    refine wp_sr ?_
    refine wl_mv HF rfl rfl rfl rfl rfl ?_; clear HF a; intro a HF
    refine wl_mv HF rfl rfl rfl rfl rfl ?_; clear HF a; intro a HF
    refine wl_y rfl HF rfl rfl (yl_indexAddrR (e := 94) (i := j) (size := 3) rfl (HF.ev rfl) (HF.ev rfl) (by kernel_rfl) rfl (by omega) (R0.out.ao j (by omega))) ?_; clear HF a; intro a HF
    refine wl_y rfl HF rfl rfl (yl_fieldAddr (j := 2) rfl (HF.ev rfl) (by kernel_rfl)) ?_; clear HF a; intro a HF
    refine wl_y rfl HF rfl rfl (yl_load (v := .bool ((qs.getD j default).d.fGone)) rfl (HF.ev rfl) (R0.out.elem HS.out (get_getD (xs := qs) (j := j) (d := default) (by omega)) 2 _ rfl) (by kernel_rfl)) ?_; clear HF a; intro a HF
    refine wl_mv HF rfl rfl rfl rfl rfl ?_; clear HF a; intro a HF
    refine wl_y rfl HF rfl rfl (yl_remI rfl (HF.ev rfl) (HF.ev rfl) (by omega) (rem_pos (by omega) (by omega))) ?_; clear HF a; intro a HF
    refine wl_y rfl HF rfl rfl (yl_eqlI rfl (HF.ev rfl) (HF.ev rfl)) ?_; clear HF a; intro a HF
    refine wl_y rfl HF rfl rfl (yl_neqB rfl (HF.ev rfl) (HF.ev rfl) (by kernel_rfl)) ?_; clear HF a; intro a HF
    refine wl_ne ?_
    refine HF.cases 38 rfl (fun cc4 HF1 => ?_) (fun cc4 HF1 => ?_)
    ·clear HF; have HF := HF1; clear HF1
     rw [hg1] at cc4; simp at cc4
    ·clear HF; have HF := HF1; clear HF1
     refine wc_false HF rfl ?_
     refine wp_skip ?_
     refine ex_then ?_
     refine wp_region_lit ?_
     refine wl_mv HF rfl rfl rfl rfl rfl ?_; clear HF a; intro a HF
     refine wl_y rfl HF rfl rfl (yl_addI rfl (HF.ev rfl) (HF.ev rfl) (i64w (by omega))) ?_; clear HF a; intro a HF
     refine wl_as HF rfl rfl rfl rfl rfl ?_; clear HF a; intro a HF
     refine wpList_nil ?_
     refine ex_block ?_
     refine ex_then ?_
     refine wp_region_lit ?_
     refine wl_mv HF rfl rfl rfl rfl rfl ?_; clear HF a; intro a HF
     refine wl_y rfl HF rfl rfl (yl_addI rfl (HF.ev rfl) (HF.ev rfl) (i64w (by omega))) ?_; clear HF a; intro a HF
     refine wl_as HF rfl rfl rfl rfl rfl ?_; clear HF a; intro a HF
     refine wl_ne ?_
     have hpast : pastTo ds k (j + 1) = pastTo ds k j + ((ds.getD j default).fCells.length : Int) * 1 + ((ds.getD j default).fWaits.length : Int) * 2 + 1 := rfl
     exact ⟨j + 1, ⟨(by omega), HF.less _ ⟨rfl, (by show _ = some (Value.int .i64 (pastTo ds k (j + 1))); rw [hpast]; rfl), rfl, trivial⟩, HS.out⟩, (by omega)⟩
 ·clear HF; have HF := HF1; clear HF1
  have dcc1 := of_decide_eq_false cc1
  refine wc_false HF rfl ?_
  refine wp_exit ?_
  refine ex_then_exit ?_
  refine ex_then_exit ?_
  refine ex_block_hit ?_
  refine ex_then ?_
  refine wp_sr ?_
  refine wl_mv HF rfl rfl rfl rfl rfl ?_; clear HF a; intro a HF
  refine wl_as HF rfl rfl rfl rfl rfl ?_; clear HF a; intro a HF
  refine wl_ne ?_
  refine wp_ret ?_
  refine bp_ret1 HF Tryz.results41 (HF.res rfl) ?_
  obtain rfl : j = qs.length := by omega
  exact ⟨by rw [hln], HS.out.bel⟩

theorem heldRaid_x (a0 : Option Addr) (c0 : Nat) (qs : List HD) (ds : List DiskD) (k : Int) (w0 : World) (hk0 : 0 < k) (hk1 : k ≤ 100000000000) (hn : ds.length ≤ 1048576) (ht : tot lenT ds ≤ 10000000) (hfd : ∀ k, (ds.getD k default).Fit) (hq : dsOf qs = markTo ds k ds.length) (hR : Rd HD.cells 3 w0 a0 qs.length qs) (hP : ∀ k, k < qs.length → (qs.getD k default).reads w0) : Calls Tryz.prog 14 #[.agg #[.slice a0 qs.length c0], .int .i64 k] w0 fun e w' => e = .returned (.int .i64 (pastTo ds k ds.length)) ∧ Below w0.heap.size w0 w' := by
 have HR := Bx.mk hR; have HP := Bx.mk hP; clear hR hP
 have hln : qs.length = ds.length := by rw [← dsOf_len, hq, markTo_len]
 have HS := Bx.mk (St.start w0)
 refine wc_enter Tryz.func14 rfl Tryz.ntmps14 [(0, .agg #[.slice a0 qs.length c0]), (1, .int .i64 k)] ⟨rfl, rfl, trivial⟩ rfl ?_; intro a HF
 refine wp_sr ?_
 refine wl_box rfl HF rfl (HF.ev rfl) (Z := [.slice a0 qs.length c0]) rfl rfl rfl rfl HS.out ?_; clear HF HS a; intro a w1 b1 HF HS; replace HS := Bx.mk HS
 refine wl_as HF rfl rfl rfl rfl rfl ?_; clear HF a; intro a HF
 refine wl_ne ?_
 refine wp_sr ?_
 refine wl_y rfl HF rfl rfl (yl_fieldAddr (j := 0) rfl (HF.ev rfl) (by kernel_rfl)) ?_; clear HF a; intro a HF
 refine wl_y rfl HF rfl rfl (yl_load (v := .slice a0 qs.length c0) rfl (HF.ev rfl) (((HS.out.box 0 rfl).cell 0).trans rfl) (by kernel_rfl)) ?_; clear HF a; intro a HF
 refine wl_mv HF rfl rfl rfl rfl rfl ?_; clear HF a; intro a HF
 refine wl_callB rfl HF rfl (enter_of Tryz.func41 (by kernel_rfl) rfl) (args := #[.slice a0 qs.length c0, .int .i64 k]) rfl (v := .int .i64 (pastTo ds k ds.length)) (heldDiskS_any a0 c0 qs ds k _ hk0 hk1 hn ht hfd hq (HR.out.below HS.out.bel) (fun k hk => (HP.out k hk).below HS.out.bel)) rfl rfl HS.out ?_; clear HF HS a; intro w2 a HS HF; replace HS := Bx.mk HS
 refine wl_as HF rfl rfl rfl rfl rfl ?_; clear HF a; intro a HF
 refine wl_ne ?_
 refine wp_seq ?_
 refine wp_sr ?_
 refine wl_mv HF rfl rfl rfl rfl rfl ?_; clear HF a; intro a HF
 refine wl_y rfl HF rfl rfl (yl_lssI rfl (HF.ev rfl) (HF.ev rfl)) ?_; clear HF a; intro a HF
 refine wl_ne ?_
 refine HF.cases 10 rfl (fun cc1 HF1 => ?_) (fun cc1 HF1 => ?_)
 ·clear HF; have HF := HF1; clear HF1
  have dcc1 := of_decide_eq_true cc1
  have := (pastTo_le ds k ds.length (Nat.le_refl _)).1; omega
 ·clear HF; have HF := HF1; clear HF1
  have dcc1 := of_decide_eq_false cc1
  refine wc_false HF rfl ?_
  refine wp_skip ?_
  refine ex_then ?_
  refine wp_sr ?_
  refine wl_mv HF rfl rfl rfl rfl rfl ?_; clear HF a; intro a HF
  refine wl_as HF rfl rfl rfl rfl rfl ?_; clear HF a; intro a HF
  refine wl_ne ?_
  refine wp_ret ?_
  refine bp_ret1 HF Tryz.results14 (HF.res rfl) ?_
  exact ⟨rfl, HS.out.bel⟩

theorem heldRaid_any (v : Value) (x : RaidD) (k : Int) (w : World) (hk0 : 0 < k) (hk1 : k ≤ 100000000000) (hf : x.Fit) (hr : RaidD.Reads w v (x.marked k)) : Calls Tryz.prog 14 #[v, .int .i64 k] w fun e w' => e = .returned (.int .i64 (x.past k)) ∧ Below w.heap.size w w' := by
  obtain ⟨a, c, qs, rfl, hx, hr, hp⟩ := hr
  exact heldRaid_x a c qs x.fDisks k w hk0 hk1 hf.n hf.t hf.d hx hr hp

end Go.Proofs.YtoaopmkbfifhaaaGreatDoor
