/- A part of the proof in YtoaopmkbfifhaaaGreatDoorRwLZ29. -/
import Derived.Test.YtoaopmkbfifhaaaGreatDoorRwLZ19
/- A round over the disks, by a function value. -/
namespace Go.Proofs.YtoaopmkbfifhaaaGreatDoor
set_option linter.unusedVariables false
set_option linter.unusedSimpArgs false
set_option maxHeartbeats 1000000
set_option maxRecDepth 100000
open Go.RowKit

theorem each_any (w0 w : World) (a0 : Option Addr) (c0 : Nat) (ps : List HD) (f : FuncId) (caps : Array Value) (step : Nat → DiskD → Option DiskD) (C : Nat → List Asr) (F : List Asr) (hl : ps.length ≤ 1048576) (HE : ∀ (args : Array Value) (w : World), (callFunc f args).run Tryz.prog w = .ok (.enter f args) w) (hR : Rd HD.cells 3 w0 a0 ps.length ps) (hf : ∀ k, k < ps.length → ∀ (w : World) (X : List Asr), (∃ xs, eachTo step (dsOf ps) k = some xs) → St w0 (C k ++ X) w → Calls Tryz.prog f (#[] ++ #[.int .i64 (k : Int), .agg #[.slice ((ps.getD k default).a0) ((ps.getD k default).d.fCells.length) ((ps.getD k default).c0), .slice ((ps.getD k default).a1) ((ps.getD k default).d.fWaits.length) ((ps.getD k default).c1), .bool ((ps.getD k default).d.fGone)]] ++ caps) w fun e w' => (step k (ps.getD k default).d = none ∧ ∃ q : HD, e = .returned (.tuple #[.agg #[.slice q.a0 q.d.fCells.length q.c0, .slice q.a1 q.d.fWaits.length q.c1, .bool q.d.fGone], .bool false]) ∧ St w0 X w') ∨ (∃ q : HD, step k (ps.getD k default).d = some q.d ∧ e = .returned (.tuple #[.agg #[.slice q.a0 q.d.fCells.length q.c0, .slice q.a1 q.d.fWaits.length q.c1, .bool q.d.fGone], .bool true]) ∧ St w0 (q.asr :: (C (k + 1) ++ X)) w')) (hS : St w0 (C 0 ++ F) w) : Calls Tryz.prog 75 #[.agg #[.slice a0 ps.length c0], .func (.func f) #[] caps] w fun e w' => (eachTo step (dsOf ps) ps.length = none ∧ e = .returned (.tuple #[.agg #[.slice none 0 0], .bool false]) ∧ St w0 F w') ∨ (∃ ao cp qs, eachTo step (dsOf ps) ps.length = some (dsOf qs) ∧ e = .returned (.tuple #[.agg #[.slice ao qs.length cp], .bool true]) ∧ St w0 (rowA HD.cells 3 94 (.slice ao qs.length cp) qs :: sepA (qs.map HD.asr) :: (C ps.length ++ F)) w') := by
 have HR := Bx.mk hR; have HF0 := Bx.mk hf; clear hR hf
 have HS := Bx.mk hS; clear hS
 refine wc_enter Tryz.func75 rfl Tryz.ntmps75 [(0, .agg #[.slice a0 ps.length c0]), (1, .func (.func f) #[] caps)] ⟨rfl, rfl, trivial⟩ rfl ?_; intro a HF
 refine wp_sr ?_
 refine wl_box rfl HF rfl (HF.ev rfl) (Z := [.slice a0 ps.length c0]) rfl rfl rfl rfl HS.out ?_; clear HF HS a; intro a w1 b1 HF HS; replace HS := Bx.mk HS
 refine wl_alloc rfl HF rfl rfl rfl (Z := [.slice none 0 0]) (by kernel_rfl) rfl HS.out ?_; clear HF HS a; intro a w2 b2 HF HS; replace HS := Bx.mk HS
 refine wl_as HF rfl rfl rfl rfl rfl ?_; clear HF a; intro a HF
 refine wl_ne ?_
 refine wp_sr ?_
 refine wl_alloc rfl HF rfl rfl rfl (Z := [.slice none 0 0]) (by kernel_rfl) rfl HS.out ?_; clear HF HS a; intro a w3 b3 HF HS; replace HS := Bx.mk HS
 refine wl_ne ?_
 refine wp_seq ?_
 refine wp_sr ?_
 refine wl_y rfl HF rfl rfl (yl_fieldAddr (j := 0) rfl (HF.ev rfl) (by kernel_rfl)) ?_; clear HF a; intro a HF
 refine wl_y rfl HF rfl rfl (yl_load (v := .slice a0 ps.length c0) rfl (HF.ev rfl) (((HS.out.box 2 rfl).cell 0).trans rfl) (by kernel_rfl)) ?_; clear HF a; intro a HF
 refine wl_y rfl HF rfl rfl (yl_lenL (e := 94) (size := 3) rfl (HF.ev rfl) (by kernel_rfl)) ?_; clear HF a; intro a HF
 refine wl_mv HF rfl rfl rfl rfl rfl ?_; clear HF a; intro a HF
 refine wl_ne ?_
 refine wp_block ?_
 replace HS := Bx.mk ((HS.out.hdNil).nilRow HD.cells 3 94 none)
 refine wc_loop (ι := Nat) (fun k a w => ∃ (ao : Option Addr) (cp : Nat) (qs : List HD), (k ≤ ps.length ∧ qs.length = k ∧ eachTo step (dsOf ps) k = some (dsOf qs)) ∧ Fr 37 a [(1, .func (.func f) #[] caps), (2, .pointer (some ⟨b1, 0, none⟩)), (4, .pointer (some ⟨b2, 0, none⟩)), (5, .bool false), (6, .pointer (some ⟨b3, 0, none⟩)), (12, .slice a0 ps.length c0), (13, .int .i64 (ps.length : Int)), (14, .int .i64 (k : Int))] ∧ St w0 (rowA HD.cells 3 94 (.slice ao qs.length cp) qs :: sepA (qs.map HD.asr) :: boxA b3 1 34 (.agg #[.slice ao qs.length cp]) :: boxA b2 1 34 (.agg #[.slice none 0 0]) :: boxA b1 1 34 (.agg #[.slice a0 ps.length c0]) :: (C k ++ F)) w) (fun k => ps.length - k) 0 ⟨_, _, [], ⟨Nat.zero_le _, rfl, rfl⟩, HF.less _ ⟨rfl, rfl, rfl, rfl, rfl, rfl, rfl, rfl, trivial⟩, HS.out⟩ ?_
 clear HF HS; clear a
 rintro k a w4 ⟨ao, cp, qs, ⟨hk, hql, hq⟩, HF, HS⟩
 replace HS := Bx.mk HS
 refine wp_sr ?_
 refine wl_y rfl HF rfl rfl (yl_lssI rfl (HF.ev rfl) (HF.ev rfl)) ?_; clear HF a; intro a HF
 refine wl_ne ?_
 refine wp_seq ?_
 refine HF.cases 15 rfl (fun cc1 HF1 => ?_) (fun cc1 HF1 => ?_)
 ·clear HF; have HF := HF1; clear HF1
  have dcc1 := of_decide_eq_true cc1
  refine wc_true HF rfl ?_
  refine wp_skip ?_
  refine ex_then ?_
  refine wp_seq ?_
  refine wp_block ?_
  refine wp_seq ?_
  obtain ⟨g0, o0, r0⟩ := HR.out.opn; have R0 := Bx.mk r0; clear r0
  refine wp_region_lit ?_
  refine wl_mv HF rfl rfl rfl rfl rfl ?_; clear HF a; intro a HF
  refine wl_y rfl HF rfl rfl (yl_indexAddrR (e := 94) (i := k) (size := 3) rfl (HF.ev rfl) (HF.ev rfl) (by kernel_rfl) rfl (by omega) (R0.out.ao k (by omega))) ?_; clear HF a; intro a HF
  refine wl_y rfl HF rfl rfl (yl_loadR (cs := [.slice ((ps.getD k default).a0) ((ps.getD k default).d.fCells.length) ((ps.getD k default).c0), .slice ((ps.getD k default).a1) ((ps.getD k default).d.fWaits.length) ((ps.getD k default).c1), .bool ((ps.getD k default).d.fGone)]) rfl (HF.ev rfl) (R0.out.elem HS.out (get_getD (xs := ps) (j := k) (d := default) (by omega))) (by kernel_rfl)) ?_; clear HF a; intro a HF
  refine wl_alloc rfl HF rfl rfl rfl (Z := [.slice none 0 0, .slice none 0 0, .bool false]) (by kernel_rfl) rfl HS.out ?_; clear HF HS a; intro a w5 b4 HF HS; replace HS := Bx.mk HS
  refine wl_as HF rfl rfl rfl rfl rfl ?_; clear HF a; intro a HF
  refine wl_storeBox rfl HF rfl rfl (HF.ev rfl) (HF.ev rfl) HS.out 0 rfl (cells_lit [.slice ((ps.getD k default).a0) ((ps.getD k default).d.fCells.length) ((ps.getD k default).c0), .slice ((ps.getD k default).a1) ((ps.getD k default).d.fWaits.length) ((ps.getD k default).c1), .bool ((ps.getD k default).d.fGone)] rfl rfl) (by kernel_rfl) ?_; clear HS; intro w6 HS; replace HS := Bx.mk HS
  have HS : Bx (St w0 (boxA b4 3 94 (.agg #[.slice ((ps.getD k default).a0) ((ps.getD k default).d.fCells.length) ((ps.getD k default).c0), .slice ((ps.getD k default).a1) ((ps.getD k default).d.fWaits.length) ((ps.getD k default).c1), .bool ((ps.getD k default).d.fGone)]) :: rowA HD.cells 3 94 (.slice ao qs.length cp) qs :: sepA (qs.map HD.asr) :: boxA b3 1 34 (.agg #[.slice ao qs.length cp]) :: boxA b2 1 34 (.agg #[.slice none 0 0]) :: boxA b1 1 34 (.agg #[.slice a0 ps.length c0]) :: (C k ++ F)) _) := HS
  refine wl_ne ?_
  refine wp_sr ?_
  refine wl_mv HF rfl rfl rfl rfl rfl ?_; clear HF a; intro a HF
  refine wl_mv HF rfl rfl rfl rfl rfl ?_; clear HF a; intro a HF
  refine wl_y rfl HF rfl rfl (yl_loadR (cs := [.slice ((ps.getD k default).a0) ((ps.getD k default).d.fCells.length) ((ps.getD k default).c0), .slice ((ps.getD k default).a1) ((ps.getD k default).d.fWaits.length) ((ps.getD k default).c1), .bool ((ps.getD k default).d.fGone)]) rfl (HF.ev rfl) ((HS.out.box 0 rfl).sub 0 3) (by kernel_rfl)) ?_; clear HF a; intro a HF
  refine wl_callv rfl HF rfl (HF.ev rfl) HE (args := #[.int .i64 (k : Int), .agg #[.slice ((ps.getD k default).a0) ((ps.getD k default).d.fCells.length) ((ps.getD k default).c0), .slice ((ps.getD k default).a1) ((ps.getD k default).d.fWaits.length) ((ps.getD k default).c1), .bool ((ps.getD k default).d.fGone)]]) rfl (HF0.out k (by omega) _ ([boxA b4 3 94 (.agg #[.slice ((ps.getD k default).a0) ((ps.getD k default).d.fCells.length) ((ps.getD k default).c0), .slice ((ps.getD k default).a1) ((ps.getD k default).d.fWaits.length) ((ps.getD k default).c1), .bool ((ps.getD k default).d.fGone)]), rowA HD.cells 3 94 (.slice ao qs.length cp) qs, sepA (qs.map HD.asr), boxA b3 1 34 (.agg #[.slice ao qs.length cp]), boxA b2 1 34 (.agg #[.slice none 0 0]), boxA b1 1 34 (.agg #[.slice a0 ps.length c0])] ++ F) ⟨_, hq⟩ (St.midl (L := [boxA b4 3 94 (.agg #[.slice ((ps.getD k default).a0) ((ps.getD k default).d.fCells.length) ((ps.getD k default).c0), .slice ((ps.getD k default).a1) ((ps.getD k default).d.fWaits.length) ((ps.getD k default).c1), .bool ((ps.getD k default).d.fGone)]), rowA HD.cells 3 94 (.slice ao qs.length cp) qs, sepA (qs.map HD.asr), boxA b3 1 34 (.agg #[.slice ao qs.length cp]), boxA b2 1 34 (.agg #[.slice none 0 0]), boxA b1 1 34 (.agg #[.slice a0 ps.length c0])]) HS.out)) rfl rfl ?_
  rintro _ w7 (⟨hev, q, rfl, hs⟩ | ⟨q, hev, rfl, hs⟩)
  ·skip
   refine ⟨_, rfl, ?_⟩; replace HS := Bx.mk hs; clear hs HF; clear a; intro a HF
   replace HS : Bx (St w0 (boxA b4 3 94 (.agg #[.slice ((ps.getD k default).a0) ((ps.getD k default).d.fCells.length) ((ps.getD k default).c0), .slice ((ps.getD k default).a1) ((ps.getD k default).d.fWaits.length) ((ps.getD k default).c1), .bool ((ps.getD k default).d.fGone)]) :: rowA HD.cells 3 94 (.slice ao qs.length cp) qs :: sepA (qs.map HD.asr) :: boxA b3 1 34 (.agg #[.slice ao qs.length cp]) :: boxA b2 1 34 (.agg #[.slice none 0 0]) :: boxA b1 1 34 (.agg #[.slice a0 ps.length c0]) :: F) _) := ⟨HS.out⟩
   refine wl_mv HF rfl rfl rfl rfl rfl ?_; clear HF a; intro a HF
   refine wl_y rfl HF rfl rfl (yl_extract rfl (HF.ev rfl) rfl) ?_; clear HF a; intro a HF
   refine wl_y rfl HF rfl rfl (yl_extract rfl (HF.ev rfl) rfl) ?_; clear HF a; intro a HF
   refine wl_alloc rfl HF rfl rfl rfl (Z := [.slice none 0 0, .slice none 0 0, .bool false]) (by kernel_rfl) rfl HS.out ?_; clear HF HS a; intro a w8 b5 HF HS; replace HS := Bx.mk HS
   refine wl_storeBox rfl HF rfl rfl (HF.ev rfl) (HF.ev rfl) HS.out 0 rfl (cells_lit [.slice q.a0 q.d.fCells.length q.c0, .slice q.a1 q.d.fWaits.length q.c1, .bool q.d.fGone] rfl rfl) (by kernel_rfl) ?_; clear HS; intro w9 HS; replace HS := Bx.mk HS
   have HS : Bx (St w0 (boxA b5 3 94 (.agg #[.slice q.a0 q.d.fCells.length q.c0, .slice q.a1 q.d.fWaits.length q.c1, .bool q.d.fGone]) :: boxA b4 3 94 (.agg #[.slice ((ps.getD k default).a0) ((ps.getD k default).d.fCells.length) ((ps.getD k default).c0), .slice ((ps.getD k default).a1) ((ps.getD k default).d.fWaits.length) ((ps.getD k default).c1), .bool ((ps.getD k default).d.fGone)]) :: rowA HD.cells 3 94 (.slice ao qs.length cp) qs :: sepA (qs.map HD.asr) :: boxA b3 1 34 (.agg #[.slice ao qs.length cp]) :: boxA b2 1 34 (.agg #[.slice none 0 0]) :: boxA b1 1 34 (.agg #[.slice a0 ps.length c0]) :: F) _) := HS
   refine wl_as HF rfl rfl rfl rfl rfl ?_; clear HF a; intro a HF
   refine wl_ne ?_
   refine wp_seq ?_
   refine wp_sr ?_
   refine wl_mv HF rfl rfl rfl rfl rfl ?_; clear HF a; intro a HF
   refine wl_y rfl HF rfl rfl (yl_not rfl (HF.ev rfl)) ?_; clear HF a; intro a HF
   refine wl_ne ?_
   refine wc_true HF rfl ?_
   refine wp_sr ?_
   refine wl_y rfl HF rfl rfl (yl_build HF rfl (ps := []) rfl (cs := #[.slice none 0 0]) (by kernel_rfl)) ?_; clear HF a; intro a HF
   refine wl_storeBox rfl HF rfl rfl (HF.ev rfl) (HF.ev rfl) HS.out 5 rfl (cells_lit [.slice none 0 0] rfl rfl) (by kernel_rfl) ?_; clear HS; intro w10 HS; replace HS := Bx.mk HS
   have HS : Bx (St w0 (boxA b5 3 94 (.agg #[.slice q.a0 q.d.fCells.length q.c0, .slice q.a1 q.d.fWaits.length q.c1, .bool q.d.fGone]) :: boxA b4 3 94 (.agg #[.slice ((ps.getD k default).a0) ((ps.getD k default).d.fCells.length) ((ps.getD k default).c0), .slice ((ps.getD k default).a1) ((ps.getD k default).d.fWaits.length) ((ps.getD k default).c1), .bool ((ps.getD k default).d.fGone)]) :: rowA HD.cells 3 94 (.slice ao qs.length cp) qs :: sepA (qs.map HD.asr) :: boxA b3 1 34 (.agg #[.slice ao qs.length cp]) :: boxA b2 1 34 (.agg #[.slice none 0 0]) :: boxA b1 1 34 (.agg #[.slice a0 ps.length c0]) :: F) _) := HS
   refine wl_as HF rfl rfl rfl rfl rfl ?_; clear HF a; intro a HF
   refine wl_ne ?_
   refine wp_ret ?_
   refine ex_then_ret ?_
   refine ex_block_ret ?_
   refine ex_then_ret ?_
   refine ex_then_ret ?_
   refine ex_block_ret ?_
   refine ex_then_ret ?_
   refine bp_ret2 HF Tryz.results75 (HF.resBox rfl (HS.out.box 5 rfl) (by kernel_rfl)) (HF.res rfl) ?_
   exact .inl ⟨eachTo_fail (k := k) (by rw [dsOf_get]; exact hev) (by omega), rfl, (((((((HS.out.erase 6).erase 5).erase 4).erase 3).erase 2).erase 1).erase 0)⟩
  ·skip
   refine ⟨_, rfl, ?_⟩; replace HS := Bx.mk (St.midl (L := C (k + 1)) (C := HD.asr q :: [boxA b4 3 94 (.agg #[.slice ((ps.getD k default).a0) ((ps.getD k default).d.fCells.length) ((ps.getD k default).c0), .slice ((ps.getD k default).a1) ((ps.getD k default).d.fWaits.length) ((ps.getD k default).c1), .bool ((ps.getD k default).d.fGone)]), rowA HD.cells 3 94 (.slice ao qs.length cp) qs, sepA (qs.map HD.asr), boxA b3 1 34 (.agg #[.slice ao qs.length cp]), boxA b2 1 34 (.agg #[.slice none 0 0]), boxA b1 1 34 (.agg #[.slice a0 ps.length c0])]) (St.midl (L := [HD.asr q]) hs)); clear hs HF; clear a; intro a HF
   replace HS : Bx (St w0 (HD.asr q :: boxA b4 3 94 (.agg #[.slice ((ps.getD k default).a0) ((ps.getD k default).d.fCells.length) ((ps.getD k default).c0), .slice ((ps.getD k default).a1) ((ps.getD k default).d.fWaits.length) ((ps.getD k default).c1), .bool ((ps.getD k default).d.fGone)]) :: rowA HD.cells 3 94 (.slice ao qs.length cp) qs :: sepA (qs.map HD.asr) :: boxA b3 1 34 (.agg #[.slice ao qs.length cp]) :: boxA b2 1 34 (.agg #[.slice none 0 0]) :: boxA b1 1 34 (.agg #[.slice a0 ps.length c0]) :: (C (k + 1) ++ F)) _) := ⟨HS.out⟩
   refine wl_mv HF rfl rfl rfl rfl rfl ?_; clear HF a; intro a HF
   refine wl_y rfl HF rfl rfl (yl_extract rfl (HF.ev rfl) rfl) ?_; clear HF a; intro a HF
   refine wl_y rfl HF rfl rfl (yl_extract rfl (HF.ev rfl) rfl) ?_; clear HF a; intro a HF
   refine wl_alloc rfl HF rfl rfl rfl (Z := [.slice none 0 0, .slice none 0 0, .bool false]) (by kernel_rfl) rfl HS.out ?_; clear HF HS a; intro a w11 b6 HF HS; replace HS := Bx.mk HS
   refine wl_storeBox rfl HF rfl rfl (HF.ev rfl) (HF.ev rfl) HS.out 0 rfl (cells_lit [.slice q.a0 q.d.fCells.length q.c0, .slice q.a1 q.d.fWaits.length q.c1, .bool q.d.fGone] rfl rfl) (by kernel_rfl) ?_; clear HS; intro w12 HS; replace HS := Bx.mk HS
   have HS : Bx (St w0 (boxA b6 3 94 (.agg #[.slice q.a0 q.d.fCells.length q.c0, .slice q.a1 q.d.fWaits.length q.c1, .bool q.d.fGone]) :: HD.asr q :: boxA b4 3 94 (.agg #[.slice ((ps.getD k default).a0) ((ps.getD k default).d.fCells.length) ((ps.getD k default).c0), .slice ((ps.getD k default).a1) ((ps.getD k default).d.fWaits.length) ((ps.getD k default).c1), .bool ((ps.getD k default).d.fGone)]) :: rowA HD.cells 3 94 (.slice ao qs.length cp) qs :: sepA (qs.map HD.asr) :: boxA b3 1 34 (.agg #[.slice ao qs.length cp]) :: boxA b2 1 34 (.agg #[.slice none 0 0]) :: boxA b1 1 34 (.agg #[.slice a0 ps.length c0]) :: (C (k + 1) ++ F)) _) := HS
   refine wl_as HF rfl rfl rfl rfl rfl ?_; clear HF a; intro a HF
   refine wl_ne ?_
   refine wp_seq ?_
   refine wp_sr ?_
   refine wl_mv HF rfl rfl rfl rfl rfl ?_; clear HF a; intro a HF
   refine wl_y rfl HF rfl rfl (yl_not rfl (HF.ev rfl)) ?_; clear HF a; intro a HF
   refine wl_ne ?_
   refine wc_false HF rfl ?_
   refine wp_skip ?_
   refine ex_then ?_
   refine wp_region_lit ?_
   refine wl_y rfl HF rfl rfl (yl_fieldAddr (j := 0) rfl (HF.ev rfl) (by kernel_rfl)) ?_; clear HF a; intro a HF
   refine wl_y rfl HF rfl rfl (yl_load (v := .slice ao qs.length cp) rfl (HF.ev rfl) (((HS.out.box 5 rfl).cell 0).trans rfl) (by kernel_rfl)) ?_; clear HF a; intro a HF
   refine wl_y rfl HF rfl rfl (yl_loadR (cs := [.slice q.a0 q.d.fCells.length q.c0, .slice q.a1 q.d.fWaits.length q.c1, .bool q.d.fGone]) rfl (HF.ev rfl) ((HS.out.box 0 rfl).sub 0 3) (by kernel_rfl)) ?_; clear HF a; intro a HF
   refine wl_buildS (enc := HD.cells) (e := 94) (size := 3) rfl HF rfl rfl rfl (ps := [(0, .agg #[.slice q.a0 q.d.fCells.length q.c0, .slice q.a1 q.d.fWaits.length q.c1, .bool q.d.fGone])]) rfl (cells := [.slice q.a0 q.d.fCells.length q.c0, .slice q.a1 q.d.fWaits.length q.c1, .bool q.d.fGone]) (by kernel_rfl) [q] rfl rfl (by unfold maxLen; omega) rfl HS.out ?_; clear HF HS a; intro b7 a w13 HF HS; replace HS := Bx.mk HS
   refine wl_appL rfl HF rfl rfl rfl (HF.ev rfl) (HF.ev rfl) elemD HD.cells_len HS.out 4 (xs := qs) rfl (ys := [q]) (St.rdN HS.out HD.cells_len 0 rfl) (cells_one_D _) (by unfold maxLen; simp only [List.length_cons, List.length_nil]; omega) (by simp only [List.length_cons, List.length_nil]; omega) ?_; clear HF HS a; intro ao8 cp9 w14 a HF HS; replace HS := Bx.mk HS
   replace HS : Bx (St w0 (rowA HD.cells 3 94 (.slice (some ⟨b7, 0, none⟩) 1 1) ([q]) :: boxA b6 3 94 (.agg #[.slice q.a0 q.d.fCells.length q.c0, .slice q.a1 q.d.fWaits.length q.c1, .bool q.d.fGone]) :: HD.asr q :: boxA b4 3 94 (.agg #[.slice ((ps.getD k default).a0) ((ps.getD k default).d.fCells.length) ((ps.getD k default).c0), .slice ((ps.getD k default).a1) ((ps.getD k default).d.fWaits.length) ((ps.getD k default).c1), .bool ((ps.getD k default).d.fGone)]) :: rowA HD.cells 3 94 (.slice ao8 (qs.length + ([q]).length) cp9) (qs ++ ([q])) :: sepA (qs.map HD.asr) :: boxA b3 1 34 (.agg #[.slice ao qs.length cp]) :: boxA b2 1 34 (.agg #[.slice none 0 0]) :: boxA b1 1 34 (.agg #[.slice a0 ps.length c0]) :: (C (k + 1) ++ F)) _) := ⟨HS.out⟩
   refine wl_y rfl HF rfl rfl (yl_fieldAddr (j := 0) rfl (HF.ev rfl) (by kernel_rfl)) ?_; clear HF a; intro a HF
   refine wl_storeF rfl rfl rfl (HF.ev rfl) (HF.ev rfl) (by kernel_rfl) HS.out 6 rfl rfl rfl ?_; clear HS; intro w15 HS; replace HS := Bx.mk HS
   have HS : Bx (St w0 (rowA HD.cells 3 94 (.slice (some ⟨b7, 0, none⟩) 1 1) ([q]) :: boxA b6 3 94 (.agg #[.slice q.a0 q.d.fCells.length q.c0, .slice q.a1 q.d.fWaits.length q.c1, .bool q.d.fGone]) :: HD.asr q :: boxA b4 3 94 (.agg #[.slice ((ps.getD k default).a0) ((ps.getD k default).d.fCells.length) ((ps.getD k default).c0), .slice ((ps.getD k default).a1) ((ps.getD k default).d.fWaits.length) ((ps.getD k default).c1), .bool ((ps.getD k default).d.fGone)]) :: rowA HD.cells 3 94 (.slice ao8 (qs.length + ([q]).length) cp9) (qs ++ ([q])) :: sepA (qs.map HD.asr) :: boxA b3 1 34 (.agg #[.slice ao8 (qs.length + ([q]).length) cp9]) :: boxA b2 1 34 (.agg #[.slice none 0 0]) :: boxA b1 1 34 (.agg #[.slice a0 ps.length c0]) :: (C (k + 1) ++ F)) _) := HS
   refine wpList_nil ?_
   refine ex_block ?_
   refine ex_then ?_
   refine wp_region_lit ?_
   refine wl_y rfl HF rfl rfl (yl_addI rfl (HF.ev rfl) (HF.ev rfl) (i64w (by omega))) ?_; clear HF a; intro a HF
   refine wl_mv HF rfl rfl rfl rfl rfl ?_; clear HF a; intro a HF
   refine wl_ne ?_
   have hz : qs.length + [q].length = (qs ++ [q]).length := (List.length_append ..).symm
   rw [hz] at HS
   replace HS := Bx.mk (St.hdSnoc (((HS.out).pick 5 rfl).pick 3 rfl))
   replace HS := Bx.mk ((((((((((HS.out).pick 7 rfl).pick 7 rfl).pick 7 rfl).pick 3 rfl).pick 7 rfl).erase 7).erase 6).erase 5))
   have hnext : eachTo step (dsOf ps) (k + 1) = some (dsOf (qs ++ [q])) := by rw [dsOf_append]; exact eachTo_next (x := q.d) hq (by rw [dsOf_get]; exact hev)
   exact ⟨k + 1, ⟨_, _, qs ++ [q], ⟨by omega, by rw [List.length_append]; show qs.length + 1 = k + 1; omega, hnext⟩, HF.less _ ⟨rfl, rfl, rfl, rfl, rfl, rfl, rfl, rfl, trivial⟩, HS.out⟩, (by omega)⟩
 ·clear HF; have HF := HF1; clear HF1
  have dcc1 := of_decide_eq_false cc1
  refine wc_false HF rfl ?_
  refine wp_exit ?_
  refine ex_then_exit ?_
  refine ex_then_exit ?_
  refine ex_block_hit ?_
  refine ex_then ?_
  refine wp_sr ?_
  refine wl_y rfl HF rfl rfl (yl_loadR (cs := [.slice ao qs.length cp]) rfl (HF.ev rfl) ((HS.out.box 2 rfl).sub 0 1) (by kernel_rfl)) ?_; clear HF a; intro a HF
  refine wl_storeBox rfl HF rfl rfl (HF.ev rfl) (HF.ev rfl) HS.out 3 rfl (cells_lit [.slice ao qs.length cp] rfl rfl) (by kernel_rfl) ?_; clear HS; intro w16 HS; replace HS := Bx.mk HS
  have HS : Bx (St w0 (rowA HD.cells 3 94 (.slice ao qs.length cp) qs :: sepA (qs.map HD.asr) :: boxA b3 1 34 (.agg #[.slice ao qs.length cp]) :: boxA b2 1 34 (.agg #[.slice ao qs.length cp]) :: boxA b1 1 34 (.agg #[.slice a0 ps.length c0]) :: (C k ++ F)) _) := HS
  refine wl_as HF rfl rfl rfl rfl rfl ?_; clear HF a; intro a HF
  refine wl_ne ?_
  refine wp_ret ?_
  refine bp_ret2 HF Tryz.results75 (HF.resBox rfl (HS.out.box 3 rfl) (by kernel_rfl)) (HF.res rfl) ?_
  replace HS : Bx (St w0 (rowA HD.cells 3 94 (.slice ao qs.length cp) qs :: sepA (qs.map HD.asr) :: boxA b3 1 34 (.agg #[.slice ao qs.length cp]) :: boxA b2 1 34 (.agg #[.slice ao qs.length cp]) :: boxA b1 1 34 (.agg #[.slice a0 ps.length c0]) :: (C k ++ F)) _) := ⟨((HS.out).pick 1 rfl).pick 1 rfl⟩
  obtain rfl : k = ps.length := by omega
  exact .inr ⟨_, _, qs, hq, rfl, (((HS.out.erase 4).erase 3).erase 2)⟩

end Go.Proofs.YtoaopmkbfifhaaaGreatDoor

/- Healing a set of disks, by the program. -/
namespace Go.Proofs.YtoaopmkbfifhaaaGreatDoor
set_option linter.unusedVariables false
set_option linter.unusedSimpArgs false
set_option maxHeartbeats 1000000
set_option maxRecDepth 100000
open Go.RowKit

theorem inB_yes {n lo hi : Int} (h1 : lo ≤ n) (h2 : n ≤ hi) : inB n lo hi = true := by
  unfold inB; simp [h1, h2]
end Go.Proofs.YtoaopmkbfifhaaaGreatDoor

/- New disks and sets of disks; a set of disks flushed. -/
namespace Go.Proofs.YtoaopmkbfifhaaaGreatDoor
set_option linter.unusedVariables false
set_option linter.unusedSimpArgs false
set_option maxHeartbeats 1000000
set_option maxRecDepth 100000
open Go.RowKit

theorem diskNew_any (w0 : World) : Calls Tryz.prog 137 #[] w0 fun e w' => ∃ q : HD, q.d = newD ∧ e = .returned (.agg #[.slice q.a0 q.d.fCells.length q.c0, .slice q.a1 q.d.fWaits.length q.c1, .bool q.d.fGone]) ∧ St w0 [q.asr] w' := by
 have HS := Bx.mk (St.start w0)
 refine wc_enter Tryz.func137 rfl Tryz.ntmps137 [] trivial rfl ?_; intro a HF
 refine wp_sr ?_
 refine wl_alloc rfl HF rfl rfl rfl (Z := [.slice none 0 0, .slice none 0 0, .bool false]) (by kernel_rfl) rfl HS.out ?_; clear HF HS a; intro a w1 b1 HF HS; replace HS := Bx.mk HS
 refine wl_ne ?_
 refine wp_sr ?_
 refine wl_makeS (enc := encS) (n := 64) rfl HF rfl rfl rfl elemS (HF.ev rfl) (HF.ev rfl) (by omega) (by omega) (by omega) (by unfold maxLen; omega) ByteArray.empty (by kernel_rfl) rfl rfl HS.out ?_; clear HF HS a; intro b2 a w2 HF HS; replace HS := Bx.mk HS
 refine wl_empty (e := 137) (size := 2) rfl HF rfl rfl rfl (by kernel_rfl) HS.out ?_; clear HF HS a; intro a w3 b3 HF HS; replace HS := Bx.mk HS
 refine wl_y rfl HF rfl rfl (yl_build HF rfl (ps := [(0, .slice (some ⟨b2, 0, none⟩) 64 64), (1, .slice (some ⟨b3, 0, none⟩) 0 0)]) rfl (cs := #[.slice (some ⟨b2, 0, none⟩) 64 64, .slice (some ⟨b3, 0, none⟩) 0 0, .bool false]) (by kernel_rfl)) ?_; clear HF a; intro a HF
 refine wl_storeBox rfl HF rfl rfl (HF.ev rfl) (HF.ev rfl) HS.out 1 rfl (cells_lit [.slice (some ⟨b2, 0, none⟩) 64 64, .slice (some ⟨b3, 0, none⟩) 0 0, .bool false] rfl rfl) (by kernel_rfl) ?_; clear HS; intro w4 HS; replace HS := Bx.mk HS
 have HS : Bx (St w0 ([rowA encS 1 9 (.slice (some ⟨b2, 0, none⟩) 64 64) (List.replicate 64 ByteArray.empty), boxA b1 3 94 (.agg #[.slice (some ⟨b2, 0, none⟩) 64 64, .slice (some ⟨b3, 0, none⟩) 0 0, .bool false])]) _) := HS
 refine wl_ne ?_
 refine wp_ret ?_
 refine bp_ret1 HF Tryz.results137 (HF.resBox rfl (HS.out.box 1 rfl) (by kernel_rfl)) ?_
 replace HS := Bx.mk (HS.out.nilRow WaitD.cells 2 137 (some ⟨b3, 0, none⟩))
 exact ⟨⟨some ⟨b2, 0, none⟩, 64, some ⟨b3, 0, none⟩, 0, newD⟩, rfl, rfl, (St.join (r := [_, _]) (s := [])).1 (((HS.out.pick 1 rfl).erase 2))⟩

theorem implLose_any (w0 : World) : Calls Tryz.prog 54 #[] w0 fun e w' => ∃ q : HD, q.d = lostD ∧ e = .returned (.agg #[.slice q.a0 q.d.fCells.length q.c0, .slice q.a1 q.d.fWaits.length q.c1, .bool q.d.fGone]) ∧ St w0 [q.asr] w' := by
 have HS := Bx.mk (St.start w0)
 refine wc_enter Tryz.func54 rfl Tryz.ntmps54 [] trivial rfl ?_; intro a HF
 refine wp_sr ?_
 refine wl_alloc rfl HF rfl rfl rfl (Z := [.slice none 0 0, .slice none 0 0, .bool false]) (by kernel_rfl) rfl HS.out ?_; clear HF HS a; intro a w1 b1 HF HS; replace HS := Bx.mk HS
 refine wl_ne ?_
 refine wp_sr ?_
 refine wl_makeS (enc := encS) (n := 64) rfl HF rfl rfl rfl elemS (HF.ev rfl) (HF.ev rfl) (by omega) (by omega) (by omega) (by unfold maxLen; omega) ByteArray.empty (by kernel_rfl) rfl rfl HS.out ?_; clear HF HS a; intro b2 a w2 HF HS; replace HS := Bx.mk HS
 refine wl_y rfl HF rfl rfl (yl_build HF rfl (ps := [(0, .slice (some ⟨b2, 0, none⟩) 64 64), (2, .bool true)]) rfl (cs := #[.slice (some ⟨b2, 0, none⟩) 64 64, .slice none 0 0, .bool true]) (by kernel_rfl)) ?_; clear HF a; intro a HF
 refine wl_storeBox rfl HF rfl rfl (HF.ev rfl) (HF.ev rfl) HS.out 1 rfl (cells_lit [.slice (some ⟨b2, 0, none⟩) 64 64, .slice none 0 0, .bool true] rfl rfl) (by kernel_rfl) ?_; clear HS; intro w3 HS; replace HS := Bx.mk HS
 have HS : Bx (St w0 ([rowA encS 1 9 (.slice (some ⟨b2, 0, none⟩) 64 64) (List.replicate 64 ByteArray.empty), boxA b1 3 94 (.agg #[.slice (some ⟨b2, 0, none⟩) 64 64, .slice none 0 0, .bool true])]) _) := HS
 refine wl_ne ?_
 refine wp_ret ?_
 refine bp_ret1 HF Tryz.results54 (HF.resBox rfl (HS.out.box 1 rfl) (by kernel_rfl)) ?_
 replace HS := Bx.mk (HS.out.nilRow WaitD.cells 2 137 none)
 exact ⟨⟨some ⟨b2, 0, none⟩, 64, none, 0, lostD⟩, rfl, rfl, (St.join (r := [_, _]) (s := [])).1 (((HS.out.pick 1 rfl).erase 2))⟩

theorem specLose_any (w0 : World) : Calls Tryz.prog 95 #[] w0 fun e w' => ∃ q : HD, q.d = lostD ∧ e = .returned (.agg #[.slice q.a0 q.d.fCells.length q.c0, .slice q.a1 q.d.fWaits.length q.c1, .bool q.d.fGone]) ∧ St w0 [q.asr] w' := by
 have HS := Bx.mk (St.start w0)
 refine wc_enter Tryz.func95 rfl Tryz.ntmps95 [] trivial rfl ?_; intro a HF
 refine wp_sr ?_
 refine wl_alloc rfl HF rfl rfl rfl (Z := [.slice none 0 0, .slice none 0 0, .bool false]) (by kernel_rfl) rfl HS.out ?_; clear HF HS a; intro a w1 b1 HF HS; replace HS := Bx.mk HS
 refine wl_ne ?_
 refine wp_sr ?_
 refine wl_call rfl HF rfl (enter_of Tryz.func137 (by kernel_rfl) rfl) (args := #[]) rfl (diskNew_any _) rfl rfl ?_
 rintro _ w2 ⟨⟨qa2, qc2, qb2, qe2, qd⟩, hqd, rfl, hs⟩; obtain rfl : qd = newD := hqd; refine ⟨_, rfl, ?_⟩
 replace HS := Bx.mk ((HS.out.add hs)); clear hs HF; clear a; intro a HF
 replace HS : Bx (St w0 ([HD.asr ⟨qa2, qc2, qb2, qe2, newD⟩, boxA b1 3 94 (.agg #[.slice none 0 0, .slice none 0 0, .bool false])]) _) := ⟨HS.out⟩
 refine wl_alloc rfl HF rfl rfl rfl (Z := [.slice none 0 0, .slice none 0 0, .bool false]) (by kernel_rfl) rfl HS.out ?_; clear HF HS a; intro a w3 b3 HF HS; replace HS := Bx.mk HS
 refine wl_storeBox rfl HF rfl rfl (HF.ev rfl) (HF.ev rfl) HS.out 0 rfl (cells_lit [.slice qa2 newD.fCells.length qc2, .slice qb2 newD.fWaits.length qe2, .bool newD.fGone] rfl rfl) (by kernel_rfl) ?_; clear HS; intro w4 HS; replace HS := Bx.mk HS
 have HS : Bx (St w0 ([boxA b3 3 94 (.agg #[.slice qa2 newD.fCells.length qc2, .slice qb2 newD.fWaits.length qe2, .bool newD.fGone]), HD.asr ⟨qa2, qc2, qb2, qe2, newD⟩, boxA b1 3 94 (.agg #[.slice none 0 0, .slice none 0 0, .bool false])]) _) := HS
 refine wl_ne ?_
 refine wp_sr ?_
 refine wl_y rfl HF rfl rfl (yl_fieldAddr (j := 2) rfl (HF.ev rfl) (by kernel_rfl)) ?_; clear HF a; intro a HF
 refine wl_storeF rfl rfl rfl (HF.ev rfl) (HF.ev rfl) (by kernel_rfl) HS.out 0 rfl rfl rfl ?_; clear HS; intro w5 HS; replace HS := Bx.mk HS
 have HS : Bx (St w0 ([boxA b3 3 94 (.agg #[.slice qa2 newD.fCells.length qc2, .slice qb2 newD.fWaits.length qe2, .bool true]), HD.asr ⟨qa2, qc2, qb2, qe2, newD⟩, boxA b1 3 94 (.agg #[.slice none 0 0, .slice none 0 0, .bool false])]) _) := HS
 refine wl_ne ?_
 refine wp_sr ?_
 refine wl_y rfl HF rfl rfl (yl_loadR (cs := [.slice qa2 newD.fCells.length qc2, .slice qb2 newD.fWaits.length qe2, .bool true]) rfl (HF.ev rfl) ((HS.out.box 0 rfl).sub 0 3) (by kernel_rfl)) ?_; clear HF a; intro a HF
 refine wl_storeBox rfl HF rfl rfl (HF.ev rfl) (HF.ev rfl) HS.out 2 rfl (cells_lit [.slice qa2 newD.fCells.length qc2, .slice qb2 newD.fWaits.length qe2, .bool true] rfl rfl) (by kernel_rfl) ?_; clear HS; intro w6 HS; replace HS := Bx.mk HS
 have HS : Bx (St w0 ([boxA b3 3 94 (.agg #[.slice qa2 newD.fCells.length qc2, .slice qb2 newD.fWaits.length qe2, .bool true]), HD.asr ⟨qa2, qc2, qb2, qe2, newD⟩, boxA b1 3 94 (.agg #[.slice qa2 newD.fCells.length qc2, .slice qb2 newD.fWaits.length qe2, .bool true])]) _) := HS
 refine wl_ne ?_
 refine wp_ret ?_
 refine bp_ret1 HF Tryz.results95 (HF.resBox rfl (HS.out.box 2 rfl) (by kernel_rfl)) ?_
 replace HS : Bx (St w0 ([HD.asr ⟨qa2, qc2, qb2, qe2, newD⟩, boxA b3 3 94 (.agg #[.slice qa2 newD.fCells.length qc2, .slice qb2 newD.fWaits.length qe2, .bool true]), boxA b1 3 94 (.agg #[.slice qa2 newD.fCells.length qc2, .slice qb2 newD.fWaits.length qe2, .bool true])]) _) := ⟨(HS.out).pick 1 rfl⟩
 exact ⟨⟨qa2, qc2, qb2, qe2, lostD⟩, rfl, rfl, ((HS.out.erase 2).erase 1)⟩

theorem raidNew_any (w0 : World) : Calls Tryz.prog 93 #[] w0 fun e w' => ∃ (g c : Nat) (qs : List HD), dsOf qs = [newD, newD, newD] ∧ e = .returned (.agg #[.slice (some ⟨g, 0, none⟩) qs.length c]) ∧ St w0 [rowA HD.cells 3 94 (.slice (some ⟨g, 0, none⟩) qs.length c) qs, sepA (qs.map HD.asr)] w' := by
 have HS := Bx.mk (St.start w0)
 refine wc_enter Tryz.func93 rfl Tryz.ntmps93 [] trivial rfl ?_; intro a HF
 refine wp_sr ?_
 refine wl_alloc rfl HF rfl rfl rfl (Z := [.slice none 0 0]) (by kernel_rfl) rfl HS.out ?_; clear HF HS a; intro a w1 b1 HF HS; replace HS := Bx.mk HS
 refine wl_ne ?_
 refine wp_sr ?_
 refine wl_empty (e := 94) (size := 3) rfl HF rfl rfl rfl (by kernel_rfl) HS.out ?_; clear HF HS a; intro a w2 b2 HF HS; replace HS := Bx.mk HS
 refine wl_y rfl HF rfl rfl (yl_build HF rfl (ps := [(0, .slice (some ⟨b2, 0, none⟩) 0 0)]) rfl (cs := #[.slice (some ⟨b2, 0, none⟩) 0 0]) (by kernel_rfl)) ?_; clear HF a; intro a HF
 refine wl_alloc rfl HF rfl rfl rfl (Z := [.slice none 0 0]) (by kernel_rfl) rfl HS.out ?_; clear HF HS a; intro a w3 b3 HF HS; replace HS := Bx.mk HS
 refine wl_storeBox rfl HF rfl rfl (HF.ev rfl) (HF.ev rfl) HS.out 0 rfl (cells_lit [.slice (some ⟨b2, 0, none⟩) 0 0] rfl rfl) (by kernel_rfl) ?_; clear HS; intro w4 HS; replace HS := Bx.mk HS
 have HS : Bx (St w0 ([boxA b3 1 34 (.agg #[.slice (some ⟨b2, 0, none⟩) 0 0]), boxA b1 1 34 (.agg #[.slice none 0 0])]) _) := HS
 refine wl_ne ?_
 refine wp_seq ?_
 refine wp_sr ?_
 refine wl_as HF rfl rfl rfl rfl rfl ?_; clear HF a; intro a HF
 refine wl_ne ?_
 refine wp_block ?_
 replace HS := Bx.mk ((HS.out.hdNil).nilRow HD.cells 3 94 (some ⟨b2, 0, none⟩))
 refine wc_loop (ι := Nat) (fun k a w => ∃ (ao : Option Addr) (cp : Nat) (qs : List HD), (k ≤ 3 ∧ qs.length = k ∧ dsOf qs = List.replicate k newD) ∧ Fr 16 a [(0, .pointer (some ⟨b1, 0, none⟩)), (1, .pointer (some ⟨b3, 0, none⟩)), (2, .int .i64 (k : Int))] ∧ St w0 ([rowA HD.cells 3 94 (.slice ao qs.length cp) qs, sepA (qs.map HD.asr), boxA b3 1 34 (.agg #[.slice ao qs.length cp]), boxA b1 1 34 (.agg #[.slice none 0 0])]) w) (fun k => 3 - k) 0 ⟨_, _, [], ⟨Nat.zero_le _, rfl, rfl⟩, HF.less _ ⟨rfl, rfl, rfl, trivial⟩, HS.out⟩ ?_
 clear HF HS; clear a
 rintro k a w5 ⟨ao, cp, qs, ⟨hk, hql, hq⟩, HF, HS⟩
 replace HS := Bx.mk HS
 refine wp_seq ?_
 refine wp_sr ?_
 refine wl_mv HF rfl rfl rfl rfl rfl ?_; clear HF a; intro a HF
 refine wl_y rfl HF rfl rfl (yl_lssI rfl (HF.ev rfl) (HF.ev rfl)) ?_; clear HF a; intro a HF
 refine wl_ne ?_
 refine HF.cases 6 rfl (fun cc1 HF1 => ?_) (fun cc1 HF1 => ?_)
 ·clear HF; have HF := HF1; clear HF1
  have dcc1 := of_decide_eq_true cc1
  refine wc_true HF rfl ?_
  refine wp_skip ?_
  refine ex_then ?_
  refine wp_seq ?_
  refine wp_block ?_
  refine wr_marked (W := w0) (s := [sepA (qs.map HD.asr), boxA b3 1 34 (.agg #[.slice ao qs.length cp]), boxA b1 1 34 (.agg #[.slice none 0 0])]) 6 (by kernel_rfl) ?_
  have HS2 := Bx.mk HS.out.drew; replace HS := Bx.mk (show St w0 ([sepA (qs.map HD.asr), boxA b3 1 34 (.agg #[.slice ao qs.length cp]), boxA b1 1 34 (.agg #[.slice none 0 0])]) _ from (HS.out.drew.erase 0)); generalize World.drew _ = w6 at HS HS2 ⊢
  refine wm_t 0 rfl (by kernel_rfl) (by kernel_rfl) (by kernel_rfl) (fun _ _ _ h => h) (by decide) rfl HF rfl rfl (fun _ _ => (yl_fieldAddr (j := 0) rfl (HF.ev rfl) (by kernel_rfl))) (fun _ => HS.out) ?_; clear HF a; intro a HF
  refine wm_y 1 rfl (by kernel_rfl) (by kernel_rfl) (by kernel_rfl) (fun _ _ _ h => h) (by decide) (by kernel_rfl) (by kernel_rfl) rfl HF rfl rfl (fun _ HS => (yl_load (v := .slice ao qs.length cp) rfl (HF.ev rfl) (((HS.box 1 rfl).cell 0).trans rfl) (by kernel_rfl))) HS.out ?_; clear HF a; intro a HF
  refine wm_one 2 (by kernel_rfl) ?_
  refine wo_call rfl rfl HF rfl (enter_of Tryz.func137 (by kernel_rfl) rfl) (args := #[]) rfl (diskNew_any _) rfl rfl ?_
  rintro _ w7 ⟨⟨qa4, qc4, qb4, qe4, qd⟩, hqd, rfl, hs⟩; obtain rfl : qd = newD := hqd; refine ⟨_, rfl, ?_⟩
  replace HS := Bx.mk (HS.out.later hs.bel)
  replace HS2 := Bx.mk ((HS2.out.add hs)); clear hs HF; clear a; intro a HF
  replace HS2 : Bx (St w0 ([HD.asr ⟨qa4, qc4, qb4, qe4, newD⟩, rowA HD.cells 3 94 (.slice ao qs.length cp) qs, sepA (qs.map HD.asr), boxA b3 1 34 (.agg #[.slice ao qs.length cp]), boxA b1 1 34 (.agg #[.slice none 0 0])]) _) := ⟨HS2.out⟩
  refine ⟨fun _ => HS.out, ?_⟩
  refine wm_one 3 (by kernel_rfl) ?_
  refine wo_buildS (enc := HD.cells) (e := 94) (size := 3) rfl rfl HF rfl rfl rfl (ps := [(0, .agg #[.slice qa4 newD.fCells.length qc4, .slice qb4 newD.fWaits.length qe4, .bool newD.fGone])]) rfl (cells := [.slice qa4 newD.fCells.length qc4, .slice qb4 newD.fWaits.length qe4, .bool newD.fGone]) (by kernel_rfl) [(⟨qa4, qc4, qb4, qe4, newD⟩ : HD)] rfl rfl (by unfold maxLen; omega) rfl HS2.out HS.out ?_; clear HF HS HS2 a; intro b5 a w8 HF HS2 HS; replace HS := Bx.mk HS; replace HS2 := Bx.mk HS2; refine ⟨fun _ => HS.out, ?_⟩
  refine wm_one 4 (by kernel_rfl) ?_
  refine wo_appL rfl rfl HF rfl rfl rfl (HF.ev rfl) (HF.ev rfl) elemD HD.cells_len HS2.out 2 (xs := qs) rfl (ys := [(⟨qa4, qc4, qb4, qe4, newD⟩ : HD)]) (St.rdN HS2.out HD.cells_len 0 rfl) (cells_one_D _) (by unfold maxLen; simp only [List.length_cons, List.length_nil]; omega) (by simp only [List.length_cons, List.length_nil]; omega) ?_; clear HF HS HS2 a; intro ao6 cp7 w9 a HF HS2; replace HS2 := Bx.mk HS2
  replace HS2 : Bx (St w0 ([rowA HD.cells 3 94 (.slice (some ⟨b5, 0, none⟩) 1 1) ([(⟨qa4, qc4, qb4, qe4, newD⟩ : HD)]), HD.asr ⟨qa4, qc4, qb4, qe4, newD⟩, rowA HD.cells 3 94 (.slice ao6 (qs.length + ([(⟨qa4, qc4, qb4, qe4, newD⟩ : HD)]).length) cp7) (qs ++ ([(⟨qa4, qc4, qb4, qe4, newD⟩ : HD)])), sepA (qs.map HD.asr), boxA b3 1 34 (.agg #[.slice ao qs.length cp]), boxA b1 1 34 (.agg #[.slice none 0 0])]) _) := ⟨HS2.out⟩
  have HS : Bx (St w0 ([sepA (qs.map HD.asr), boxA b3 1 34 (.agg #[.slice ao qs.length cp]), boxA b1 1 34 (.agg #[.slice none 0 0])]) _) := ⟨(((HS2.out.erase 2).erase 1).erase 0)⟩
  refine ⟨fun _ => HS.out, ?_⟩
  refine wm_t 5 rfl (by kernel_rfl) (by kernel_rfl) (by kernel_rfl) (fun _ _ _ h => h) (by decide) rfl HF rfl rfl (fun _ _ => (yl_fieldAddr (j := 0) rfl (HF.ev rfl) (by kernel_rfl))) (fun _ => HS.out) ?_; clear HF a; intro a HF
  refine wm_one 6 (by kernel_rfl) ?_
  refine wo_storeF rfl rfl rfl rfl (HF.ev rfl) (HF.ev rfl) (by kernel_rfl) HS2.out 4 rfl rfl rfl ?_
  clear HS2; intro w10 HS2; replace HS2 : Bx (St w0 ([rowA HD.cells 3 94 (.slice (some ⟨b5, 0, none⟩) 1 1) ([(⟨qa4, qc4, qb4, qe4, newD⟩ : HD)]), HD.asr ⟨qa4, qc4, qb4, qe4, newD⟩, rowA HD.cells 3 94 (.slice ao6 (qs.length + ([(⟨qa4, qc4, qb4, qe4, newD⟩ : HD)]).length) cp7) (qs ++ ([(⟨qa4, qc4, qb4, qe4, newD⟩ : HD)])), sepA (qs.map HD.asr), boxA b3 1 34 (.agg #[.slice ao6 (qs.length + ([(⟨qa4, qc4, qb4, qe4, newD⟩ : HD)]).length) cp7]), boxA b1 1 34 (.agg #[.slice none 0 0])]) _) := ⟨HS2⟩; refine ⟨(fun h => absurd (show true = false from h) (by decide)), ?_⟩
  refine wm_done (by kernel_rfl) ?_
  clear HS; have HS := HS2; clear HS2
  refine ex_block ?_
  refine ex_then ?_
  refine wp_region_lit ?_
  refine wl_mv HF rfl rfl rfl rfl rfl ?_; clear HF a; intro a HF
  refine wl_y rfl HF rfl rfl (yl_addI rfl (HF.ev rfl) (HF.ev rfl) (i64w (by omega))) ?_; clear HF a; intro a HF
  refine wl_as HF rfl rfl rfl rfl rfl ?_; clear HF a; intro a HF
  refine wl_ne ?_
  have hz : qs.length + [(⟨qa4, qc4, qb4, qe4, newD⟩ : HD)].length = (qs ++ [(⟨qa4, qc4, qb4, qe4, newD⟩ : HD)]).length := (List.length_append ..).symm
  rw [hz] at HS
  replace HS := Bx.mk (St.hdSnoc (((HS.out).pick 3 rfl).pick 2 rfl))
  replace HS := Bx.mk (((((((HS.out).pick 4 rfl).pick 4 rfl).pick 2 rfl).pick 4 rfl).erase 4))
  have hnext : dsOf (qs ++ [(⟨qa4, qc4, qb4, qe4, newD⟩ : HD)]) = List.replicate (k + 1) newD := by rw [dsOf_append, hq, List.replicate_succ']; rfl
  exact ⟨k + 1, ⟨_, _, qs ++ [(⟨qa4, qc4, qb4, qe4, newD⟩ : HD)], ⟨by omega, by rw [List.length_append]; show qs.length + 1 = k + 1; omega, hnext⟩, HF.less _ ⟨rfl, rfl, rfl, trivial⟩, HS.out⟩, (by omega)⟩
 ·clear HF; have HF := HF1; clear HF1
  have dcc1 := of_decide_eq_false cc1
  refine wc_false HF rfl ?_
  refine wp_exit ?_
  refine ex_then_exit ?_
  refine ex_then_exit ?_
  refine ex_block_hit ?_
  refine ex_then ?_
  refine wp_sr ?_
  refine wl_y rfl HF rfl rfl (yl_loadR (cs := [.slice ao qs.length cp]) rfl (HF.ev rfl) ((HS.out.box 2 rfl).sub 0 1) (by kernel_rfl)) ?_; clear HF a; intro a HF
  refine wl_storeBox rfl HF rfl rfl (HF.ev rfl) (HF.ev rfl) HS.out 3 rfl (cells_lit [.slice ao qs.length cp] rfl rfl) (by kernel_rfl) ?_; clear HS; intro w11 HS; replace HS := Bx.mk HS
  have HS : Bx (St w0 ([rowA HD.cells 3 94 (.slice ao qs.length cp) qs, sepA (qs.map HD.asr), boxA b3 1 34 (.agg #[.slice ao qs.length cp]), boxA b1 1 34 (.agg #[.slice ao qs.length cp])]) _) := HS
  refine wl_ne ?_
  refine wp_ret ?_
  refine bp_ret1 HF Tryz.results93 (HF.resBox rfl (HS.out.box 3 rfl) (by kernel_rfl)) ?_
  replace HS : Bx (St w0 ([rowA HD.cells 3 94 (.slice ao qs.length cp) qs, sepA (qs.map HD.asr), boxA b3 1 34 (.agg #[.slice ao qs.length cp]), boxA b1 1 34 (.agg #[.slice ao qs.length cp])]) _) := ⟨((HS.out).pick 1 rfl).pick 1 rfl⟩
  obtain rfl : k = 3 := by omega
  replace HS := Bx.mk ((HS.out.erase 3).erase 2)
  obtain ⟨g, rfl, _, _, _, _⟩ := HS.out.rowOpen 0 rfl (by omega)
  exact ⟨g, cp, qs, hq, rfl, HS.out⟩

end Go.Proofs.YtoaopmkbfifhaaaGreatDoor

/- Sets of disks: read, owned, apart. -/
namespace Go.Proofs.YtoaopmkbfifhaaaGreatDoor
set_option linter.unusedVariables false
set_option linter.unusedSimpArgs false
set_option maxHeartbeats 1000000
set_option maxRecDepth 100000
open Go.RowKit

structure RaidD where
  fDisks : List DiskD
def RaidD.Reads (w : World) (v : Value) (x : RaidD) : Prop := ∃ (a : Option Addr) (c : Nat) (ps : List HD), v = .agg #[.slice a ps.length c] ∧ dsOf ps = x.fDisks ∧ Rd HD.cells 3 w a ps.length ps ∧ ∀ k, k < ps.length → (ps.getD k default).reads w
theorem RaidD.Reads.below {w w' : World} {v : Value} {x : RaidD} (h : RaidD.Reads w v x) (hb : Below w.heap.size w w') : RaidD.Reads w' v x := by
  obtain ⟨a, c, ps, e, hx, hr, hp⟩ := h
  exact ⟨a, c, ps, e, hx, hr.below hb, fun k hk => (hp k hk).below hb⟩
/-- The slices of a disk, of a set of disks. -/
def HD.vs (p : HD) : List Value := [.slice p.a0 p.d.fCells.length p.c0, .slice p.a1 p.d.fWaits.length p.c1]
def vsOf (a : Option Addr) (c : Nat) (ps : List HD) : List Value := .slice a ps.length c :: ps.flatMap HD.vs
def HD.own (w : World) (B B1 : Nat) (p : HD) : Prop := RowO encS 1 9 w B B1 (.slice p.a0 p.d.fCells.length p.c0) p.d.fCells ∧ RowO WaitD.cells 2 137 w B B1 (.slice p.a1 p.d.fWaits.length p.c1) p.d.fWaits
def RaidD.Own (w : World) (B B1 : Nat) (v : Value) (x : RaidD) : Prop := ∃ (a : Option Addr) (c : Nat) (ps : List HD), v = .agg #[.slice a ps.length c] ∧ dsOf ps = x.fDisks ∧ RowO HD.cells 3 94 w B B1 (.slice a ps.length c) ps ∧ (∀ p, p ∈ ps → p.own w B B1) ∧ (vsOf a c ps).Pairwise Apart
theorem RaidD.Own.cells {w : World} {B B1 : Nat} {v : Value} {x : RaidD} (h : RaidD.Own w B B1 v x) : Cells 1 v := by
  obtain ⟨a, c, ps, rfl, _⟩ := h
  exact cells_lit [_] rfl rfl
theorem RaidD.Own.rd {w : World} {B B1 : Nat} {v : Value} {x : RaidD} (h : RaidD.Own w B B1 v x) : RaidD.Reads w v x := by
  obtain ⟨a, c, ps, e, hx, hr, hp, ha⟩ := h
  refine ⟨a, c, ps, e, hx, ?_, fun k hk => ?_⟩
  · obtain ⟨u, e0, k0, d0⟩ := hr.rd HD.cells_len
    simp only [Value.slice.injEq, true_and] at k0
    obtain ⟨rfl, rfl⟩ := k0
    exact d0
  · rw [getD_get hk]
    obtain ⟨h1, h2⟩ := hp _ (List.getElem_mem hk)
    obtain ⟨u, e0, k0, d0⟩ := h1.rd encS_len
    simp only [Value.slice.injEq, true_and] at k0
    obtain ⟨rfl, rfl⟩ := k0
    obtain ⟨u, e0, k0, d1⟩ := h2.rd WaitD.cells_len
    simp only [Value.slice.injEq, true_and] at k0
    obtain ⟨rfl, rfl⟩ := k0
    exact ⟨d0, d1⟩
def blk (v : Value) : List Nat := (Value.rowBlock v).toList
theorem sep_hds {w : World} : ∀ {ps : List HD} {f : List Nat}, sepP (ps.map HD.asr) w f → f = (ps.flatMap HD.vs).flatMap blk ∧ ∀ p, p ∈ ps → ∃ B1, p.own w 0 B1
  | [], f, h => ⟨h, fun _ h => by cases h⟩
  | p :: ps, f, h => by
    obtain ⟨f1, f2, rfl, ⟨g1, g2, rfl, ⟨e1, B1, r1⟩, ⟨g3, g4, rfl, ⟨e3, B3, r3⟩, e4⟩⟩, h2⟩ := h
    obtain ⟨e2, h3⟩ := sep_hds h2
    refine ⟨?_, fun q hq => ?_⟩
    · have e4 : g4 = [] := e4
      rw [e1, e2, e3, e4]
      simp [HD.vs, blk]
    · rcases List.mem_cons.1 hq with rfl | hq
      · exact ⟨max B1 B3, r1.mono (Nat.le_refl _) (by omega), r3.mono (Nat.le_refl _) (by omega)⟩
      · exact h3 q hq
end Go.Proofs.YtoaopmkbfifhaaaGreatDoor

/- Laws for the draws, 3: sets of disks that read. -/
namespace Go.Proofs.YtoaopmkbfifhaaaGreatDoor
set_option linter.unusedVariables false
set_option linter.unusedSimpArgs false
set_option maxHeartbeats 1000000
set_option maxRecDepth 100000
open Go.RowKit
/-- A set of disks reads. -/
def rdsP (ao : Option Addr) (ps : List HD) (w : World) : Prop := Rd HD.cells 3 w ao ps.length ps ∧ ∀ p, p ∈ ps → p.reads w
def allP (ps : List HD) (w : World) : Prop := ∀ p, p ∈ ps → p.reads w
theorem own_reads {w : World} {B B1 : Nat} {p : HD} (h : p.own w B B1) : p.reads w := by
  obtain ⟨h1, h2⟩ := h
  obtain ⟨u, e0, k0, d0⟩ := h1.rd encS_len
  simp only [Value.slice.injEq, true_and] at k0
  obtain ⟨rfl, rfl⟩ := k0
  obtain ⟨u, e0, k0, d1⟩ := h2.rd WaitD.cells_len
  simp only [Value.slice.injEq, true_and] at k0
  obtain ⟨rfl, rfl⟩ := k0
  exact ⟨d0, d1⟩
theorem hds_allP {ps : List HD} {w : World} {f : List Nat} (h : (sepA (ps.map HD.asr)).P w f) : allP ps w := fun p hp => by
  obtain ⟨B1, ho⟩ := (sep_hds h).2 p hp
  exact own_reads ho
theorem sep2 {a b : Asr} {P Q R : World → Prop} (ha : ∀ w f, a.P w f → P w) (hb : ∀ w f, b.P w f → Q w) (h : ∀ w, P w → Q w → R w) : ∀ w f, (sepA [a, b]).P w f → R w := by
  rintro w f ⟨f1, f2, rfl, h1, ⟨f3, f4, rfl, h2, h3⟩⟩
  exact h w (ha w _ h1) (hb w _ h2)
theorem sep3 {a b c : Asr} {P Q S R : World → Prop} (ha : ∀ w f, a.P w f → P w) (hb : ∀ w f, b.P w f → Q w) (hc : ∀ w f, c.P w f → S w) (h : ∀ w, P w → Q w → S w → R w) : ∀ w f, (sepA [a, b, c]).P w f → R w := by
  rintro w f ⟨f1, f2, rfl, h1, ⟨f3, f4, rfl, h2, ⟨f5, f6, rfl, h3, h4⟩⟩⟩
  exact h w (ha w _ h1) (hb w _ h2) (hc w _ h3)
theorem holds_P {P : World → Prop} : ∀ w f, (holdsA P).P w f → P w := fun w f h => h w (Nat.le_refl _) fun _ _ => rfl
theorem allP_set {ps : List HD} {k : Nat} {q : HD} {w : World} (h : allP ps w) (hq : q.reads w) : allP (ps.set k q) w := fun p hp => (List.mem_or_eq_of_mem_set hp).elim (h p) fun e => by rw [e]; exact hq
/-- A row by its cells alone. -/
theorem rowA_congr {α : Type} {enc : α → List Value} {size : Nat} {T : TypeId} {v : Value} {xs ys : List α} (hl : xs.length = ys.length) (hf : xs.flatMap enc = ys.flatMap enc) {w : World} {f : List Nat} (h : (rowA enc size T v xs).P w f) : (rowA enc size T v ys).P w f := by
  obtain ⟨h1, B1, ao, cap, h2, h3, h4⟩ := h
  refine ⟨h1, B1, ao, cap, by rw [← hl]; exact h2, ?_, h4⟩
  rcases h3 with ⟨h3, rfl⟩ | h3
  · exact .inl ⟨h3, List.length_eq_zero_iff.1 (by rw [← hl]; rfl)⟩
  · exact .inr (by rw [← hl, ← hf]; exact h3)
theorem flatMap_set_same {qs : List HD} {k : Nat} {q q' : HD} (h : q'.cells = q.cells) : (qs.set k q).flatMap HD.cells = (qs.set k q').flatMap HD.cells := by
  induction qs generalizing k with
  | nil => rfl
  | cons x xs ih =>
    cases k with
    | zero => simp [h]
    | succ k => simp only [List.set_cons_succ, List.flatMap_cons]; rw [ih]
def fitsL (ps : List HD) : Prop := ∀ p, p ∈ ps → p.d.fits
theorem default_fits : (default : HD).d.fits := ⟨Nat.zero_le _, Nat.zero_le _, fun k => Nat.zero_le _, fun k => Nat.zero_le _⟩
theorem fitsL.at {ps : List HD} (h : fitsL ps) (k : Nat) : (ps.getD k default).d.fits := by
  by_cases hk : k < ps.length
  · rw [getD_get hk]; exact h _ (List.getElem_mem hk)
  · rw [show ps.getD k default = default by simp [List.getD, List.getElem?_eq_none (Nat.le_of_not_lt hk)]]
    exact default_fits
theorem fitsL.set {ps : List HD} (h : fitsL ps) {q : HD} (hq : q.d.fits) (k : Nat) : fitsL (ps.set k q) := fun p hp => (List.mem_or_eq_of_mem_set hp).elim (h p) fun e => by rw [e]; exact hq
theorem fitsL.drop {ps : List HD} (h : fitsL ps) (k : Nat) : fitsL (ps.drop k) := fun p hp => h p (List.mem_of_mem_drop hp)
theorem niceS.fitsL {n : Nat} {ps : List HD} (h : niceS n (dsOf ps)) (hn : n ≤ 1000) : fitsL ps := fun p hp => (h.2 p.d (List.mem_map_of_mem hp)).fits hn
theorem niceS.len {n : Nat} {ps : List HD} (h : niceS n (dsOf ps)) : ps.length = 3 := by rw [← dsOf_len]; exact h.1
theorem niceS.get {n : Nat} {ps : List HD} (h : niceS n (dsOf ps)) {k : Nat} (hk : k < 3) : (ps.getD k default).d.nice n := by rw [← dsOf_get]; exact h.at hk
theorem rdsP.at {ao : Option Addr} {ps : List HD} {w : World} (h : rdsP ao ps w) : ∀ k, k < ps.length → (ps.getD k default).reads w := fun k hk => by rw [getD_get hk]; exact h.2 _ (List.getElem_mem hk)
theorem raid_hold {W w : World} {F : List Asr} {g c n : Nat} {ps : List HD} (hn : n = ps.length) (h : St W (rowA HD.cells 3 94 (.slice (some ⟨g, 0, none⟩) n c) ps :: holdsA (allP ps) :: F) w) : St W (holdsA (rdsP (some ⟨g, 0, none⟩) ps) :: F) w := by
  subst hn
  exact ((St.join (r := [_, _]) (s := F)).1 h).hold (sep2 (fun w f h => row_reads HD.cells_len h) holds_P fun w h1 h2 => ⟨h1, h2⟩)
theorem nice3 : niceS 0 [newD, newD, newD] := ⟨rfl, fun d hd => by
  have : d = newD := by simpa using hd
  rw [this]; exact nice_new⟩
end Go.Proofs.YtoaopmkbfifhaaaGreatDoor

/- Pointers and trees as texts; signed records: walked. -/
namespace Go.Proofs.YtoaopmkbfifhaaaGreatDoor
set_option linter.unusedVariables false
set_option linter.unusedSimpArgs false
set_option maxHeartbeats 1000000
set_option maxRecDepth 100000
open Go.RowKit

theorem l6DecI_any (n : Int) (h0 : 0 ≤ n) (h1 : n ≤ 9223372036854775807) (w0 : World) : Calls Tryz.prog 65 #[.int .i64 n] w0 fun e w' => e = .returned (.string (decB n.toNat)) ∧ Below w0.heap.size w0 w' := by
  obtain ⟨m, rfl⟩ : ∃ m : Nat, n = (m : Int) := ⟨n.toNat, by omega⟩
  rw [Int.toNat_natCast]; exact l6Dec_any m (by omega) w0
def dotB : ByteArray := ⟨#[46]⟩
/-- The text of a pointer. -/
def ptrB (p : PtrD) : ByteArray := bif p.ok then (bif p.hole then ⟨#[45]⟩ else numB p.fAt ++ dotB ++ numB p.fBirth ++ dotB ++ numB p.fSize ++ dotB ++ numB p.fSum ++ dotB ++ numB p.fLevel) else ByteArray.empty
theorem ptrB_no {p : PtrD} (h : p.ok = false) : ptrB p = ByteArray.empty := by unfold ptrB; rw [h]; rfl
theorem ptrB_hole {p : PtrD} (h : p.ok = true) (h2 : p.hole = true) : ptrB p = ⟨#[45]⟩ := by unfold ptrB; rw [h, h2]; rfl
theorem ptrB_yes {p : PtrD} (h : p.ok = true) (h2 : p.hole = false) : ptrB p = numB p.fAt ++ dotB ++ numB p.fBirth ++ dotB ++ numB p.fSize ++ dotB ++ numB p.fSum ++ dotB ++ numB p.fLevel := by unfold ptrB; rw [h, h2]; rfl
theorem size_dot : dotB.size = 1 := rfl
theorem ptrB_le (p : PtrD) : (ptrB p).size ≤ 49 := by
  have h1 := numB_le p.fAt; have h2 := numB_le p.fBirth; have h3 := numB_le p.fSize; have h4 := numB_le p.fSum; have h5 := numB_le p.fLevel
  cases h : p.ok with
  | false => rw [ptrB_no h]; exact Nat.zero_le _
  | true =>
    cases hh : p.hole with
    | true => rw [ptrB_hole h hh]; decide
    | false => rw [ptrB_yes h hh]; simp only [app_size, size_dot]; omega
theorem PtrD.ok_all {p : PtrD} (h : p.ok = true) (h2 : p.hole = false) : 8 ≤ p.fAt ∧ p.fAt ≤ 63 ∧ 1 ≤ p.fBirth ∧ p.fBirth ≤ 900 ∧ 1 ≤ p.fSize ∧ p.fSize ≤ 128 ∧ 0 ≤ p.fSum ∧ p.fSum ≤ 99460728 ∧ 0 ≤ p.fLevel ∧ p.fLevel ≤ 2 := by
  unfold PtrD.ok at h
  rw [h2, Bool.false_or] at h
  simp only [Bool.and_eq_true] at h
  have h1 := inB_true h.1.1.1.1
  have h3 := inB_true h.1.1.1.2
  have h4 := inB_true h.1.1.2
  have h5 := inB_true h.1.2
  have h6 := inB_true h.2
  omega
def encA (x : Option Addr) : List Value := [.pointer x]
theorem encA_len (x : Option Addr) : (encA x).length = 1 := rfl
theorem joinT5 (a b c d e s : ByteArray) : joinT [a, b, c, d, e] s = a ++ s ++ b ++ s ++ c ++ s ++ d ++ s ++ e := by
  apply ba_ext
  show Go.Lib.join _ _ = _
  simp only [List.map_cons, List.map_nil, Go.Lib.join_cons, Go.Lib.joinTail, list_append, List.flatten_cons, List.flatten_nil, List.append_nil, List.append_assoc]

theorem parts_any (b : Nat) (w0 : World) : Calls Tryz.prog 158 #[.pointer (some ⟨b, 0, none⟩)] w0 fun e w' => ∃ ao cp, e = .returned (.slice ao 5 cp) ∧ St w0 [rowA encA 1 173 (.slice ao 5 cp) [(some ⟨b, 0 + 0, none⟩), (some ⟨b, 0 + 1, none⟩), (some ⟨b, 0 + 2, none⟩), (some ⟨b, 0 + 3, none⟩), (some ⟨b, 0 + 4, none⟩)]] w' := by
 have HS := Bx.mk (St.start w0)
 refine wc_enter Tryz.func158 rfl Tryz.ntmps158 [(0, .pointer (some ⟨b, 0, none⟩))] ⟨rfl, trivial⟩ rfl ?_; intro a HF
 refine wp_sr ?_
 refine wl_as HF rfl rfl rfl rfl rfl ?_; clear HF a; intro a HF
 refine wl_ne ?_
 refine wp_seq ?_
 refine wr_tail 15 (by kernel_rfl) (by kernel_rfl) HS.out ?_
 simp only [List.take_succ_cons, List.take_zero, List.drop_succ_cons, List.drop_zero]
 intro w1 HS
 replace HS := Bx.mk HS
 refine ws_y rfl HF rfl rfl (yl_move rfl (HF.ev rfl)) ?_; clear HF a; intro a HF
 refine ws_y rfl HF rfl rfl (yl_nilCheck rfl (HF.ev rfl)) ?_; clear HF a; intro a HF
 refine ws_y rfl HF rfl rfl (yl_fieldAddr (j := 0) rfl (HF.ev rfl) (by kernel_rfl)) ?_; clear HF a; intro a HF
 refine ws_y rfl HF rfl rfl (yl_move rfl (HF.ev rfl)) ?_; clear HF a; intro a HF
 refine ws_y rfl HF rfl rfl (yl_nilCheck rfl (HF.ev rfl)) ?_; clear HF a; intro a HF
 refine ws_y rfl HF rfl rfl (yl_fieldAddr (j := 1) rfl (HF.ev rfl) (by kernel_rfl)) ?_; clear HF a; intro a HF
 refine ws_y rfl HF rfl rfl (yl_move rfl (HF.ev rfl)) ?_; clear HF a; intro a HF
 refine ws_y rfl HF rfl rfl (yl_nilCheck rfl (HF.ev rfl)) ?_; clear HF a; intro a HF
 refine ws_y rfl HF rfl rfl (yl_fieldAddr (j := 2) rfl (HF.ev rfl) (by kernel_rfl)) ?_; clear HF a; intro a HF
 refine ws_y rfl HF rfl rfl (yl_move rfl (HF.ev rfl)) ?_; clear HF a; intro a HF
 refine ws_y rfl HF rfl rfl (yl_nilCheck rfl (HF.ev rfl)) ?_; clear HF a; intro a HF
 refine ws_y rfl HF rfl rfl (yl_fieldAddr (j := 3) rfl (HF.ev rfl) (by kernel_rfl)) ?_; clear HF a; intro a HF
 refine ws_y rfl HF rfl rfl (yl_move rfl (HF.ev rfl)) ?_; clear HF a; intro a HF
 refine ws_y rfl HF rfl rfl (yl_nilCheck rfl (HF.ev rfl)) ?_; clear HF a; intro a HF
 refine ws_y rfl HF rfl rfl (yl_fieldAddr (j := 4) rfl (HF.ev rfl) (by kernel_rfl)) ?_; clear HF a; intro a HF
 refine wpStill_nil ?_
 refine wl_buildS (enc := encA) (e := 173) (size := 1) rfl HF rfl rfl rfl (ps := [(0, .pointer (some ⟨b, 0 + 0, none⟩)), (1, .pointer (some ⟨b, 0 + 1, none⟩)), (2, .pointer (some ⟨b, 0 + 2, none⟩)), (3, .pointer (some ⟨b, 0 + 3, none⟩)), (4, .pointer (some ⟨b, 0 + 4, none⟩))]) rfl (cells := [.pointer (some ⟨b, 0 + 0, none⟩), .pointer (some ⟨b, 0 + 1, none⟩), .pointer (some ⟨b, 0 + 2, none⟩), .pointer (some ⟨b, 0 + 3, none⟩), .pointer (some ⟨b, 0 + 4, none⟩)]) (by kernel_rfl) [(some ⟨b, 0 + 0, none⟩), (some ⟨b, 0 + 1, none⟩), (some ⟨b, 0 + 2, none⟩), (some ⟨b, 0 + 3, none⟩), (some ⟨b, 0 + 4, none⟩)] rfl rfl (by unfold maxLen; omega) rfl HS.out ?_; clear HF HS a; intro b1 a w2 HF HS; replace HS := Bx.mk HS
 refine wl_as HF rfl rfl rfl rfl rfl ?_; clear HF a; intro a HF
 refine wl_ne ?_
 refine wp_ret ?_
 refine bp_ret1 HF Tryz.results158 (HF.res rfl) ?_
 exact ⟨_, _, rfl, HS.out⟩

theorem ptrPutI_any (p : PtrD) (w0 : World) (hT : TabP w0) : Calls Tryz.prog 127 #[.agg #[.int .i64 p.fAt, .int .i64 p.fBirth, .int .i64 p.fSize, .int .i64 p.fSum, .int .i64 p.fLevel]] w0 fun e w' => e = .returned (.string (ptrB p)) ∧ Below w0.heap.size w0 w' := by
 have HT := Bx.mk hT; clear hT
 have HS := Bx.mk (St.start w0)
 refine wc_enter Tryz.func127 rfl Tryz.ntmps127 [(0, .agg #[.int .i64 p.fAt, .int .i64 p.fBirth, .int .i64 p.fSize, .int .i64 p.fSum, .int .i64 p.fLevel])] ⟨rfl, trivial⟩ rfl ?_; intro a HF
 refine wp_sr ?_
 refine wl_box rfl HF rfl (HF.ev rfl) (Z := [.int .i64 p.fAt, .int .i64 p.fBirth, .int .i64 p.fSize, .int .i64 p.fSum, .int .i64 p.fLevel]) rfl rfl rfl rfl HS.out ?_; clear HF HS a; intro a w1 b1 HF HS; replace HS := Bx.mk HS
 refine wl_as HF rfl rfl rfl rfl rfl ?_; clear HF a; intro a HF
 refine wl_ne ?_
 refine wp_seq ?_
 refine wp_block ?_
 refine wp_sr ?_
 refine wl_y rfl HF rfl rfl (yl_loadR (cs := [.int .i64 p.fAt, .int .i64 p.fBirth, .int .i64 p.fSize, .int .i64 p.fSum, .int .i64 p.fLevel]) rfl (HF.ev rfl) ((HS.out.box 0 rfl).sub 0 5) (by kernel_rfl)) ?_; clear HF a; intro a HF
 refine wl_callB rfl HF rfl (enter_of Tryz.func74 (by kernel_rfl) rfl) (args := #[.agg #[.int .i64 p.fAt, .int .i64 p.fBirth, .int .i64 p.fSize, .int .i64 p.fSum, .int .i64 p.fLevel]]) rfl (v := .bool p.ok) (implPtrOk_any p _) rfl rfl HS.out ?_; clear HF HS a; intro w2 a HS HF; replace HS := Bx.mk HS
 refine wl_y rfl HF rfl rfl (yl_not rfl (HF.ev rfl)) ?_; clear HF a; intro a HF
 refine wl_as HF rfl rfl rfl rfl rfl ?_; clear HF a; intro a HF
 refine wl_ne ?_
 refine HF.cases 6 rfl (fun cc1 HF1 => ?_) (fun cc1 HF1 => ?_)
 ·clear HF; have HF := HF1; clear HF1
  refine wc_true HF rfl ?_
  refine wp_sr ?_
  refine wl_as HF rfl rfl rfl rfl rfl ?_; clear HF a; intro a HF
  refine wl_ne ?_
  refine wp_ret ?_
  refine ex_block_ret ?_
  refine ex_then_ret ?_
  refine bp_ret1 HF Tryz.results127 (HF.res rfl) ?_
  exact ⟨by rw [ptrB_no (by simpa using cc1)]; rfl, HS.out.bel⟩
 ·clear HF; have HF := HF1; clear HF1
  refine wc_false HF rfl ?_
  refine wp_sr ?_
  refine wl_y rfl HF rfl rfl (yl_loadR (cs := [.int .i64 p.fAt, .int .i64 p.fBirth, .int .i64 p.fSize, .int .i64 p.fSum, .int .i64 p.fLevel]) rfl (HF.ev rfl) ((HS.out.box 0 rfl).sub 0 5) (by kernel_rfl)) ?_; clear HF a; intro a HF
  refine wl_callB rfl HF rfl (enter_of Tryz.func120 (by kernel_rfl) rfl) (args := #[.agg #[.int .i64 p.fAt, .int .i64 p.fBirth, .int .i64 p.fSize, .int .i64 p.fSum, .int .i64 p.fLevel]]) rfl (v := .bool p.hole) (implHole_any p _) rfl rfl HS.out ?_; clear HF HS a; intro w3 a HS HF; replace HS := Bx.mk HS
  refine wl_as HF rfl rfl rfl rfl rfl ?_; clear HF a; intro a HF
  refine wl_ne ?_
  refine HF.cases 10 rfl (fun cc2 HF1 => ?_) (fun cc2 HF1 => ?_)
  ·clear HF; have HF := HF1; clear HF1
   refine wc_true HF rfl ?_
   refine wp_sr ?_
   refine wl_as HF rfl rfl rfl rfl rfl ?_; clear HF a; intro a HF
   refine wl_ne ?_
   refine wp_ret ?_
   refine ex_block_ret ?_
   refine ex_then_ret ?_
   refine bp_ret1 HF Tryz.results127 (HF.res rfl) ?_
   exact ⟨by rw [ptrB_hole (by simpa using cc1) cc2], HS.out.bel⟩
  ·clear HF; have HF := HF1; clear HF1
   refine wc_false HF rfl ?_
   refine wp_skip ?_
   refine ex_block ?_
   refine ex_then ?_
   refine wp_sr ?_
   refine wl_as HF rfl rfl rfl rfl rfl ?_; clear HF a; intro a HF
   refine wl_ne ?_
   refine wp_seq ?_
   refine wp_sr ?_
   refine wl_call rfl HF rfl (enter_of Tryz.func158 (by kernel_rfl) rfl) (args := #[.pointer (some ⟨b1, 0, none⟩)]) rfl (parts_any b1 _) rfl rfl ?_
   rintro _ w4 ⟨ao2, cp2, rfl, hs⟩
   refine ⟨_, rfl, ?_⟩
   replace HS := Bx.mk (HS.out.add hs); clear hs HF; clear a; intro a HF
   replace HS : Bx (St w0 ([rowA encA 1 173 (.slice ao2 5 cp2) ([(some ⟨b1, 0 + 0, none⟩), (some ⟨b1, 0 + 1, none⟩), (some ⟨b1, 0 + 2, none⟩), (some ⟨b1, 0 + 3, none⟩), (some ⟨b1, 0 + 4, none⟩)]), boxA b1 5 38 (.agg #[.int .i64 p.fAt, .int .i64 p.fBirth, .int .i64 p.fSize, .int .i64 p.fSum, .int .i64 p.fLevel])]) _) := ⟨HS.out⟩
   refine wl_y rfl HF rfl rfl (yl_lenL (e := 173) (size := 1) rfl (HF.ev rfl) (by kernel_rfl)) ?_; clear HF a; intro a HF
   refine wl_mv HF rfl rfl rfl rfl rfl ?_; clear HF a; intro a HF
   refine wl_ne ?_
   refine wp_block ?_
   refine wc_rounds 6 ?_
   refine wp_seq ?_
   obtain ⟨g3, rfl, _, _, _, _⟩ := HS.out.rowOpen 0 rfl (Nat.succ_pos _)
   refine wp_region_lit ?_
   refine wl_y rfl HF rfl rfl (yl_lssI rfl (HF.ev rfl) (HF.ev rfl)) ?_; clear HF a; intro a HF
   refine wl_ne ?_
   refine wp_seq ?_
   replace HF := HF.know (k := 16) (c := true) rfl (by decide)
   refine wc_true HF rfl ?_
   refine wp_skip ?_
   refine ex_then ?_
   refine wp_seq ?_
   refine wp_block ?_
   refine wp_sr ?_
   refine wl_y rfl HF rfl rfl (yl_indexAddr (e := 173) (i := 0) (size := 1) rfl (HF.ev rfl) (HF.ev rfl) (by kernel_rfl) rfl (by omega)) ?_; clear HF a; intro a HF
   refine wl_y rfl HF rfl rfl (yl_load (v := .pointer (some ⟨b1, 0 + 0, none⟩)) rfl (HF.ev rfl) (HS.out.elem1 encA_len 0 rfl (show ([(some ⟨b1, 0 + 0, none⟩), (some ⟨b1, 0 + 1, none⟩), (some ⟨b1, 0 + 2, none⟩), (some ⟨b1, 0 + 3, none⟩), (some ⟨b1, 0 + 4, none⟩)] : List (Option Addr))[0]? = some _ from rfl) rfl) (by kernel_rfl)) ?_; clear HF a; intro a HF
   refine wl_as HF rfl rfl rfl rfl rfl ?_; clear HF a; intro a HF
   refine wl_ne ?_
   refine wp_region_lit ?_
   refine wl_mv HF rfl rfl rfl rfl rfl ?_; clear HF a; intro a HF
   refine wl_mv HF rfl rfl rfl rfl rfl ?_; clear HF a; intro a HF
   refine wl_y rfl HF rfl rfl (yl_nilCheck rfl (HF.ev rfl)) ?_; clear HF a; intro a HF
   refine wl_y rfl HF rfl rfl (yl_load (v := .int .i64 p.fAt) rfl (HF.ev rfl) (((HS.out.box 1 rfl).cell 0).trans rfl) (by kernel_rfl)) ?_; clear HF a; intro a HF
   refine wl_callB rfl HF rfl (enter_of Tryz.func80 (by kernel_rfl) rfl) (args := #[.int .i64 p.fAt]) rfl (v := .string (numB p.fAt)) (numPutI_any p.fAt _ (HT.out.below HS.out.bel)) rfl rfl HS.out ?_; clear HF HS a; intro w5 a HS HF; replace HS := Bx.mk HS
   refine wl_buildS (enc := encS) (e := 9) (size := 1) rfl HF rfl rfl rfl (ps := [(0, .string (numB p.fAt))]) rfl (cells := [.string (numB p.fAt)]) (by kernel_rfl) [numB p.fAt] rfl rfl (by unfold maxLen; omega) rfl HS.out ?_; clear HF HS a; intro b4 a w6 HF HS; replace HS := Bx.mk HS
   replace HS := Bx.mk (HS.out.nilRow encS 1 9 none)
   refine wl_appL rfl HF rfl rfl rfl (HF.ev rfl) (HF.ev rfl) elemS encS_len HS.out 0 (xs := []) rfl (ys := [numB p.fAt]) (St.rdN HS.out encS_len 1 rfl) (cells_one_S _) (by unfold maxLen; (try simp only [List.length_append, List.length_cons, List.length_nil, List.nil_append]); omega) (by (try simp only [List.length_append, List.length_cons, List.length_nil, List.nil_append]); omega) ?_; clear HF HS a; intro ao6 cp7 w7 a HF HS; replace HS := Bx.mk HS
   replace HS : Bx (St w0 ([rowA encS 1 9 (.slice ao6 (([]).length + ([numB p.fAt]).length) cp7) (([]) ++ ([numB p.fAt])), rowA encS 1 9 (.slice (some ⟨b4, 0, none⟩) 1 1) ([numB p.fAt]), rowA encA 1 173 (.slice (some ⟨g3, 0, none⟩) 5 cp2) ([(some ⟨b1, 0 + 0, none⟩), (some ⟨b1, 0 + 1, none⟩), (some ⟨b1, 0 + 2, none⟩), (some ⟨b1, 0 + 3, none⟩), (some ⟨b1, 0 + 4, none⟩)]), boxA b1 5 38 (.agg #[.int .i64 p.fAt, .int .i64 p.fBirth, .int .i64 p.fSize, .int .i64 p.fSum, .int .i64 p.fLevel])]) _) := ⟨HS.out⟩
   refine wl_as HF rfl rfl rfl rfl rfl ?_; clear HF a; intro a HF
   refine wpList_nil ?_
   refine ex_block ?_
   refine ex_then ?_
   refine wp_region_lit ?_
   refine wl_y rfl HF rfl rfl (yl_addI (r := 1) rfl (HF.ev rfl) (HF.ev rfl) (by decide)) ?_; clear HF a; intro a HF
   refine wl_mv HF rfl rfl rfl rfl rfl ?_; clear HF a; intro a HF
   refine wl_ne ?_
   refine wc_round 5 ?_
   refine wp_sr ?_
   refine wl_y rfl HF rfl rfl (yl_lssI rfl (HF.ev rfl) (HF.ev rfl)) ?_; clear HF a; intro a HF
   refine wl_ne ?_
   refine wp_seq ?_
   replace HF := HF.know (k := 16) (c := true) rfl (by decide)
   refine wc_true HF rfl ?_
   refine wp_skip ?_
   refine ex_then ?_
   refine wp_seq ?_
   refine wp_block ?_
   refine wp_sr ?_
   refine wl_y rfl HF rfl rfl (yl_indexAddr (e := 173) (i := 1) (size := 1) rfl (HF.ev rfl) (HF.ev rfl) (by kernel_rfl) rfl (by omega)) ?_; clear HF a; intro a HF
   refine wl_y rfl HF rfl rfl (yl_load (v := .pointer (some ⟨b1, 0 + 1, none⟩)) rfl (HF.ev rfl) (HS.out.elem1 encA_len 2 rfl (show ([(some ⟨b1, 0 + 0, none⟩), (some ⟨b1, 0 + 1, none⟩), (some ⟨b1, 0 + 2, none⟩), (some ⟨b1, 0 + 3, none⟩), (some ⟨b1, 0 + 4, none⟩)] : List (Option Addr))[1]? = some _ from rfl) rfl) (by kernel_rfl)) ?_; clear HF a; intro a HF
   refine wl_as HF rfl rfl rfl rfl rfl ?_; clear HF a; intro a HF
   refine wl_ne ?_
   refine wp_region_lit ?_
   refine wl_mv HF rfl rfl rfl rfl rfl ?_; clear HF a; intro a HF
   refine wl_mv HF rfl rfl rfl rfl rfl ?_; clear HF a; intro a HF
   refine wl_y rfl HF rfl rfl (yl_nilCheck rfl (HF.ev rfl)) ?_; clear HF a; intro a HF
   refine wl_y rfl HF rfl rfl (yl_load (v := .int .i64 p.fBirth) rfl (HF.ev rfl) (((HS.out.box 3 rfl).cell 1).trans rfl) (by kernel_rfl)) ?_; clear HF a; intro a HF
   refine wl_callB rfl HF rfl (enter_of Tryz.func80 (by kernel_rfl) rfl) (args := #[.int .i64 p.fBirth]) rfl (v := .string (numB p.fBirth)) (numPutI_any p.fBirth _ (HT.out.below HS.out.bel)) rfl rfl HS.out ?_; clear HF HS a; intro w8 a HS HF; replace HS := Bx.mk HS
   refine wl_buildS (enc := encS) (e := 9) (size := 1) rfl HF rfl rfl rfl (ps := [(0, .string (numB p.fBirth))]) rfl (cells := [.string (numB p.fBirth)]) (by kernel_rfl) [numB p.fBirth] rfl rfl (by unfold maxLen; omega) rfl HS.out ?_; clear HF HS a; intro b8 a w9 HF HS; replace HS := Bx.mk HS
   refine wl_appL rfl HF rfl rfl rfl (HF.ev rfl) (HF.ev rfl) elemS encS_len HS.out 1 (xs := ([]) ++ ([numB p.fAt])) rfl (ys := [numB p.fBirth]) (St.rdN HS.out encS_len 0 rfl) (cells_one_S _) (by unfold maxLen; (try simp only [List.length_append, List.length_cons, List.length_nil, List.nil_append]); omega) (by (try simp only [List.length_append, List.length_cons, List.length_nil, List.nil_append]); omega) ?_; clear HF HS a; intro ao9 cp10 w10 a HF HS; replace HS := Bx.mk HS
   replace HS : Bx (St w0 ([rowA encS 1 9 (.slice (some ⟨b8, 0, none⟩) 1 1) ([numB p.fBirth]), rowA encS 1 9 (.slice ao9 ((([]) ++ ([numB p.fAt])).length + ([numB p.fBirth]).length) cp10) ((([]) ++ ([numB p.fAt])) ++ ([numB p.fBirth])), rowA encS 1 9 (.slice (some ⟨b4, 0, none⟩) 1 1) ([numB p.fAt]), rowA encA 1 173 (.slice (some ⟨g3, 0, none⟩) 5 cp2) ([(some ⟨b1, 0 + 0, none⟩), (some ⟨b1, 0 + 1, none⟩), (some ⟨b1, 0 + 2, none⟩), (some ⟨b1, 0 + 3, none⟩), (some ⟨b1, 0 + 4, none⟩)]), boxA b1 5 38 (.agg #[.int .i64 p.fAt, .int .i64 p.fBirth, .int .i64 p.fSize, .int .i64 p.fSum, .int .i64 p.fLevel])]) _) := ⟨HS.out⟩
   refine wl_as HF rfl rfl rfl rfl rfl ?_; clear HF a; intro a HF
   refine wpList_nil ?_
   refine ex_block ?_
   refine ex_then ?_
   refine wp_region_lit ?_
   refine wl_y rfl HF rfl rfl (yl_addI (r := 2) rfl (HF.ev rfl) (HF.ev rfl) (by decide)) ?_; clear HF a; intro a HF
   refine wl_mv HF rfl rfl rfl rfl rfl ?_; clear HF a; intro a HF
   refine wl_ne ?_
   refine wc_round 4 ?_
   refine wp_sr ?_
   refine wl_y rfl HF rfl rfl (yl_lssI rfl (HF.ev rfl) (HF.ev rfl)) ?_; clear HF a; intro a HF
   refine wl_ne ?_
   refine wp_seq ?_
   replace HF := HF.know (k := 16) (c := true) rfl (by decide)
   refine wc_true HF rfl ?_
   refine wp_skip ?_
   refine ex_then ?_
   refine wp_seq ?_
   refine wp_block ?_
   refine wp_sr ?_
   refine wl_y rfl HF rfl rfl (yl_indexAddr (e := 173) (i := 2) (size := 1) rfl (HF.ev rfl) (HF.ev rfl) (by kernel_rfl) rfl (by omega)) ?_; clear HF a; intro a HF
   refine wl_y rfl HF rfl rfl (yl_load (v := .pointer (some ⟨b1, 0 + 2, none⟩)) rfl (HF.ev rfl) (HS.out.elem1 encA_len 3 rfl (show ([(some ⟨b1, 0 + 0, none⟩), (some ⟨b1, 0 + 1, none⟩), (some ⟨b1, 0 + 2, none⟩), (some ⟨b1, 0 + 3, none⟩), (some ⟨b1, 0 + 4, none⟩)] : List (Option Addr))[2]? = some _ from rfl) rfl) (by kernel_rfl)) ?_; clear HF a; intro a HF
   refine wl_as HF rfl rfl rfl rfl rfl ?_; clear HF a; intro a HF
   refine wl_ne ?_
   refine wp_region_lit ?_
   refine wl_mv HF rfl rfl rfl rfl rfl ?_; clear HF a; intro a HF
   refine wl_mv HF rfl rfl rfl rfl rfl ?_; clear HF a; intro a HF
   refine wl_y rfl HF rfl rfl (yl_nilCheck rfl (HF.ev rfl)) ?_; clear HF a; intro a HF
   refine wl_y rfl HF rfl rfl (yl_load (v := .int .i64 p.fSize) rfl (HF.ev rfl) (((HS.out.box 4 rfl).cell 2).trans rfl) (by kernel_rfl)) ?_; clear HF a; intro a HF
   refine wl_callB rfl HF rfl (enter_of Tryz.func80 (by kernel_rfl) rfl) (args := #[.int .i64 p.fSize]) rfl (v := .string (numB p.fSize)) (numPutI_any p.fSize _ (HT.out.below HS.out.bel)) rfl rfl HS.out ?_; clear HF HS a; intro w11 a HS HF; replace HS := Bx.mk HS
   refine wl_buildS (enc := encS) (e := 9) (size := 1) rfl HF rfl rfl rfl (ps := [(0, .string (numB p.fSize))]) rfl (cells := [.string (numB p.fSize)]) (by kernel_rfl) [numB p.fSize] rfl rfl (by unfold maxLen; omega) rfl HS.out ?_; clear HF HS a; intro b11 a w12 HF HS; replace HS := Bx.mk HS
   refine wl_appL rfl HF rfl rfl rfl (HF.ev rfl) (HF.ev rfl) elemS encS_len HS.out 2 (xs := (([]) ++ ([numB p.fAt])) ++ ([numB p.fBirth])) rfl (ys := [numB p.fSize]) (St.rdN HS.out encS_len 0 rfl) (cells_one_S _) (by unfold maxLen; (try simp only [List.length_append, List.length_cons, List.length_nil, List.nil_append]); omega) (by (try simp only [List.length_append, List.length_cons, List.length_nil, List.nil_append]); omega) ?_; clear HF HS a; intro ao12 cp13 w13 a HF HS; replace HS := Bx.mk HS
   replace HS : Bx (St w0 ([rowA encS 1 9 (.slice (some ⟨b11, 0, none⟩) 1 1) ([numB p.fSize]), rowA encS 1 9 (.slice (some ⟨b8, 0, none⟩) 1 1) ([numB p.fBirth]), rowA encS 1 9 (.slice ao12 (((([]) ++ ([numB p.fAt])) ++ ([numB p.fBirth])).length + ([numB p.fSize]).length) cp13) (((([]) ++ ([numB p.fAt])) ++ ([numB p.fBirth])) ++ ([numB p.fSize])), rowA encS 1 9 (.slice (some ⟨b4, 0, none⟩) 1 1) ([numB p.fAt]), rowA encA 1 173 (.slice (some ⟨g3, 0, none⟩) 5 cp2) ([(some ⟨b1, 0 + 0, none⟩), (some ⟨b1, 0 + 1, none⟩), (some ⟨b1, 0 + 2, none⟩), (some ⟨b1, 0 + 3, none⟩), (some ⟨b1, 0 + 4, none⟩)]), boxA b1 5 38 (.agg #[.int .i64 p.fAt, .int .i64 p.fBirth, .int .i64 p.fSize, .int .i64 p.fSum, .int .i64 p.fLevel])]) _) := ⟨HS.out⟩
   refine wl_as HF rfl rfl rfl rfl rfl ?_; clear HF a; intro a HF
   refine wpList_nil ?_
   refine ex_block ?_
   refine ex_then ?_
   refine wp_region_lit ?_
   refine wl_y rfl HF rfl rfl (yl_addI (r := 3) rfl (HF.ev rfl) (HF.ev rfl) (by decide)) ?_; clear HF a; intro a HF
   refine wl_mv HF rfl rfl rfl rfl rfl ?_; clear HF a; intro a HF
   refine wl_ne ?_
   refine wc_round 3 ?_
   refine wp_sr ?_
   refine wl_y rfl HF rfl rfl (yl_lssI rfl (HF.ev rfl) (HF.ev rfl)) ?_; clear HF a; intro a HF
   refine wl_ne ?_
   refine wp_seq ?_
   replace HF := HF.know (k := 16) (c := true) rfl (by decide)
   refine wc_true HF rfl ?_
   refine wp_skip ?_
   refine ex_then ?_
   refine wp_seq ?_
   refine wp_block ?_
   refine wp_sr ?_
   refine wl_y rfl HF rfl rfl (yl_indexAddr (e := 173) (i := 3) (size := 1) rfl (HF.ev rfl) (HF.ev rfl) (by kernel_rfl) rfl (by omega)) ?_; clear HF a; intro a HF
   refine wl_y rfl HF rfl rfl (yl_load (v := .pointer (some ⟨b1, 0 + 3, none⟩)) rfl (HF.ev rfl) (HS.out.elem1 encA_len 4 rfl (show ([(some ⟨b1, 0 + 0, none⟩), (some ⟨b1, 0 + 1, none⟩), (some ⟨b1, 0 + 2, none⟩), (some ⟨b1, 0 + 3, none⟩), (some ⟨b1, 0 + 4, none⟩)] : List (Option Addr))[3]? = some _ from rfl) rfl) (by kernel_rfl)) ?_; clear HF a; intro a HF
   refine wl_as HF rfl rfl rfl rfl rfl ?_; clear HF a; intro a HF
   refine wl_ne ?_
   refine wp_region_lit ?_
   refine wl_mv HF rfl rfl rfl rfl rfl ?_; clear HF a; intro a HF
   refine wl_mv HF rfl rfl rfl rfl rfl ?_; clear HF a; intro a HF
   refine wl_y rfl HF rfl rfl (yl_nilCheck rfl (HF.ev rfl)) ?_; clear HF a; intro a HF
   refine wl_y rfl HF rfl rfl (yl_load (v := .int .i64 p.fSum) rfl (HF.ev rfl) (((HS.out.box 5 rfl).cell 3).trans rfl) (by kernel_rfl)) ?_; clear HF a; intro a HF
   refine wl_callB rfl HF rfl (enter_of Tryz.func80 (by kernel_rfl) rfl) (args := #[.int .i64 p.fSum]) rfl (v := .string (numB p.fSum)) (numPutI_any p.fSum _ (HT.out.below HS.out.bel)) rfl rfl HS.out ?_; clear HF HS a; intro w14 a HS HF; replace HS := Bx.mk HS
   refine wl_buildS (enc := encS) (e := 9) (size := 1) rfl HF rfl rfl rfl (ps := [(0, .string (numB p.fSum))]) rfl (cells := [.string (numB p.fSum)]) (by kernel_rfl) [numB p.fSum] rfl rfl (by unfold maxLen; omega) rfl HS.out ?_; clear HF HS a; intro b14 a w15 HF HS; replace HS := Bx.mk HS
   refine wl_appL rfl HF rfl rfl rfl (HF.ev rfl) (HF.ev rfl) elemS encS_len HS.out 3 (xs := ((([]) ++ ([numB p.fAt])) ++ ([numB p.fBirth])) ++ ([numB p.fSize])) rfl (ys := [numB p.fSum]) (St.rdN HS.out encS_len 0 rfl) (cells_one_S _) (by unfold maxLen; (try simp only [List.length_append, List.length_cons, List.length_nil, List.nil_append]); omega) (by (try simp only [List.length_append, List.length_cons, List.length_nil, List.nil_append]); omega) ?_; clear HF HS a; intro ao15 cp16 w16 a HF HS; replace HS := Bx.mk HS
   replace HS : Bx (St w0 ([rowA encS 1 9 (.slice (some ⟨b14, 0, none⟩) 1 1) ([numB p.fSum]), rowA encS 1 9 (.slice (some ⟨b11, 0, none⟩) 1 1) ([numB p.fSize]), rowA encS 1 9 (.slice (some ⟨b8, 0, none⟩) 1 1) ([numB p.fBirth]), rowA encS 1 9 (.slice ao15 ((((([]) ++ ([numB p.fAt])) ++ ([numB p.fBirth])) ++ ([numB p.fSize])).length + ([numB p.fSum]).length) cp16) ((((([]) ++ ([numB p.fAt])) ++ ([numB p.fBirth])) ++ ([numB p.fSize])) ++ ([numB p.fSum])), rowA encS 1 9 (.slice (some ⟨b4, 0, none⟩) 1 1) ([numB p.fAt]), rowA encA 1 173 (.slice (some ⟨g3, 0, none⟩) 5 cp2) ([(some ⟨b1, 0 + 0, none⟩), (some ⟨b1, 0 + 1, none⟩), (some ⟨b1, 0 + 2, none⟩), (some ⟨b1, 0 + 3, none⟩), (some ⟨b1, 0 + 4, none⟩)]), boxA b1 5 38 (.agg #[.int .i64 p.fAt, .int .i64 p.fBirth, .int .i64 p.fSize, .int .i64 p.fSum, .int .i64 p.fLevel])]) _) := ⟨HS.out⟩
   refine wl_as HF rfl rfl rfl rfl rfl ?_; clear HF a; intro a HF
   refine wpList_nil ?_
   refine ex_block ?_
   refine ex_then ?_
   refine wp_region_lit ?_
   refine wl_y rfl HF rfl rfl (yl_addI (r := 4) rfl (HF.ev rfl) (HF.ev rfl) (by decide)) ?_; clear HF a; intro a HF
   refine wl_mv HF rfl rfl rfl rfl rfl ?_; clear HF a; intro a HF
   refine wl_ne ?_
   refine wc_round 2 ?_
   refine wp_sr ?_
   refine wl_y rfl HF rfl rfl (yl_lssI rfl (HF.ev rfl) (HF.ev rfl)) ?_; clear HF a; intro a HF
   refine wl_ne ?_
   refine wp_seq ?_
   replace HF := HF.know (k := 16) (c := true) rfl (by decide)
   refine wc_true HF rfl ?_
   refine wp_skip ?_
   refine ex_then ?_
   refine wp_seq ?_
   refine wp_block ?_
   refine wp_sr ?_
   refine wl_y rfl HF rfl rfl (yl_indexAddr (e := 173) (i := 4) (size := 1) rfl (HF.ev rfl) (HF.ev rfl) (by kernel_rfl) rfl (by omega)) ?_; clear HF a; intro a HF
   refine wl_y rfl HF rfl rfl (yl_load (v := .pointer (some ⟨b1, 0 + 4, none⟩)) rfl (HF.ev rfl) (HS.out.elem1 encA_len 5 rfl (show ([(some ⟨b1, 0 + 0, none⟩), (some ⟨b1, 0 + 1, none⟩), (some ⟨b1, 0 + 2, none⟩), (some ⟨b1, 0 + 3, none⟩), (some ⟨b1, 0 + 4, none⟩)] : List (Option Addr))[4]? = some _ from rfl) rfl) (by kernel_rfl)) ?_; clear HF a; intro a HF
   refine wl_as HF rfl rfl rfl rfl rfl ?_; clear HF a; intro a HF
   refine wl_ne ?_
   refine wp_region_lit ?_
   refine wl_mv HF rfl rfl rfl rfl rfl ?_; clear HF a; intro a HF
   refine wl_mv HF rfl rfl rfl rfl rfl ?_; clear HF a; intro a HF
   refine wl_y rfl HF rfl rfl (yl_nilCheck rfl (HF.ev rfl)) ?_; clear HF a; intro a HF
   refine wl_y rfl HF rfl rfl (yl_load (v := .int .i64 p.fLevel) rfl (HF.ev rfl) (((HS.out.box 6 rfl).cell 4).trans rfl) (by kernel_rfl)) ?_; clear HF a; intro a HF
   refine wl_callB rfl HF rfl (enter_of Tryz.func80 (by kernel_rfl) rfl) (args := #[.int .i64 p.fLevel]) rfl (v := .string (numB p.fLevel)) (numPutI_any p.fLevel _ (HT.out.below HS.out.bel)) rfl rfl HS.out ?_; clear HF HS a; intro w17 a HS HF; replace HS := Bx.mk HS
   refine wl_buildS (enc := encS) (e := 9) (size := 1) rfl HF rfl rfl rfl (ps := [(0, .string (numB p.fLevel))]) rfl (cells := [.string (numB p.fLevel)]) (by kernel_rfl) [numB p.fLevel] rfl rfl (by unfold maxLen; omega) rfl HS.out ?_; clear HF HS a; intro b17 a w18 HF HS; replace HS := Bx.mk HS
   refine wl_appL rfl HF rfl rfl rfl (HF.ev rfl) (HF.ev rfl) elemS encS_len HS.out 4 (xs := (((([]) ++ ([numB p.fAt])) ++ ([numB p.fBirth])) ++ ([numB p.fSize])) ++ ([numB p.fSum])) rfl (ys := [numB p.fLevel]) (St.rdN HS.out encS_len 0 rfl) (cells_one_S _) (by unfold maxLen; (try simp only [List.length_append, List.length_cons, List.length_nil, List.nil_append]); omega) (by (try simp only [List.length_append, List.length_cons, List.length_nil, List.nil_append]); omega) ?_; clear HF HS a; intro ao18 cp19 w19 a HF HS; replace HS := Bx.mk HS
   replace HS : Bx (St w0 ([rowA encS 1 9 (.slice (some ⟨b17, 0, none⟩) 1 1) ([numB p.fLevel]), rowA encS 1 9 (.slice (some ⟨b14, 0, none⟩) 1 1) ([numB p.fSum]), rowA encS 1 9 (.slice (some ⟨b11, 0, none⟩) 1 1) ([numB p.fSize]), rowA encS 1 9 (.slice (some ⟨b8, 0, none⟩) 1 1) ([numB p.fBirth]), rowA encS 1 9 (.slice ao18 (((((([]) ++ ([numB p.fAt])) ++ ([numB p.fBirth])) ++ ([numB p.fSize])) ++ ([numB p.fSum])).length + ([numB p.fLevel]).length) cp19) (((((([]) ++ ([numB p.fAt])) ++ ([numB p.fBirth])) ++ ([numB p.fSize])) ++ ([numB p.fSum])) ++ ([numB p.fLevel])), rowA encS 1 9 (.slice (some ⟨b4, 0, none⟩) 1 1) ([numB p.fAt]), rowA encA 1 173 (.slice (some ⟨g3, 0, none⟩) 5 cp2) ([(some ⟨b1, 0 + 0, none⟩), (some ⟨b1, 0 + 1, none⟩), (some ⟨b1, 0 + 2, none⟩), (some ⟨b1, 0 + 3, none⟩), (some ⟨b1, 0 + 4, none⟩)]), boxA b1 5 38 (.agg #[.int .i64 p.fAt, .int .i64 p.fBirth, .int .i64 p.fSize, .int .i64 p.fSum, .int .i64 p.fLevel])]) _) := ⟨HS.out⟩
   refine wl_as HF rfl rfl rfl rfl rfl ?_; clear HF a; intro a HF
   refine wpList_nil ?_
   refine ex_block ?_
   refine ex_then ?_
   refine wp_region_lit ?_
   refine wl_y rfl HF rfl rfl (yl_addI (r := 5) rfl (HF.ev rfl) (HF.ev rfl) (by decide)) ?_; clear HF a; intro a HF
   refine wl_mv HF rfl rfl rfl rfl rfl ?_; clear HF a; intro a HF
   refine wl_ne ?_
   refine wc_round 1 ?_
   refine wp_sr ?_
   refine wl_y rfl HF rfl rfl (yl_lssI rfl (HF.ev rfl) (HF.ev rfl)) ?_; clear HF a; intro a HF
   refine wl_ne ?_
   refine wp_seq ?_
   replace HF := HF.know (k := 16) (c := false) rfl (by decide)
   refine wc_false HF rfl ?_
   refine wp_exit ?_
   refine ex_then_exit ?_
   refine ex_then_exit ?_
   refine ex_block_hit ?_
   refine ex_then ?_
   refine wp_sr ?_
   refine wl_mv HF rfl rfl rfl rfl rfl ?_; clear HF a; intro a HF
   refine wl_callB rfl HF rfl (enter_of Tryz.func159 (by kernel_rfl) rfl) (args := #[.slice ao18 (((((([]) ++ ([numB p.fAt])) ++ ([numB p.fBirth])) ++ ([numB p.fSize])) ++ ([numB p.fSum])).length + ([numB p.fLevel]).length) cp19, .string (⟨#[46]⟩ : ByteArray)]) rfl (v := .string (joinT (((((([]) ++ ([numB p.fAt])) ++ ([numB p.fBirth])) ++ ([numB p.fSize])) ++ ([numB p.fSum])) ++ ([numB p.fLevel])) (⟨#[46]⟩ : ByteArray))) (join_any _ _ _ (((((([]) ++ ([numB p.fAt])) ++ ([numB p.fBirth])) ++ ([numB p.fSize])) ++ ([numB p.fSum])) ++ ([numB p.fLevel])) (⟨#[46]⟩ : ByteArray) _ (St.rdN HS.out encS_len 4 rfl) (St.capLe HS.out 4 rfl) (by simp) (szs_app (szs_app (szs_app (szs_app (szs_app szs_nil (szs_cons (Nat.le_trans (numB_le _) (by decide)) szs_nil)) (szs_cons (Nat.le_trans (numB_le _) (by decide)) szs_nil)) (szs_cons (Nat.le_trans (numB_le _) (by decide)) szs_nil)) (szs_cons (Nat.le_trans (numB_le _) (by decide)) szs_nil)) (szs_cons (Nat.le_trans (numB_le _) (by decide)) szs_nil)) (by decide)) rfl rfl HS.out ?_; clear HF HS a; intro w20 a HS HF; replace HS := Bx.mk HS
   refine wl_as HF rfl rfl rfl rfl rfl ?_; clear HF a; intro a HF
   refine wl_ne ?_
   refine wp_ret ?_
   refine bp_ret1 HF Tryz.results127 (HF.res rfl) ?_
   exact ⟨by rw [ptrB_yes (by simpa using cc1) cc2]; simp only [List.nil_append, List.cons_append, List.singleton_append]; rw [joinT5]; rfl, HS.out.bel⟩

theorem ptrPutS_any (p : PtrD) (w0 : World) : Calls Tryz.prog 112 #[.agg #[.int .i64 p.fAt, .int .i64 p.fBirth, .int .i64 p.fSize, .int .i64 p.fSum, .int .i64 p.fLevel]] w0 fun e w' => e = .returned (.string (ptrB p)) ∧ Below w0.heap.size w0 w' := by
 have HS := Bx.mk (St.start w0)
 refine wc_enter Tryz.func112 rfl Tryz.ntmps112 [(0, .agg #[.int .i64 p.fAt, .int .i64 p.fBirth, .int .i64 p.fSize, .int .i64 p.fSum, .int .i64 p.fLevel])] ⟨rfl, trivial⟩ rfl ?_; intro a HF
 refine wp_sr ?_
 refine wl_box rfl HF rfl (HF.ev rfl) (Z := [.int .i64 p.fAt, .int .i64 p.fBirth, .int .i64 p.fSize, .int .i64 p.fSum, .int .i64 p.fLevel]) rfl rfl rfl rfl HS.out ?_; clear HF HS a; intro a w1 b1 HF HS; replace HS := Bx.mk HS
 refine wl_as HF rfl rfl rfl rfl rfl ?_; clear HF a; intro a HF
 refine wl_ne ?_
 refine wp_seq ?_
 refine wp_sr ?_
 refine wl_y rfl HF rfl rfl (yl_loadR (cs := [.int .i64 p.fAt, .int .i64 p.fBirth, .int .i64 p.fSize, .int .i64 p.fSum, .int .i64 p.fLevel]) rfl (HF.ev rfl) ((HS.out.box 0 rfl).sub 0 5) (by kernel_rfl)) ?_; clear HF a; intro a HF
 refine wl_callB rfl HF rfl (enter_of Tryz.func62 (by kernel_rfl) rfl) (args := #[.agg #[.int .i64 p.fAt, .int .i64 p.fBirth, .int .i64 p.fSize, .int .i64 p.fSum, .int .i64 p.fLevel]]) rfl (v := .bool p.ok) (specPtrOk_any p _) rfl rfl HS.out ?_; clear HF HS a; intro w2 a HS HF; replace HS := Bx.mk HS
 refine wl_y rfl HF rfl rfl (yl_not rfl (HF.ev rfl)) ?_; clear HF a; intro a HF
 refine wl_ne ?_
 refine HF.cases 5 rfl (fun cc1 HF1 => ?_) (fun cc1 HF1 => ?_)
 ·clear HF; have HF := HF1; clear HF1
  refine wc_true HF rfl ?_
  refine wp_sr ?_
  refine wl_as HF rfl rfl rfl rfl rfl ?_; clear HF a; intro a HF
  refine wl_ne ?_
  refine wp_ret ?_
  refine ex_then_ret ?_
  refine bp_ret1 HF Tryz.results112 (HF.res rfl) ?_
  exact ⟨by rw [ptrB_no (by simpa using cc1)]; rfl, HS.out.bel⟩
 ·clear HF; have HF := HF1; clear HF1
  refine wc_false HF rfl ?_
  refine wp_skip ?_
  refine ex_then ?_
  refine wp_seq ?_
  refine wp_sr ?_
  refine wl_y rfl HF rfl rfl (yl_loadR (cs := [.int .i64 p.fAt, .int .i64 p.fBirth, .int .i64 p.fSize, .int .i64 p.fSum, .int .i64 p.fLevel]) rfl (HF.ev rfl) ((HS.out.box 0 rfl).sub 0 5) (by kernel_rfl)) ?_; clear HF a; intro a HF
  refine wl_callB rfl HF rfl (enter_of Tryz.func109 (by kernel_rfl) rfl) (args := #[.agg #[.int .i64 p.fAt, .int .i64 p.fBirth, .int .i64 p.fSize, .int .i64 p.fSum, .int .i64 p.fLevel]]) rfl (v := .bool p.hole) (specHole_any p _) rfl rfl HS.out ?_; clear HF HS a; intro w3 a HS HF; replace HS := Bx.mk HS
  refine wl_ne ?_
  refine HF.cases 7 rfl (fun cc2 HF1 => ?_) (fun cc2 HF1 => ?_)
  ·clear HF; have HF := HF1; clear HF1
   refine wc_true HF rfl ?_
   refine wp_sr ?_
   refine wl_as HF rfl rfl rfl rfl rfl ?_; clear HF a; intro a HF
   refine wl_ne ?_
   refine wp_ret ?_
   refine ex_then_ret ?_
   refine bp_ret1 HF Tryz.results112 (HF.res rfl) ?_
   exact ⟨by rw [ptrB_hole (by simpa using cc1) cc2], HS.out.bel⟩
  ·clear HF; have HF := HF1; clear HF1
   refine wc_false HF rfl ?_
   refine wp_skip ?_
   refine ex_then ?_
   refine wp_seq ?_
   have hpb := PtrD.ok_all (p := p) (by simpa using cc1) cc2
   have zfAt : (decB p.fAt.toNat).size ≤ 19 := decB_20 (by omega)
   have zfBirth : (decB p.fBirth.toNat).size ≤ 19 := decB_20 (by omega)
   have zfSize : (decB p.fSize.toNat).size ≤ 19 := decB_20 (by omega)
   have zfSum : (decB p.fSum.toNat).size ≤ 19 := decB_20 (by omega)
   have zfLevel : (decB p.fLevel.toNat).size ≤ 19 := decB_20 (by omega)
   refine wr_quiet (by kernel_rfl) (by kernel_rfl) HS.out ?_
   refine wq_y rfl HF rfl rfl (fun _ HS => (yl_fieldAddr (j := 0) rfl (HF.ev rfl) (by kernel_rfl))) ?_; clear HF a; intro a HF
   refine wq_y rfl HF rfl rfl (fun _ HS => (yl_load (v := .int .i64 p.fAt) rfl (HF.ev rfl) (((HS.box 0 rfl).cell 0).trans rfl) (by kernel_rfl))) ?_; clear HF a; intro a HF
   refine wq_call rfl HF rfl (enter_of Tryz.func65 (by kernel_rfl) rfl) (args := #[.int .i64 p.fAt]) rfl (v := .string (decB p.fAt.toNat)) (fun _ HS => l6DecI_any p.fAt (by omega) (by omega) _) rfl rfl ?_; clear HF a; intro a HF
   refine wq_y rfl HF rfl rfl (fun _ HS => (yl_addS rfl (HF.ev rfl) (HF.ev rfl) (by (try simp only [size1, app_size]); omega))) ?_; clear HF a; intro a HF
   refine wq_y rfl HF rfl rfl (fun _ HS => (yl_fieldAddr (j := 1) rfl (HF.ev rfl) (by kernel_rfl))) ?_; clear HF a; intro a HF
   refine wq_y rfl HF rfl rfl (fun _ HS => (yl_load (v := .int .i64 p.fBirth) rfl (HF.ev rfl) (((HS.box 0 rfl).cell 1).trans rfl) (by kernel_rfl))) ?_; clear HF a; intro a HF
   refine wq_call rfl HF rfl (enter_of Tryz.func65 (by kernel_rfl) rfl) (args := #[.int .i64 p.fBirth]) rfl (v := .string (decB p.fBirth.toNat)) (fun _ HS => l6DecI_any p.fBirth (by omega) (by omega) _) rfl rfl ?_; clear HF a; intro a HF
   refine wq_y rfl HF rfl rfl (fun _ HS => (yl_addS rfl (HF.ev rfl) (HF.ev rfl) (by (try simp only [size1, app_size]); omega))) ?_; clear HF a; intro a HF
   refine wq_y rfl HF rfl rfl (fun _ HS => (yl_addS rfl (HF.ev rfl) (HF.ev rfl) (by (try simp only [size1, app_size]); omega))) ?_; clear HF a; intro a HF
   refine wq_y rfl HF rfl rfl (fun _ HS => (yl_fieldAddr (j := 2) rfl (HF.ev rfl) (by kernel_rfl))) ?_; clear HF a; intro a HF
   refine wq_y rfl HF rfl rfl (fun _ HS => (yl_load (v := .int .i64 p.fSize) rfl (HF.ev rfl) (((HS.box 0 rfl).cell 2).trans rfl) (by kernel_rfl))) ?_; clear HF a; intro a HF
   refine wq_call rfl HF rfl (enter_of Tryz.func65 (by kernel_rfl) rfl) (args := #[.int .i64 p.fSize]) rfl (v := .string (decB p.fSize.toNat)) (fun _ HS => l6DecI_any p.fSize (by omega) (by omega) _) rfl rfl ?_; clear HF a; intro a HF
   refine wq_y rfl HF rfl rfl (fun _ HS => (yl_addS rfl (HF.ev rfl) (HF.ev rfl) (by (try simp only [size1, app_size]); omega))) ?_; clear HF a; intro a HF
   refine wq_y rfl HF rfl rfl (fun _ HS => (yl_addS rfl (HF.ev rfl) (HF.ev rfl) (by (try simp only [size1, app_size]); omega))) ?_; clear HF a; intro a HF
   refine wq_y rfl HF rfl rfl (fun _ HS => (yl_fieldAddr (j := 3) rfl (HF.ev rfl) (by kernel_rfl))) ?_; clear HF a; intro a HF
   refine wq_y rfl HF rfl rfl (fun _ HS => (yl_load (v := .int .i64 p.fSum) rfl (HF.ev rfl) (((HS.box 0 rfl).cell 3).trans rfl) (by kernel_rfl))) ?_; clear HF a; intro a HF
   refine wq_call rfl HF rfl (enter_of Tryz.func65 (by kernel_rfl) rfl) (args := #[.int .i64 p.fSum]) rfl (v := .string (decB p.fSum.toNat)) (fun _ HS => l6DecI_any p.fSum (by omega) (by omega) _) rfl rfl ?_; clear HF a; intro a HF
   refine wq_y rfl HF rfl rfl (fun _ HS => (yl_addS rfl (HF.ev rfl) (HF.ev rfl) (by (try simp only [size1, app_size]); omega))) ?_; clear HF a; intro a HF
   refine wq_y rfl HF rfl rfl (fun _ HS => (yl_addS rfl (HF.ev rfl) (HF.ev rfl) (by (try simp only [size1, app_size]); omega))) ?_; clear HF a; intro a HF
   refine wq_y rfl HF rfl rfl (fun _ HS => (yl_fieldAddr (j := 4) rfl (HF.ev rfl) (by kernel_rfl))) ?_; clear HF a; intro a HF
   refine wq_y rfl HF rfl rfl (fun _ HS => (yl_load (v := .int .i64 p.fLevel) rfl (HF.ev rfl) (((HS.box 0 rfl).cell 4).trans rfl) (by kernel_rfl))) ?_; clear HF a; intro a HF
   refine wq_call rfl HF rfl (enter_of Tryz.func65 (by kernel_rfl) rfl) (args := #[.int .i64 p.fLevel]) rfl (v := .string (decB p.fLevel.toNat)) (fun _ HS => l6DecI_any p.fLevel (by omega) (by omega) _) rfl rfl ?_; clear HF a; intro a HF
   refine wq_y rfl HF rfl rfl (fun _ HS => (yl_addS rfl (HF.ev rfl) (HF.ev rfl) (by (try simp only [size1, app_size]); omega))) ?_; clear HF a; intro a HF
   refine wq_y rfl HF rfl rfl (fun _ HS => (yl_assign rfl (HF.ev rfl))) ?_; clear HF a; intro a HF
   refine wpQuiet_nil ?_; intro w4 HS; replace HS := Bx.mk HS
   refine ex_then ?_
   refine wp_ret ?_
   refine bp_ret1 HF Tryz.results112 (HF.res rfl) ?_
   exact ⟨by rw [ptrB_yes (by simpa using cc1) cc2, numB_in (n := p.fAt) (by omega) (by omega), numB_in (n := p.fBirth) (by omega) (by omega), numB_in (n := p.fSize) (by omega) (by omega), numB_in (n := p.fSum) (by omega) (by omega), numB_in (n := p.fLevel) (by omega) (by omega)]; rfl, HS.out.bel⟩

end Go.Proofs.YtoaopmkbfifhaaaGreatDoor

/- What the laws over sets of disks compare and count. -/
namespace Go.Proofs.YtoaopmkbfifhaaaGreatDoor
set_option linter.unusedVariables false
set_option linter.unusedSimpArgs false
set_option maxHeartbeats 1000000
set_option maxRecDepth 100000
open Go.RowKit

theorem eqWaitW (x : WaitD) (w : World) : (Op.equalIn 10000 137 (.agg #[.int .i64 x.fAt, .string x.fText]) (.agg #[.int .i64 x.fAt, .string x.fText])).run Tryz.prog w = .ok true w := by
  have hS : Tryz.prog.underlying 137 = some (.struct (Tryz.prog.fieldsOf 137)) := by kernel_rfl
  have hp : Tryz.prog.stoodInHeld 137 = false := by kernel_rfl
  rw [show (10000 : Nat) = 9999 + 1 from rfl, run_equalIn_agg w 9999 137 _ _ hS hp]
  simp only [Program.fieldsOf, Tryz.underlying137]
  go_simp
theorem yl_neqWt {w : World} {o : Oper} {a : Act} {x y : Operand} {t' : TypeId} (z : WaitD) (ho : o.op = .binOp .neq 137 x y t') (hx : a.eval x = .agg #[.int .i64 z.fAt, .string z.fText]) (hy : a.eval y = .agg #[.int .i64 z.fAt, .string z.fText]) : Yl Tryz.prog w o a (.bool false) := by
  have he := eqWaitW z w
  unfold Yl execOp
  simp only [ho, hx, hy]
  simp [eqGuard, binOp, go_sem, Op.equal]
  rw [show Op.maxDepth = 10000 from rfl, he]; rfl

theorem pfTexts_yes (a0 a1 : Option Addr) (c0 c1 : Nat) (xs : List ByteArray) (w0 : World) (hl : xs.length ≤ 1048576) (hR : Rd encS 1 w0 a0 xs.length xs) (hR2 : Rd encS 1 w0 a1 xs.length xs) : Calls Tryz.prog 99 #[.slice a0 xs.length c0, .slice a1 xs.length c1] w0 fun e w' => e = .returned (.bool true) ∧ Below w0.heap.size w0 w' := by
 obtain ⟨g0, o0, r0⟩ := hR.opn; have RA := Bx.mk r0; obtain ⟨g1, o1, r1⟩ := hR2.opn; have RB := Bx.mk r1; clear r0 r1 hR hR2
 have HS := Bx.mk (St.start w0)
 refine wc_enter Tryz.func99 rfl Tryz.ntmps99 [(0, .slice a0 xs.length c0), (1, .slice a1 xs.length c1)] ⟨rfl, rfl, trivial⟩ rfl ?_; intro a HF
 refine wp_sr ?_
 refine wl_as HF rfl rfl rfl rfl rfl ?_; clear HF a; intro a HF
 refine wl_ne ?_
 refine wp_seq ?_
 refine wp_sr ?_
 refine wl_mv HF rfl rfl rfl rfl rfl ?_; clear HF a; intro a HF
 refine wl_y rfl HF rfl rfl (yl_lenL (e := 9) (size := 1) rfl (HF.ev rfl) (by kernel_rfl)) ?_; clear HF a; intro a HF
 refine wl_mv HF rfl rfl rfl rfl rfl ?_; clear HF a; intro a HF
 refine wl_y rfl HF rfl rfl (yl_lenL (e := 9) (size := 1) rfl (HF.ev rfl) (by kernel_rfl)) ?_; clear HF a; intro a HF
 refine wl_y rfl HF rfl rfl (yl_neqI rfl (HF.ev rfl) (HF.ev rfl)) ?_; clear HF a; intro a HF
 refine wl_ne ?_
 refine HF.cases 10 rfl (fun cc1 HF1 => ?_) (fun cc1 HF1 => ?_)
 ·clear HF; have HF := HF1; clear HF1
  exact absurd cc1 (by simp)
 ·clear HF; have HF := HF1; clear HF1
  have dcc1 := bne_eq_false_iff_eq.1 cc1
  refine wc_false HF rfl ?_
  refine wp_skip ?_
  refine ex_then ?_
  refine wp_seq ?_
  refine wp_sr ?_
  refine wl_as HF rfl rfl rfl rfl rfl ?_; clear HF a; intro a HF
  refine wl_ne ?_
  refine wp_block ?_
  refine wc_loop (ι := Nat) (fun k a w => (k ≤ xs.length) ∧ Fr 26 a [(0, .slice a0 xs.length c0), (1, .slice a1 xs.length c1), (4, .bool false), (5, .int .i64 (k : Int))] ∧ St w0 ([]) w) (fun k => xs.length - k) 0 ⟨Nat.zero_le _, HF.less _ ⟨rfl, rfl, rfl, rfl, trivial⟩, HS.out⟩ ?_
  clear HF HS; clear a
  rintro k a w1 ⟨hk, HF, HS⟩
  replace HS := Bx.mk HS
  refine wp_seq ?_
  refine wp_sr ?_
  refine wl_mv HF rfl rfl rfl rfl rfl ?_; clear HF a; intro a HF
  refine wl_mv HF rfl rfl rfl rfl rfl ?_; clear HF a; intro a HF
  refine wl_y rfl HF rfl rfl (yl_lenL (e := 9) (size := 1) rfl (HF.ev rfl) (by kernel_rfl)) ?_; clear HF a; intro a HF
  refine wl_y rfl HF rfl rfl (yl_lssI rfl (HF.ev rfl) (HF.ev rfl)) ?_; clear HF a; intro a HF
  refine wl_ne ?_
  refine HF.cases 14 rfl (fun cc2 HF1 => ?_) (fun cc2 HF1 => ?_)
  ·clear HF; have HF := HF1; clear HF1
   have dcc2 := of_decide_eq_true cc2
   refine wc_true HF rfl ?_
   refine wp_skip ?_
   refine ex_then ?_
   refine wp_seq ?_
   refine wp_block ?_
   refine wp_seq ?_
   refine wr_quiet (by kernel_rfl) (by kernel_rfl) HS.out ?_
   refine wq_y rfl HF rfl rfl (fun _ HS => (yl_move rfl (HF.ev rfl))) ?_; clear HF a; intro a HF
   refine wq_y rfl HF rfl rfl (fun _ HS => (yl_move rfl (HF.ev rfl))) ?_; clear HF a; intro a HF
   refine wq_y rfl HF rfl rfl (fun _ HS => (yl_indexAddrR (e := 9) (i := k) (size := 1) rfl (HF.ev rfl) (HF.ev rfl) (by kernel_rfl) rfl (by omega) (RA.out.ao k (by omega)))) ?_; clear HF a; intro a HF
   refine wq_y rfl HF rfl rfl (fun _ HS => (yl_load (v := .string (xs.getD k ByteArray.empty)) rfl (HF.ev rfl) (RA.out.elem1 HS (get_getD (xs := xs) (j := k) (d := ByteArray.empty) (by omega)) rfl) (by kernel_rfl))) ?_; clear HF a; intro a HF
   refine wq_y rfl HF rfl rfl (fun _ HS => (yl_move rfl (HF.ev rfl))) ?_; clear HF a; intro a HF
   refine wq_y rfl HF rfl rfl (fun _ HS => (yl_move rfl (HF.ev rfl))) ?_; clear HF a; intro a HF
   refine wq_y rfl HF rfl rfl (fun _ HS => (yl_indexAddrR (e := 9) (i := k) (size := 1) rfl (HF.ev rfl) (HF.ev rfl) (by kernel_rfl) rfl (by omega) (RB.out.ao k (by omega)))) ?_; clear HF a; intro a HF
   refine wq_y rfl HF rfl rfl (fun _ HS => (yl_load (v := .string (xs.getD k ByteArray.empty)) rfl (HF.ev rfl) (RB.out.elem1 HS (get_getD (xs := xs) (j := k) (d := ByteArray.empty) (by omega)) rfl) (by kernel_rfl))) ?_; clear HF a; intro a HF
   refine wq_y rfl HF rfl rfl (fun _ HS => (yl_neqS rfl (HF.ev rfl) (HF.ev rfl))) ?_; clear HF a; intro a HF
   refine wpQuiet_nil ?_; intro w2 HS; replace HS := Bx.mk HS
   refine ex_then ?_
   refine HF.cases 25 rfl (fun cc3 HF1 => ?_) (fun cc3 HF1 => ?_)
   ·clear HF; have HF := HF1; clear HF1
    exact absurd cc3 (by simp)
   ·clear HF; have HF := HF1; clear HF1
    refine wc_false HF rfl ?_
    refine wp_skip ?_
    refine ex_block ?_
    refine ex_then ?_
    refine wp_region_lit ?_
    refine wl_mv HF rfl rfl rfl rfl rfl ?_; clear HF a; intro a HF
    refine wl_y rfl HF rfl rfl (yl_addI rfl (HF.ev rfl) (HF.ev rfl) (i64w (by omega))) ?_; clear HF a; intro a HF
    refine wl_as HF rfl rfl rfl rfl rfl ?_; clear HF a; intro a HF
    refine wl_ne ?_
    exact ⟨k + 1, ⟨(by omega), HF.less _ ⟨rfl, rfl, rfl, rfl, trivial⟩, HS.out⟩, (by omega)⟩
  ·clear HF; have HF := HF1; clear HF1
   have dcc2 := of_decide_eq_false cc2
   refine wc_false HF rfl ?_
   refine wp_exit ?_
   refine ex_then_exit ?_
   refine ex_then_exit ?_
   refine ex_block_hit ?_
   refine ex_then ?_
   refine wp_sr ?_
   refine wl_as HF rfl rfl rfl rfl rfl ?_; clear HF a; intro a HF
   refine wl_ne ?_
   refine wp_ret ?_
   refine bp_ret1 HF Tryz.results99 (HF.res rfl) ?_
   exact ⟨rfl, HS.out.bel⟩

theorem pfDisk_yes (p q : HD) (hd : q.d = p.d) (w0 : World) (hf : p.d.fits) (hp : p.reads w0) (hq : q.reads w0) : Calls Tryz.prog 51 #[.agg #[.slice p.a0 p.d.fCells.length p.c0, .slice p.a1 p.d.fWaits.length p.c1, .bool p.d.fGone], .agg #[.slice q.a0 q.d.fCells.length q.c0, .slice q.a1 q.d.fWaits.length q.c1, .bool q.d.fGone]] w0 fun e w' => e = .returned (.bool true) ∧ Below w0.heap.size w0 w' := by
 obtain ⟨a0, c0, a1, c1, d⟩ := p; obtain ⟨z0, e0, z1, e1, d2⟩ := q; obtain rfl : d2 = d := hd
 have hw : d2.fWaits.length ≤ 1048576 := hf.w
 obtain ⟨d, rfl⟩ : ∃ d, d = d2 := ⟨_, rfl⟩
 have HP := Bx.mk hp; have HQ := Bx.mk hq; clear hp hq
 obtain ⟨g0, o0, r0⟩ := HP.out.rw.opn; have RA : Bx (Rg WaitD.cells 2 w0 a1 d.fWaits.length g0 o0 d.fWaits) := ⟨r0⟩; obtain ⟨g1, o1, r1⟩ := HQ.out.rw.opn; have RB : Bx (Rg WaitD.cells 2 w0 z1 d.fWaits.length g1 o1 d.fWaits) := ⟨r1⟩; clear r0 r1
 have HS := Bx.mk (St.start w0)
 refine wc_enter Tryz.func51 rfl Tryz.ntmps51 [(0, .agg #[.slice a0 d.fCells.length c0, .slice a1 d.fWaits.length c1, .bool d.fGone]), (1, .agg #[.slice z0 d.fCells.length e0, .slice z1 d.fWaits.length e1, .bool d.fGone])] ⟨rfl, rfl, trivial⟩ rfl ?_; intro a HF
 refine wp_sr ?_
 refine wl_box rfl HF rfl (HF.ev rfl) (Z := [.slice a0 d.fCells.length c0, .slice a1 d.fWaits.length c1, .bool d.fGone]) rfl rfl rfl rfl HS.out ?_; clear HF HS a; intro a w1 b1 HF HS; replace HS := Bx.mk HS
 refine wl_box rfl HF rfl (HF.ev rfl) (Z := [.slice z0 d.fCells.length e0, .slice z1 d.fWaits.length e1, .bool d.fGone]) rfl rfl rfl rfl HS.out ?_; clear HF HS a; intro a w2 b2 HF HS; replace HS := Bx.mk HS
 refine wl_as HF rfl rfl rfl rfl rfl ?_; clear HF a; intro a HF
 refine wl_ne ?_
 refine wp_seq ?_
 refine wp_sr ?_
 refine wl_y rfl HF rfl rfl (yl_fieldAddr (j := 0) rfl (HF.ev rfl) (by kernel_rfl)) ?_; clear HF a; intro a HF
 refine wl_y rfl HF rfl rfl (yl_load (v := .slice a0 d.fCells.length c0) rfl (HF.ev rfl) (((HS.out.box 1 rfl).cell 0).trans rfl) (by kernel_rfl)) ?_; clear HF a; intro a HF
 refine wl_y rfl HF rfl rfl (yl_fieldAddr (j := 0) rfl (HF.ev rfl) (by kernel_rfl)) ?_; clear HF a; intro a HF
 refine wl_y rfl HF rfl rfl (yl_load (v := .slice z0 d.fCells.length e0) rfl (HF.ev rfl) (((HS.out.box 0 rfl).cell 0).trans rfl) (by kernel_rfl)) ?_; clear HF a; intro a HF
 refine wl_callB rfl HF rfl (enter_of Tryz.func99 (by kernel_rfl) rfl) (args := #[.slice a0 d.fCells.length c0, .slice z0 d.fCells.length e0]) rfl (v := .bool true) ((pfTexts_yes _ _ _ _ _ _ hf.c (HP.out.rc.below HS.out.bel) (HQ.out.rc.below HS.out.bel))) rfl rfl HS.out ?_; clear HF HS a; intro w3 a HS HF; replace HS := Bx.mk HS
 refine wl_y rfl HF rfl rfl (yl_not rfl (HF.ev rfl)) ?_; clear HF a; intro a HF
 refine wl_mv HF rfl rfl rfl rfl rfl ?_; clear HF a; intro a HF
 refine wl_yg HF rfl rfl rfl rfl rfl (yl_fieldAddr (j := 1) rfl (HF.ev rfl) (by kernel_rfl)) ?_; clear HF a; intro a HF
 refine wl_yg HF rfl rfl rfl rfl rfl (yl_load (v := .slice a1 d.fWaits.length c1) rfl (HF.ev rfl) (((HS.out.box 1 rfl).cell 1).trans rfl) (by kernel_rfl)) ?_; clear HF a; intro a HF
 refine wl_yg HF rfl rfl rfl rfl rfl (yl_lenL (e := 137) (size := 2) rfl (HF.ev rfl) (by kernel_rfl)) ?_; clear HF a; intro a HF
 refine wl_yg HF rfl rfl rfl rfl rfl (yl_fieldAddr (j := 1) rfl (HF.ev rfl) (by kernel_rfl)) ?_; clear HF a; intro a HF
 refine wl_yg HF rfl rfl rfl rfl rfl (yl_load (v := .slice z1 d.fWaits.length e1) rfl (HF.ev rfl) (((HS.out.box 0 rfl).cell 1).trans rfl) (by kernel_rfl)) ?_; clear HF a; intro a HF
 refine wl_yg HF rfl rfl rfl rfl rfl (yl_lenL (e := 137) (size := 2) rfl (HF.ev rfl) (by kernel_rfl)) ?_; clear HF a; intro a HF
 refine wl_yg HF rfl rfl rfl rfl rfl (yl_neqI rfl (HF.ev rfl) (HF.ev rfl)) ?_; clear HF a; intro a HF
 refine wl_y rfl HF rfl rfl (yl_pick_f rfl (HF.ev rfl) (HF.ev rfl)) ?_; clear HF a; intro a HF
 refine wl_mv HF rfl rfl rfl rfl rfl ?_; clear HF a; intro a HF
 refine HF.cases 21 rfl (fun cc1 HF1 => ?_) (fun cc1 HF1 => ?_)
 ·clear HF; have HF := HF1; clear HF1
  exact absurd cc1 (by simp)
 ·clear HF; have HF := HF1; clear HF1
  have dcc1 := bne_eq_false_iff_eq.1 cc1
  refine wl_yg HF rfl rfl rfl rfl rfl (yl_fieldAddr (j := 2) rfl (HF.ev rfl) (by kernel_rfl)) ?_; clear HF a; intro a HF
  refine wl_yg HF rfl rfl rfl rfl rfl (yl_load (v := .bool d.fGone) rfl (HF.ev rfl) (((HS.out.box 1 rfl).cell 2).trans rfl) (by kernel_rfl)) ?_; clear HF a; intro a HF
  refine wl_yg HF rfl rfl rfl rfl rfl (yl_fieldAddr (j := 2) rfl (HF.ev rfl) (by kernel_rfl)) ?_; clear HF a; intro a HF
  refine wl_yg HF rfl rfl rfl rfl rfl (yl_load (v := .bool d.fGone) rfl (HF.ev rfl) (((HS.out.box 0 rfl).cell 2).trans rfl) (by kernel_rfl)) ?_; clear HF a; intro a HF
  refine wl_yg HF rfl rfl rfl rfl rfl (yl_neqBs rfl (HF.ev rfl) (HF.ev rfl) (by kernel_rfl)) ?_; clear HF a; intro a HF
  refine wl_y rfl HF rfl rfl (yl_pick_f rfl (HF.ev rfl) (HF.ev rfl)) ?_; clear HF a; intro a HF
  refine wl_ne ?_
  refine wc_false HF rfl ?_
  refine wp_skip ?_
  refine ex_then ?_
  refine wp_seq ?_
  refine wp_sr ?_
  refine wl_as HF rfl rfl rfl rfl rfl ?_; clear HF a; intro a HF
  refine wl_ne ?_
  refine wp_block ?_
  refine wc_loop (ι := Nat) (fun k a w => (k ≤ d.fWaits.length) ∧ Fr 46 a [(2, .pointer (some ⟨b1, 0, none⟩)), (3, .pointer (some ⟨b2, 0, none⟩)), (4, .bool false), (5, .int .i64 (k : Int))] ∧ St w0 ([boxA b2 3 94 (.agg #[.slice z0 d.fCells.length e0, .slice z1 d.fWaits.length e1, .bool d.fGone]), boxA b1 3 94 (.agg #[.slice a0 d.fCells.length c0, .slice a1 d.fWaits.length c1, .bool d.fGone])]) w) (fun k => d.fWaits.length - k) 0 ⟨Nat.zero_le _, HF.less _ ⟨rfl, rfl, rfl, rfl, trivial⟩, HS.out⟩ ?_
  clear HF HS; clear a
  rintro k a w4 ⟨hk, HF, HS⟩
  replace HS := Bx.mk HS
  refine wp_seq ?_
  refine wp_sr ?_
  refine wl_mv HF rfl rfl rfl rfl rfl ?_; clear HF a; intro a HF
  refine wl_y rfl HF rfl rfl (yl_fieldAddr (j := 1) rfl (HF.ev rfl) (by kernel_rfl)) ?_; clear HF a; intro a HF
  refine wl_y rfl HF rfl rfl (yl_load (v := .slice a1 d.fWaits.length c1) rfl (HF.ev rfl) (((HS.out.box 1 rfl).cell 1).trans rfl) (by kernel_rfl)) ?_; clear HF a; intro a HF
  refine wl_y rfl HF rfl rfl (yl_lenL (e := 137) (size := 2) rfl (HF.ev rfl) (by kernel_rfl)) ?_; clear HF a; intro a HF
  refine wl_y rfl HF rfl rfl (yl_lssI rfl (HF.ev rfl) (HF.ev rfl)) ?_; clear HF a; intro a HF
  refine wl_ne ?_
  refine HF.cases 32 rfl (fun cc2 HF1 => ?_) (fun cc2 HF1 => ?_)
  ·clear HF; have HF := HF1; clear HF1
   have dcc2 := of_decide_eq_true cc2
   refine wc_true HF rfl ?_
   refine wp_skip ?_
   refine ex_then ?_
   refine wp_seq ?_
   refine wp_block ?_
   refine wp_seq ?_
   refine wr_quiet (by kernel_rfl) (by kernel_rfl) HS.out ?_
   refine wq_y rfl HF rfl rfl (fun _ HS => (yl_fieldAddr (j := 1) rfl (HF.ev rfl) (by kernel_rfl))) ?_; clear HF a; intro a HF
   refine wq_y rfl HF rfl rfl (fun _ HS => (yl_load (v := .slice a1 d.fWaits.length c1) rfl (HF.ev rfl) (((HS.box 1 rfl).cell 1).trans rfl) (by kernel_rfl))) ?_; clear HF a; intro a HF
   refine wq_y rfl HF rfl rfl (fun _ HS => (yl_move rfl (HF.ev rfl))) ?_; clear HF a; intro a HF
   refine wq_y rfl HF rfl rfl (fun _ HS => (yl_indexAddrR (e := 137) (i := k) (size := 2) rfl (HF.ev rfl) (HF.ev rfl) (by kernel_rfl) rfl (by omega) (RA.out.ao k (by omega)))) ?_; clear HF a; intro a HF
   refine wq_y rfl HF rfl rfl (fun _ HS => (yl_loadR (cs := [.int .i64 ((d.fWaits.getD k default).fAt), .string ((d.fWaits.getD k default).fText)]) rfl (HF.ev rfl) (RA.out.elem HS (get_getD (xs := d.fWaits) (j := k) (d := default) (by omega))) (by kernel_rfl))) ?_; clear HF a; intro a HF
   refine wq_y rfl HF rfl rfl (fun _ HS => (yl_fieldAddr (j := 1) rfl (HF.ev rfl) (by kernel_rfl))) ?_; clear HF a; intro a HF
   refine wq_y rfl HF rfl rfl (fun _ HS => (yl_load (v := .slice z1 d.fWaits.length e1) rfl (HF.ev rfl) (((HS.box 0 rfl).cell 1).trans rfl) (by kernel_rfl))) ?_; clear HF a; intro a HF
   refine wq_y rfl HF rfl rfl (fun _ HS => (yl_move rfl (HF.ev rfl))) ?_; clear HF a; intro a HF
   refine wq_y rfl HF rfl rfl (fun _ HS => (yl_indexAddrR (e := 137) (i := k) (size := 2) rfl (HF.ev rfl) (HF.ev rfl) (by kernel_rfl) rfl (by omega) (RB.out.ao k (by omega)))) ?_; clear HF a; intro a HF
   refine wq_y rfl HF rfl rfl (fun _ HS => (yl_loadR (cs := [.int .i64 ((d.fWaits.getD k default).fAt), .string ((d.fWaits.getD k default).fText)]) rfl (HF.ev rfl) (RB.out.elem HS (get_getD (xs := d.fWaits) (j := k) (d := default) (by omega))) (by kernel_rfl))) ?_; clear HF a; intro a HF
   refine wq_y rfl HF rfl rfl (fun _ HS => (yl_neqWt (d.fWaits.getD k default) rfl (HF.ev rfl) (HF.ev rfl))) ?_; clear HF a; intro a HF
   refine wpQuiet_nil ?_; intro w5 HS; replace HS := Bx.mk HS
   refine ex_then ?_
   refine wc_false HF rfl ?_
   refine wp_skip ?_
   refine ex_block ?_
   refine ex_then ?_
   refine wp_region_lit ?_
   refine wl_mv HF rfl rfl rfl rfl rfl ?_; clear HF a; intro a HF
   refine wl_y rfl HF rfl rfl (yl_addI rfl (HF.ev rfl) (HF.ev rfl) (i64w (by omega))) ?_; clear HF a; intro a HF
   refine wl_as HF rfl rfl rfl rfl rfl ?_; clear HF a; intro a HF
   refine wl_ne ?_
   exact ⟨k + 1, ⟨(by omega), HF.less _ ⟨rfl, rfl, rfl, rfl, trivial⟩, HS.out⟩, (by omega)⟩
  ·clear HF; have HF := HF1; clear HF1
   have dcc2 := of_decide_eq_false cc2
   refine wc_false HF rfl ?_
   refine wp_exit ?_
   refine ex_then_exit ?_
   refine ex_then_exit ?_
   refine ex_block_hit ?_
   refine ex_then ?_
   refine wp_sr ?_
   refine wl_as HF rfl rfl rfl rfl rfl ?_; clear HF a; intro a HF
   refine wl_ne ?_
   refine wp_ret ?_
   refine bp_ret1 HF Tryz.results51 (HF.res rfl) ?_
   exact ⟨rfl, HS.out.bel⟩

theorem pfRaid_yes (a0 a1 : Option Addr) (c0 c1 n : Nat) (ps qs : List HD) (hn : n = qs.length) (hd : dsOf qs = dsOf ps) (w0 : World) (hl : ps.length ≤ 1048576) (hf : fitsL ps) (hp : rdsP a0 ps w0) (hq : rdsP a1 qs w0) : Calls Tryz.prog 20 #[.agg #[.slice a0 ps.length c0], .agg #[.slice a1 n c1]] w0 fun e w' => e = .returned (.bool true) ∧ Below w0.heap.size w0 w' := by
 have hql : qs.length = ps.length := by rw [← dsOf_len, hd, dsOf_len]
 rw [hql] at hn; subst hn
 have hP := hp.at; have hQ := hq.at; rw [hql] at hQ
 have hpq : ∀ k, (qs.getD k default).d = (ps.getD k default).d := fun k => by rw [← dsOf_get, hd, dsOf_get]
 obtain ⟨g0, o0, r0⟩ := hp.1.opn; have RA := Bx.mk r0; obtain ⟨g1, o1, r1⟩ := hq.1.opn; rw [hql] at r1; have RB := Bx.mk r1; clear r0 r1 hp hq
 have HS := Bx.mk (St.start w0)
 refine wc_enter Tryz.func20 rfl Tryz.ntmps20 [(0, .agg #[.slice a0 ps.length c0]), (1, .agg #[.slice a1 ps.length c1])] ⟨rfl, rfl, trivial⟩ rfl ?_; intro a HF
 refine wp_sr ?_
 refine wl_box rfl HF rfl (HF.ev rfl) (Z := [.slice a0 ps.length c0]) rfl rfl rfl rfl HS.out ?_; clear HF HS a; intro a w1 b1 HF HS; replace HS := Bx.mk HS
 refine wl_box rfl HF rfl (HF.ev rfl) (Z := [.slice a1 ps.length c1]) rfl rfl rfl rfl HS.out ?_; clear HF HS a; intro a w2 b2 HF HS; replace HS := Bx.mk HS
 refine wl_as HF rfl rfl rfl rfl rfl ?_; clear HF a; intro a HF
 refine wl_ne ?_
 refine wp_seq ?_
 refine wp_sr ?_
 refine wl_y rfl HF rfl rfl (yl_fieldAddr (j := 0) rfl (HF.ev rfl) (by kernel_rfl)) ?_; clear HF a; intro a HF
 refine wl_y rfl HF rfl rfl (yl_load (v := .slice a0 ps.length c0) rfl (HF.ev rfl) (((HS.out.box 1 rfl).cell 0).trans rfl) (by kernel_rfl)) ?_; clear HF a; intro a HF
 refine wl_y rfl HF rfl rfl (yl_lenL (e := 94) (size := 3) rfl (HF.ev rfl) (by kernel_rfl)) ?_; clear HF a; intro a HF
 refine wl_y rfl HF rfl rfl (yl_fieldAddr (j := 0) rfl (HF.ev rfl) (by kernel_rfl)) ?_; clear HF a; intro a HF
 refine wl_y rfl HF rfl rfl (yl_load (v := .slice a1 ps.length c1) rfl (HF.ev rfl) (((HS.out.box 0 rfl).cell 0).trans rfl) (by kernel_rfl)) ?_; clear HF a; intro a HF
 refine wl_y rfl HF rfl rfl (yl_lenL (e := 94) (size := 3) rfl (HF.ev rfl) (by kernel_rfl)) ?_; clear HF a; intro a HF
 refine wl_y rfl HF rfl rfl (yl_neqI rfl (HF.ev rfl) (HF.ev rfl)) ?_; clear HF a; intro a HF
 refine wl_ne ?_
 refine HF.cases 12 rfl (fun cc1 HF1 => ?_) (fun cc1 HF1 => ?_)
 ·clear HF; have HF := HF1; clear HF1
  exact absurd cc1 (by simp)
 ·clear HF; have HF := HF1; clear HF1
  have dcc1 := bne_eq_false_iff_eq.1 cc1
  refine wc_false HF rfl ?_
  refine wp_skip ?_
  refine ex_then ?_
  refine wp_seq ?_
  refine wp_sr ?_
  refine wl_as HF rfl rfl rfl rfl rfl ?_; clear HF a; intro a HF
  refine wl_ne ?_
  refine wp_block ?_
  refine wc_loop (ι := Nat) (fun k a w => (k ≤ ps.length) ∧ Fr 32 a [(2, .pointer (some ⟨b1, 0, none⟩)), (3, .pointer (some ⟨b2, 0, none⟩)), (4, .bool false), (5, .int .i64 (k : Int))] ∧ St w0 ([boxA b2 1 34 (.agg #[.slice a1 ps.length c1]), boxA b1 1 34 (.agg #[.slice a0 ps.length c0])]) w) (fun k => ps.length - k) 0 ⟨Nat.zero_le _, HF.less _ ⟨rfl, rfl, rfl, rfl, trivial⟩, HS.out⟩ ?_
  clear HF HS; clear a
  rintro k a w3 ⟨hk, HF, HS⟩
  replace HS := Bx.mk HS
  refine wp_seq ?_
  refine wp_sr ?_
  refine wl_mv HF rfl rfl rfl rfl rfl ?_; clear HF a; intro a HF
  refine wl_y rfl HF rfl rfl (yl_fieldAddr (j := 0) rfl (HF.ev rfl) (by kernel_rfl)) ?_; clear HF a; intro a HF
  refine wl_y rfl HF rfl rfl (yl_load (v := .slice a0 ps.length c0) rfl (HF.ev rfl) (((HS.out.box 1 rfl).cell 0).trans rfl) (by kernel_rfl)) ?_; clear HF a; intro a HF
  refine wl_y rfl HF rfl rfl (yl_lenL (e := 94) (size := 3) rfl (HF.ev rfl) (by kernel_rfl)) ?_; clear HF a; intro a HF
  refine wl_y rfl HF rfl rfl (yl_lssI rfl (HF.ev rfl) (HF.ev rfl)) ?_; clear HF a; intro a HF
  refine wl_ne ?_
  refine HF.cases 17 rfl (fun cc2 HF1 => ?_) (fun cc2 HF1 => ?_)
  ·clear HF; have HF := HF1; clear HF1
   have dcc2 := of_decide_eq_true cc2
   refine wc_true HF rfl ?_
   refine wp_skip ?_
   refine ex_then ?_
   refine wp_seq ?_
   refine wp_block ?_
   refine wp_seq ?_
   refine wr_quiet (by kernel_rfl) (by kernel_rfl) HS.out ?_
   refine wq_y rfl HF rfl rfl (fun _ HS => (yl_fieldAddr (j := 0) rfl (HF.ev rfl) (by kernel_rfl))) ?_; clear HF a; intro a HF
   refine wq_y rfl HF rfl rfl (fun _ HS => (yl_load (v := .slice a0 ps.length c0) rfl (HF.ev rfl) (((HS.box 1 rfl).cell 0).trans rfl) (by kernel_rfl))) ?_; clear HF a; intro a HF
   refine wq_y rfl HF rfl rfl (fun _ HS => (yl_move rfl (HF.ev rfl))) ?_; clear HF a; intro a HF
   refine wq_y rfl HF rfl rfl (fun _ HS => (yl_indexAddrR (e := 94) (i := k) (size := 3) rfl (HF.ev rfl) (HF.ev rfl) (by kernel_rfl) rfl (by omega) (RA.out.ao k (by omega)))) ?_; clear HF a; intro a HF
   refine wq_y rfl HF rfl rfl (fun _ HS => (yl_loadR (cs := [.slice ((ps.getD k default).a0) ((ps.getD k default).d.fCells.length) ((ps.getD k default).c0), .slice ((ps.getD k default).a1) ((ps.getD k default).d.fWaits.length) ((ps.getD k default).c1), .bool ((ps.getD k default).d.fGone)]) rfl (HF.ev rfl) (RA.out.elem HS (get_getD (xs := ps) (j := k) (d := default) (by omega))) (by kernel_rfl))) ?_; clear HF a; intro a HF
   refine wq_y rfl HF rfl rfl (fun _ HS => (yl_fieldAddr (j := 0) rfl (HF.ev rfl) (by kernel_rfl))) ?_; clear HF a; intro a HF
   refine wq_y rfl HF rfl rfl (fun _ HS => (yl_load (v := .slice a1 ps.length c1) rfl (HF.ev rfl) (((HS.box 0 rfl).cell 0).trans rfl) (by kernel_rfl))) ?_; clear HF a; intro a HF
   refine wq_y rfl HF rfl rfl (fun _ HS => (yl_move rfl (HF.ev rfl))) ?_; clear HF a; intro a HF
   refine wq_y rfl HF rfl rfl (fun _ HS => (yl_indexAddrR (e := 94) (i := k) (size := 3) rfl (HF.ev rfl) (HF.ev rfl) (by kernel_rfl) rfl (by omega) (RB.out.ao k (by omega)))) ?_; clear HF a; intro a HF
   refine wq_y rfl HF rfl rfl (fun _ HS => (yl_loadR (cs := [.slice ((qs.getD k default).a0) ((qs.getD k default).d.fCells.length) ((qs.getD k default).c0), .slice ((qs.getD k default).a1) ((qs.getD k default).d.fWaits.length) ((qs.getD k default).c1), .bool ((qs.getD k default).d.fGone)]) rfl (HF.ev rfl) (RB.out.elem HS (get_getD (xs := qs) (j := k) (d := default) (by omega))) (by kernel_rfl))) ?_; clear HF a; intro a HF
   refine wq_call rfl HF rfl (enter_of Tryz.func51 (by kernel_rfl) rfl) (args := #[.agg #[.slice ((ps.getD k default).a0) ((ps.getD k default).d.fCells.length) ((ps.getD k default).c0), .slice ((ps.getD k default).a1) ((ps.getD k default).d.fWaits.length) ((ps.getD k default).c1), .bool ((ps.getD k default).d.fGone)], .agg #[.slice ((qs.getD k default).a0) ((qs.getD k default).d.fCells.length) ((qs.getD k default).c0), .slice ((qs.getD k default).a1) ((qs.getD k default).d.fWaits.length) ((qs.getD k default).c1), .bool ((qs.getD k default).d.fGone)]]) rfl (v := .bool true) (fun _ HS => (pfDisk_yes (ps.getD k default) (qs.getD k default) (hpq k) _ (hf.at k) ((hP k (by omega)).below HS.bel) ((hQ k (by omega)).below HS.bel))) rfl rfl ?_; clear HF a; intro a HF
   refine wq_y rfl HF rfl rfl (fun _ HS => (yl_not rfl (HF.ev rfl))) ?_; clear HF a; intro a HF
   refine wpQuiet_nil ?_; intro w4 HS; replace HS := Bx.mk HS
   refine ex_then ?_
   refine wc_false HF rfl ?_
   refine wp_skip ?_
   refine ex_block ?_
   refine ex_then ?_
   refine wp_region_lit ?_
   refine wl_mv HF rfl rfl rfl rfl rfl ?_; clear HF a; intro a HF
   refine wl_y rfl HF rfl rfl (yl_addI rfl (HF.ev rfl) (HF.ev rfl) (i64w (by omega))) ?_; clear HF a; intro a HF
   refine wl_as HF rfl rfl rfl rfl rfl ?_; clear HF a; intro a HF
   refine wl_ne ?_
   exact ⟨k + 1, ⟨(by omega), HF.less _ ⟨rfl, rfl, rfl, rfl, trivial⟩, HS.out⟩, (by omega)⟩
  ·clear HF; have HF := HF1; clear HF1
   have dcc2 := of_decide_eq_false cc2
   refine wc_false HF rfl ?_
   refine wp_exit ?_
   refine ex_then_exit ?_
   refine ex_then_exit ?_
   refine ex_block_hit ?_
   refine ex_then ?_
   refine wp_sr ?_
   refine wl_as HF rfl rfl rfl rfl rfl ?_; clear HF a; intro a HF
   refine wl_ne ?_
   refine wp_ret ?_
   refine bp_ret1 HF Tryz.results20 (HF.res rfl) ?_
   exact ⟨rfl, HS.out.bel⟩

/-- How many disks are gone. -/
def lostN (ds : List DiskD) : Nat → Nat
  | 0 => 0
  | k + 1 => lostN ds k + (ds.getD k default).fGone.toNat
theorem lostN_le (ds : List DiskD) : ∀ k, lostN ds k ≤ k
  | 0 => Nat.le_refl _
  | k + 1 => by have := lostN_le ds k; unfold lostN; cases (ds.getD k default).fGone <;> simp <;> omega
theorem lostN_yes {ds : List DiskD} {k : Nat} (h : (ds.getD k default).fGone = true) : lostN ds (k + 1) = lostN ds k + 1 := by show lostN ds k + _ = _; rw [h]; rfl
theorem lostN_no {ds : List DiskD} {k : Nat} (h : (ds.getD k default).fGone = false) : lostN ds (k + 1) = lostN ds k := by show lostN ds k + _ = _; rw [h]; rfl

theorem pfLost_any (a0 : Option Addr) (c0 : Nat) (ps : List HD) (w0 : World) (hl : ps.length ≤ 1048576) (hp : rdsP a0 ps w0) : Calls Tryz.prog 21 #[.agg #[.slice a0 ps.length c0]] w0 fun e w' => e = .returned (.int .i64 (lostN (dsOf ps) ps.length : Int)) ∧ Below w0.heap.size w0 w' := by
 obtain ⟨g0, o0, r0⟩ := hp.1.opn; have RA := Bx.mk r0; clear r0 hp
 have HS := Bx.mk (St.start w0)
 refine wc_enter Tryz.func21 rfl Tryz.ntmps21 [(0, .agg #[.slice a0 ps.length c0])] ⟨rfl, trivial⟩ rfl ?_; intro a HF
 refine wp_sr ?_
 refine wl_box rfl HF rfl (HF.ev rfl) (Z := [.slice a0 ps.length c0]) rfl rfl rfl rfl HS.out ?_; clear HF HS a; intro a w1 b1 HF HS; replace HS := Bx.mk HS
 refine wl_as HF rfl rfl rfl rfl rfl ?_; clear HF a; intro a HF
 refine wl_ne ?_
 refine wp_sr ?_
 refine wl_as HF rfl rfl rfl rfl rfl ?_; clear HF a; intro a HF
 refine wl_ne ?_
 refine wp_seq ?_
 refine wp_sr ?_
 refine wl_as HF rfl rfl rfl rfl rfl ?_; clear HF a; intro a HF
 refine wl_ne ?_
 refine wp_block ?_
 refine wc_loop (ι := Nat) (fun k a w => (k ≤ ps.length) ∧ Fr 21 a [(1, .pointer (some ⟨b1, 0, none⟩)), (2, .int .i64 0), (3, .int .i64 (lostN (dsOf ps) k : Int)), (4, .int .i64 (k : Int))] ∧ St w0 ([boxA b1 1 34 (.agg #[.slice a0 ps.length c0])]) w) (fun k => ps.length - k) 0 ⟨Nat.zero_le _, HF.less _ ⟨rfl, rfl, rfl, rfl, trivial⟩, HS.out⟩ ?_
 clear HF HS; clear a
 rintro k a w2 ⟨hk, HF, HS⟩
 replace HS := Bx.mk HS
 have hlk := lostN_le (dsOf ps) k
 refine wp_seq ?_
 refine wp_sr ?_
 refine wl_mv HF rfl rfl rfl rfl rfl ?_; clear HF a; intro a HF
 refine wl_y rfl HF rfl rfl (yl_fieldAddr (j := 0) rfl (HF.ev rfl) (by kernel_rfl)) ?_; clear HF a; intro a HF
 refine wl_y rfl HF rfl rfl (yl_load (v := .slice a0 ps.length c0) rfl (HF.ev rfl) (((HS.out.box 0 rfl).cell 0).trans rfl) (by kernel_rfl)) ?_; clear HF a; intro a HF
 refine wl_y rfl HF rfl rfl (yl_lenL (e := 94) (size := 3) rfl (HF.ev rfl) (by kernel_rfl)) ?_; clear HF a; intro a HF
 refine wl_y rfl HF rfl rfl (yl_lssI rfl (HF.ev rfl) (HF.ev rfl)) ?_; clear HF a; intro a HF
 refine wl_ne ?_
 refine HF.cases 9 rfl (fun cc1 HF1 => ?_) (fun cc1 HF1 => ?_)
 ·clear HF; have HF := HF1; clear HF1
  have dcc1 := of_decide_eq_true cc1
  refine wc_true HF rfl ?_
  refine wp_skip ?_
  refine ex_then ?_
  refine wp_seq ?_
  refine wp_block ?_
  refine wp_sr ?_
  refine wl_y rfl HF rfl rfl (yl_fieldAddr (j := 0) rfl (HF.ev rfl) (by kernel_rfl)) ?_; clear HF a; intro a HF
  refine wl_y rfl HF rfl rfl (yl_load (v := .slice a0 ps.length c0) rfl (HF.ev rfl) (((HS.out.box 0 rfl).cell 0).trans rfl) (by kernel_rfl)) ?_; clear HF a; intro a HF
  refine wl_mv HF rfl rfl rfl rfl rfl ?_; clear HF a; intro a HF
  refine wl_y rfl HF rfl rfl (yl_indexAddrR (e := 94) (i := k) (size := 3) rfl (HF.ev rfl) (HF.ev rfl) (by kernel_rfl) rfl (by omega) (RA.out.ao k (by omega))) ?_; clear HF a; intro a HF
  refine wl_y rfl HF rfl rfl (yl_fieldAddr (j := 2) rfl (HF.ev rfl) (by kernel_rfl)) ?_; clear HF a; intro a HF
  refine wl_y rfl HF rfl rfl (yl_load (v := .bool ((ps.getD k default).d.fGone)) rfl (HF.ev rfl) (RA.out.elem HS.out (get_getD (xs := ps) (j := k) (d := default) (by omega)) 2 _ rfl) (by kernel_rfl)) ?_; clear HF a; intro a HF
  refine wl_ne ?_
  refine HF.cases 17 rfl (fun cc2 HF1 => ?_) (fun cc2 HF1 => ?_)
  ·clear HF; have HF := HF1; clear HF1
   refine wc_true HF rfl ?_
   refine wp_region_lit ?_
   refine wl_mv HF rfl rfl rfl rfl rfl ?_; clear HF a; intro a HF
   refine wl_y rfl HF rfl rfl (yl_addI rfl (HF.ev rfl) (HF.ev rfl) (i64w (by omega))) ?_; clear HF a; intro a HF
   refine wl_as HF rfl rfl rfl rfl rfl ?_; clear HF a; intro a HF
   refine wpList_nil ?_
   refine ex_block ?_
   refine ex_then ?_
   refine wp_region_lit ?_
   refine wl_mv HF rfl rfl rfl rfl rfl ?_; clear HF a; intro a HF
   refine wl_y rfl HF rfl rfl (yl_addI rfl (HF.ev rfl) (HF.ev rfl) (i64w (by omega))) ?_; clear HF a; intro a HF
   refine wl_as HF rfl rfl rfl rfl rfl ?_; clear HF a; intro a HF
   refine wl_ne ?_
   have hnx : lostN (dsOf ps) (k + 1) = lostN (dsOf ps) k + 1 := lostN_yes (by rw [dsOf_get]; exact cc2)
   exact ⟨k + 1, ⟨(by omega), HF.less _ ⟨rfl, rfl, (by show some (Value.int .i64 _) = some (Value.int .i64 _); exact congrArg (fun z => some (Value.int .i64 z)) (by omega)), rfl, trivial⟩, HS.out⟩, (by omega)⟩
  ·clear HF; have HF := HF1; clear HF1
   refine wc_false HF rfl ?_
   refine wp_skip ?_
   refine ex_block ?_
   refine ex_then ?_
   refine wp_region_lit ?_
   refine wl_mv HF rfl rfl rfl rfl rfl ?_; clear HF a; intro a HF
   refine wl_y rfl HF rfl rfl (yl_addI rfl (HF.ev rfl) (HF.ev rfl) (i64w (by omega))) ?_; clear HF a; intro a HF
   refine wl_as HF rfl rfl rfl rfl rfl ?_; clear HF a; intro a HF
   refine wl_ne ?_
   have hnx : lostN (dsOf ps) (k + 1) = lostN (dsOf ps) k := lostN_no (by rw [dsOf_get]; exact cc2)
   exact ⟨k + 1, ⟨(by omega), HF.less _ ⟨rfl, rfl, (by show some (Value.int .i64 _) = some (Value.int .i64 _); exact congrArg (fun z => some (Value.int .i64 z)) (by omega)), rfl, trivial⟩, HS.out⟩, (by omega)⟩
 ·clear HF; have HF := HF1; clear HF1
  have dcc1 := of_decide_eq_false cc1
  refine wc_false HF rfl ?_
  refine wp_exit ?_
  refine ex_then_exit ?_
  refine ex_then_exit ?_
  refine ex_block_hit ?_
  refine ex_then ?_
  refine wp_sr ?_
  refine wl_mv HF rfl rfl rfl rfl rfl ?_; clear HF a; intro a HF
  refine wl_as HF rfl rfl rfl rfl rfl ?_; clear HF a; intro a HF
  refine wl_ne ?_
  refine wp_ret ?_
  refine bp_ret1 HF Tryz.results21 (HF.res rfl) ?_
  obtain rfl : k = ps.length := by omega
  exact ⟨rfl, HS.out.bel⟩

end Go.Proofs.YtoaopmkbfifhaaaGreatDoor

/- A set of disks copied, a disk of it lost, by the program. -/
namespace Go.Proofs.YtoaopmkbfifhaaaGreatDoor
set_option linter.unusedVariables false
set_option linter.unusedSimpArgs false
set_option maxHeartbeats 1000000
set_option maxRecDepth 100000
open Go.RowKit

theorem rclone1_any (w0 w : World) (ps : List HD) (k : Nat) (hf : (ps.getD k default).d.fits) (hp : (ps.getD k default).reads w0)  (X : List Asr) (hS : St w0 X w) : Calls Tryz.prog 100 #[.int .i64 (k : Int), .agg #[.slice ((ps.getD k default).a0) ((ps.getD k default).d.fCells.length) ((ps.getD k default).c0), .slice ((ps.getD k default).a1) ((ps.getD k default).d.fWaits.length) ((ps.getD k default).c1), .bool ((ps.getD k default).d.fGone)]] w fun e w' => (some (ps.getD k default).d = none ∧ ∃ q : HD, e = .returned (.tuple #[.agg #[.slice q.a0 q.d.fCells.length q.c0, .slice q.a1 q.d.fWaits.length q.c1, .bool q.d.fGone], .bool false]) ∧ St w0 X w') ∨ (∃ q : HD, some (ps.getD k default).d = some q.d ∧ e = .returned (.tuple #[.agg #[.slice q.a0 q.d.fCells.length q.c0, .slice q.a1 q.d.fWaits.length q.c1, .bool q.d.fGone], .bool true]) ∧ St w0 (q.asr :: ([] ++ X)) w') := by
 have HP := Bx.mk hp; clear hp
 have HS := Bx.mk hS; clear hS
 refine wc_enter Tryz.func100 rfl Tryz.ntmps100 [(0, .int .i64 (k : Int)), (1, .agg #[.slice ((ps.getD k default).a0) ((ps.getD k default).d.fCells.length) ((ps.getD k default).c0), .slice ((ps.getD k default).a1) ((ps.getD k default).d.fWaits.length) ((ps.getD k default).c1), .bool ((ps.getD k default).d.fGone)])] ⟨rfl, rfl, trivial⟩ rfl ?_; intro a HF
 refine wp_sr ?_
 refine wl_box rfl HF rfl (HF.ev rfl) (Z := [.slice ((ps.getD k default).a0) ((ps.getD k default).d.fCells.length) ((ps.getD k default).c0), .slice ((ps.getD k default).a1) ((ps.getD k default).d.fWaits.length) ((ps.getD k default).c1), .bool ((ps.getD k default).d.fGone)]) rfl rfl rfl rfl HS.out ?_; clear HF HS a; intro a w1 b1 HF HS; replace HS := Bx.mk HS
 refine wl_alloc rfl HF rfl rfl rfl (Z := [.slice none 0 0, .slice none 0 0, .bool false]) (by kernel_rfl) rfl HS.out ?_; clear HF HS a; intro a w2 b2 HF HS; replace HS := Bx.mk HS
 refine wl_as HF rfl rfl rfl rfl rfl ?_; clear HF a; intro a HF
 refine wl_ne ?_
 refine wp_sr ?_
 refine wl_y rfl HF rfl rfl (yl_loadR (cs := [.slice ((ps.getD k default).a0) ((ps.getD k default).d.fCells.length) ((ps.getD k default).c0), .slice ((ps.getD k default).a1) ((ps.getD k default).d.fWaits.length) ((ps.getD k default).c1), .bool ((ps.getD k default).d.fGone)]) rfl (HF.ev rfl) ((HS.out.box 1 rfl).sub 0 3) (by kernel_rfl)) ?_; clear HF a; intro a HF
 refine wl_call rfl HF rfl (enter_of Tryz.func77 (by kernel_rfl) rfl) (args := #[.agg #[.slice ((ps.getD k default).a0) ((ps.getD k default).d.fCells.length) ((ps.getD k default).c0), .slice ((ps.getD k default).a1) ((ps.getD k default).d.fWaits.length) ((ps.getD k default).c1), .bool ((ps.getD k default).d.fGone)]]) rfl (clone_any (ps.getD k default) _ (HP.out.below HS.out.bel) hf) rfl rfl ?_
 rintro _ w3 ⟨⟨qa3, qc3, qb3, qe3, qd⟩, hqd, rfl, hs⟩; obtain rfl : qd = (ps.getD k default).d := hqd; refine ⟨_, rfl, ?_⟩
 replace HS := Bx.mk ((HS.out.add hs)); clear hs HF; clear a; intro a HF
 replace HS : Bx (St w0 (HD.asr ⟨qa3, qc3, qb3, qe3, (ps.getD k default).d⟩ :: boxA b2 3 94 (.agg #[.slice none 0 0, .slice none 0 0, .bool false]) :: boxA b1 3 94 (.agg #[.slice ((ps.getD k default).a0) ((ps.getD k default).d.fCells.length) ((ps.getD k default).c0), .slice ((ps.getD k default).a1) ((ps.getD k default).d.fWaits.length) ((ps.getD k default).c1), .bool ((ps.getD k default).d.fGone)]) :: X) _) := ⟨HS.out⟩
 refine wl_storeBox rfl HF rfl rfl (HF.ev rfl) (HF.ev rfl) HS.out 1 rfl (cells_lit [.slice qa3 ((ps.getD k default).d.fCells.length) qc3, .slice qb3 ((ps.getD k default).d.fWaits.length) qe3, .bool ((ps.getD k default).d.fGone)] rfl rfl) (by kernel_rfl) ?_; clear HS; intro w4 HS; replace HS := Bx.mk HS
 have HS : Bx (St w0 (HD.asr ⟨qa3, qc3, qb3, qe3, (ps.getD k default).d⟩ :: boxA b2 3 94 (.agg #[.slice qa3 ((ps.getD k default).d.fCells.length) qc3, .slice qb3 ((ps.getD k default).d.fWaits.length) qe3, .bool ((ps.getD k default).d.fGone)]) :: boxA b1 3 94 (.agg #[.slice ((ps.getD k default).a0) ((ps.getD k default).d.fCells.length) ((ps.getD k default).c0), .slice ((ps.getD k default).a1) ((ps.getD k default).d.fWaits.length) ((ps.getD k default).c1), .bool ((ps.getD k default).d.fGone)]) :: X) _) := HS
 refine wl_as HF rfl rfl rfl rfl rfl ?_; clear HF a; intro a HF
 refine wl_ne ?_
 refine wp_ret ?_
 refine bp_ret2 HF Tryz.results100 (HF.resBox rfl (HS.out.box 1 rfl) (by kernel_rfl)) (HF.res rfl) ?_
 replace HS : Bx (St w0 (HD.asr ⟨qa3, qc3, qb3, qe3, (ps.getD k default).d⟩ :: boxA b2 3 94 (.agg #[.slice qa3 ((ps.getD k default).d.fCells.length) qc3, .slice qb3 ((ps.getD k default).d.fWaits.length) qe3, .bool ((ps.getD k default).d.fGone)]) :: boxA b1 3 94 (.agg #[.slice ((ps.getD k default).a0) ((ps.getD k default).d.fCells.length) ((ps.getD k default).c0), .slice ((ps.getD k default).a1) ((ps.getD k default).d.fWaits.length) ((ps.getD k default).c1), .bool ((ps.getD k default).d.fGone)]) :: X) _) := ⟨(HS.out).pick 0 rfl⟩
 exact .inr ⟨⟨qa3, qc3, qb3, qe3, (ps.getD k default).d⟩, rfl, rfl, ((HS.out.erase 2).erase 1)⟩

theorem eachTo_id (ds : List DiskD) : ∀ n, n ≤ ds.length → eachTo (fun _ d => some d) ds n = some (ds.take n)
  | 0, _ => rfl
  | n + 1, h => by
    have ih := eachTo_id ds n (by omega)
    rw [eachTo_next ih rfl, List.take_succ_eq_append_getElem (by omega), getD_get (by omega)]

theorem raidClone_any (a0 : Option Addr) (c0 : Nat) (ps : List HD) (w0 : World) (hl : ps.length ≤ 1048576) (hf : fitsL ps) (hp : rdsP a0 ps w0) : Calls Tryz.prog 53 #[.agg #[.slice a0 ps.length c0]] w0 fun e w' => ∃ (ao : Option Addr) (cp : Nat) (qs : List HD), dsOf qs = dsOf ps ∧ e = .returned (.agg #[.slice ao qs.length cp]) ∧ St w0 [rowA HD.cells 3 94 (.slice ao qs.length cp) qs, sepA (qs.map HD.asr)] w' := by
 have heq : eachTo (fun _ d => some d) (dsOf ps) ps.length = some (dsOf ps) := by rw [eachTo_id _ _ (by rw [dsOf_len]; omega), ← dsOf_len, List.take_length]
 have HS := Bx.mk (St.start w0)
 refine wc_enter Tryz.func53 rfl Tryz.ntmps53 [(0, .agg #[.slice a0 ps.length c0])] ⟨rfl, trivial⟩ rfl ?_; intro a HF
 refine wp_sr ?_
 refine wl_box rfl HF rfl (HF.ev rfl) (Z := [.slice a0 ps.length c0]) rfl rfl rfl rfl HS.out ?_; clear HF HS a; intro a w1 b1 HF HS; replace HS := Bx.mk HS
 refine wl_alloc rfl HF rfl rfl rfl (Z := [.slice none 0 0]) (by kernel_rfl) rfl HS.out ?_; clear HF HS a; intro a w2 b2 HF HS; replace HS := Bx.mk HS
 refine wl_ne ?_
 refine wp_sr ?_
 refine wl_y rfl HF rfl rfl (yl_loadR (cs := [.slice a0 ps.length c0]) rfl (HF.ev rfl) ((HS.out.box 1 rfl).sub 0 1) (by kernel_rfl)) ?_; clear HF a; intro a HF
 refine wl_call rfl HF rfl (enter_of Tryz.func75 (by kernel_rfl) rfl) (args := #[.agg #[.slice a0 ps.length c0], .func (.func 100) #[] #[]]) rfl (each_any w0 _ a0 c0 ps 100 #[] (fun _ d => some d) (fun _ => []) [boxA b2 1 34 (.agg #[.slice none 0 0]), boxA b1 1 34 (.agg #[.slice a0 ps.length c0])] hl (enter_of Tryz.func100 (by kernel_rfl) rfl) hp.1 (fun k hk w X _ hS => rclone1_any w0 w ps k (hf.at k) (hp.at k hk) X hS) HS.out) rfl rfl ?_
 rintro _ w3 (⟨hev, _, _⟩ | ⟨ao, cp, qs, hev, rfl, hs⟩)
 ·rw [heq] at hev; cases hev
 refine ⟨_, rfl, ?_⟩; replace HS := Bx.mk hs; clear hs HF; clear a; intro a HF
 replace HS : Bx (St w0 ([rowA HD.cells 3 94 (.slice ao qs.length cp) qs, sepA (qs.map HD.asr), boxA b2 1 34 (.agg #[.slice none 0 0]), boxA b1 1 34 (.agg #[.slice a0 ps.length c0])]) _) := ⟨HS.out⟩
 refine wl_mv HF rfl rfl rfl rfl rfl ?_; clear HF a; intro a HF
 refine wl_y rfl HF rfl rfl (yl_extract rfl (HF.ev rfl) rfl) ?_; clear HF a; intro a HF
 refine wl_y rfl HF rfl rfl (yl_extract rfl (HF.ev rfl) rfl) ?_; clear HF a; intro a HF
 refine wl_alloc rfl HF rfl rfl rfl (Z := [.slice none 0 0]) (by kernel_rfl) rfl HS.out ?_; clear HF HS a; intro a w4 b3 HF HS; replace HS := Bx.mk HS
 refine wl_storeBox rfl HF rfl rfl (HF.ev rfl) (HF.ev rfl) HS.out 0 rfl (cells_lit [.slice ao qs.length cp] rfl rfl) (by kernel_rfl) ?_; clear HS; intro w5 HS; replace HS := Bx.mk HS
 have HS : Bx (St w0 ([boxA b3 1 34 (.agg #[.slice ao qs.length cp]), rowA HD.cells 3 94 (.slice ao qs.length cp) qs, sepA (qs.map HD.asr), boxA b2 1 34 (.agg #[.slice none 0 0]), boxA b1 1 34 (.agg #[.slice a0 ps.length c0])]) _) := HS
 refine wl_as HF rfl rfl rfl rfl rfl ?_; clear HF a; intro a HF
 refine wl_ne ?_
 refine wp_sr ?_
 refine wl_y rfl HF rfl rfl (yl_loadR (cs := [.slice ao qs.length cp]) rfl (HF.ev rfl) ((HS.out.box 0 rfl).sub 0 1) (by kernel_rfl)) ?_; clear HF a; intro a HF
 refine wl_storeBox rfl HF rfl rfl (HF.ev rfl) (HF.ev rfl) HS.out 3 rfl (cells_lit [.slice ao qs.length cp] rfl rfl) (by kernel_rfl) ?_; clear HS; intro w6 HS; replace HS := Bx.mk HS
 have HS : Bx (St w0 ([boxA b3 1 34 (.agg #[.slice ao qs.length cp]), rowA HD.cells 3 94 (.slice ao qs.length cp) qs, sepA (qs.map HD.asr), boxA b2 1 34 (.agg #[.slice ao qs.length cp]), boxA b1 1 34 (.agg #[.slice a0 ps.length c0])]) _) := HS
 refine wl_ne ?_
 refine wp_ret ?_
 refine bp_ret1 HF Tryz.results53 (HF.resBox rfl (HS.out.box 3 rfl) (by kernel_rfl)) ?_
 replace HS : Bx (St w0 ([rowA HD.cells 3 94 (.slice ao qs.length cp) qs, sepA (qs.map HD.asr), boxA b3 1 34 (.agg #[.slice ao qs.length cp]), boxA b2 1 34 (.agg #[.slice ao qs.length cp]), boxA b1 1 34 (.agg #[.slice a0 ps.length c0])]) _) := ⟨((HS.out).pick 2 rfl).pick 2 rfl⟩
 exact ⟨_, _, qs, (Option.some.inj (heq.symm.trans hev)).symm, rfl, (((HS.out.erase 4).erase 3).erase 2)⟩

theorem inB_lt {n : Nat} (h : inB (n : Int) 0 2 = true) : n < 3 := by
  unfold inB at h; simp at h; omega
theorem dsOf_set (qs : List HD) (k : Nat) (q : HD) : dsOf (qs.set k q) = (dsOf qs).set k q.d := by unfold dsOf; rw [List.map_set]

theorem raidLose_any (a0 : Option Addr) (c0 : Nat) (ps : List HD) (w0 : World) (hl : ps.length ≤ 1048576) (hf : fitsL ps) (hp : rdsP a0 ps w0) (n : Nat) : Calls Tryz.prog 22 #[.agg #[.slice a0 ps.length c0], .int .i64 (n : Int)] w0 fun e w' => ((okR (dsOf ps) && inB (n : Int) 0 2) = false ∧ e = .returned (.tuple #[.agg #[.slice none 0 0], .bool false]) ∧ Below w0.heap.size w0 w') ∨ ((okR (dsOf ps) && inB (n : Int) 0 2) = true ∧ ∃ (ao : Option Addr) (cp : Nat) (qs : List HD), dsOf qs = (dsOf ps).set n lostD ∧ e = .returned (.tuple #[.agg #[.slice ao qs.length cp], .bool true]) ∧ St w0 [holdsA (rdsP ao qs)] w') := by
 have HS := Bx.mk (St.start w0)
 refine wc_enter Tryz.func22 rfl Tryz.ntmps22 [(0, .agg #[.slice a0 ps.length c0]), (1, .int .i64 (n : Int))] ⟨rfl, rfl, trivial⟩ rfl ?_; intro a HF
 refine wp_sr ?_
 refine wl_box rfl HF rfl (HF.ev rfl) (Z := [.slice a0 ps.length c0]) rfl rfl rfl rfl HS.out ?_; clear HF HS a; intro a w1 b1 HF HS; replace HS := Bx.mk HS
 refine wl_alloc rfl HF rfl rfl rfl (Z := [.slice none 0 0]) (by kernel_rfl) rfl HS.out ?_; clear HF HS a; intro a w2 b2 HF HS; replace HS := Bx.mk HS
 refine wl_as HF rfl rfl rfl rfl rfl ?_; clear HF a; intro a HF
 refine wl_ne ?_
 refine wp_seq ?_
 refine wp_sr ?_
 refine wl_y rfl HF rfl rfl (yl_loadR (cs := [.slice a0 ps.length c0]) rfl (HF.ev rfl) ((HS.out.box 1 rfl).sub 0 1) (by kernel_rfl)) ?_; clear HF a; intro a HF
 refine wl_callB rfl HF rfl (enter_of Tryz.func35 (by kernel_rfl) rfl) (args := #[.agg #[.slice a0 ps.length c0]]) rfl (v := .bool (okR (dsOf ps))) (implRaidOk_any a0 c0 ps _ hl hf.at (hp.1.below HS.out.bel) (fun k hk => (hp.at k hk).below HS.out.bel)) rfl rfl HS.out ?_; clear HF HS a; intro w3 a HS HF; replace HS := Bx.mk HS
 refine wl_y rfl HF rfl rfl (yl_not rfl (HF.ev rfl)) ?_; clear HF a; intro a HF
 refine wl_mv HF rfl rfl rfl rfl rfl ?_; clear HF a; intro a HF
 refine HF.cases 10 rfl (fun cc1 HF1 => ?_) (fun cc1 HF1 => ?_)
 ·clear HF; have HF := HF1; clear HF1
  have hok : okR (dsOf ps) = false := by simpa using cc1
  refine wl_skip HF rfl rfl rfl rfl rfl rfl ?_; clear HF a; intro a HF
  refine wl_skip HF rfl rfl rfl rfl rfl rfl ?_; clear HF a; intro a HF
  refine wl_skip HF rfl rfl rfl rfl rfl rfl ?_; clear HF a; intro a HF
  refine wl_y rfl HF rfl rfl (yl_pick_t rfl (HF.ev rfl) (HF.ev rfl)) ?_; clear HF a; intro a HF
  refine wl_ne ?_
  refine wc_true HF rfl ?_
  refine wp_sr ?_
  refine wl_y rfl HF rfl rfl (yl_build HF rfl (ps := []) rfl (cs := #[.slice none 0 0]) (by kernel_rfl)) ?_; clear HF a; intro a HF
  refine wl_storeBox rfl HF rfl rfl (HF.ev rfl) (HF.ev rfl) HS.out 0 rfl (cells_lit [.slice none 0 0] rfl rfl) (by kernel_rfl) ?_; clear HS; intro w4 HS; replace HS := Bx.mk HS
  have HS : Bx (St w0 ([boxA b2 1 34 (.agg #[.slice none 0 0]), boxA b1 1 34 (.agg #[.slice a0 ps.length c0])]) _) := HS
  refine wl_as HF rfl rfl rfl rfl rfl ?_; clear HF a; intro a HF
  refine wl_ne ?_
  refine wp_ret ?_
  refine ex_then_ret ?_
  refine bp_ret2 HF Tryz.results22 (HF.resBox rfl (HS.out.box 0 rfl) (by kernel_rfl)) (HF.res rfl) ?_
  exact .inl ⟨by first | (rw [hok]; rfl) | (rw [hok, hib]; rfl), rfl, HS.out.bel⟩
 ·clear HF; have HF := HF1; clear HF1
  have hok : okR (dsOf ps) = true := by simpa using cc1
  refine wl_yg HF rfl rfl rfl rfl rfl (yl_move rfl (HF.ev rfl)) ?_; clear HF a; intro a HF
  refine wl_callBg HF rfl rfl rfl rfl (enter_of Tryz.func52 (by kernel_rfl) rfl) (args := #[.int .i64 (n : Int), .int .i64 0, .int .i64 2]) rfl (v := .bool (inB (n : Int) 0 2)) (((within_any (n : Int) 0 2 _).mono fun _ _ h => ⟨h.1, h.2 ▸ Below.refl _ _⟩)) rfl rfl HS.out ?_; clear HF HS a; intro w5 a HS HF; replace HS := Bx.mk HS
  refine wl_yg HF rfl rfl rfl rfl rfl (yl_not rfl (HF.ev rfl)) ?_; clear HF a; intro a HF
  refine wl_y rfl HF rfl rfl (yl_pick_f rfl (HF.ev rfl) (HF.ev rfl)) ?_; clear HF a; intro a HF
  refine wl_ne ?_
  refine HF.cases 14 rfl (fun cc2 HF1 => ?_) (fun cc2 HF1 => ?_)
  ·clear HF; have HF := HF1; clear HF1
   have hib : inB (n : Int) 0 2 = false := by simpa using cc2
   refine wc_true HF rfl ?_
   refine wp_sr ?_
   refine wl_y rfl HF rfl rfl (yl_build HF rfl (ps := []) rfl (cs := #[.slice none 0 0]) (by kernel_rfl)) ?_; clear HF a; intro a HF
   refine wl_storeBox rfl HF rfl rfl (HF.ev rfl) (HF.ev rfl) HS.out 0 rfl (cells_lit [.slice none 0 0] rfl rfl) (by kernel_rfl) ?_; clear HS; intro w6 HS; replace HS := Bx.mk HS
   have HS : Bx (St w0 ([boxA b2 1 34 (.agg #[.slice none 0 0]), boxA b1 1 34 (.agg #[.slice a0 ps.length c0])]) _) := HS
   refine wl_as HF rfl rfl rfl rfl rfl ?_; clear HF a; intro a HF
   refine wl_ne ?_
   refine wp_ret ?_
   refine ex_then_ret ?_
   refine bp_ret2 HF Tryz.results22 (HF.resBox rfl (HS.out.box 0 rfl) (by kernel_rfl)) (HF.res rfl) ?_
   exact .inl ⟨by first | (rw [hok]; rfl) | (rw [hok, hib]; rfl), rfl, HS.out.bel⟩
  ·clear HF; have HF := HF1; clear HF1
   have hib : inB (n : Int) 0 2 = true := by simpa using cc2
   have hn3 := inB_lt hib; have h3 := by have := (okR_three hok).1; rw [← dsOf_len] at this; exact this
   refine wc_false HF rfl ?_
   refine wp_skip ?_
   refine ex_then ?_
   refine wp_sr ?_
   refine wl_y rfl HF rfl rfl (yl_loadR (cs := [.slice a0 ps.length c0]) rfl (HF.ev rfl) ((HS.out.box 1 rfl).sub 0 1) (by kernel_rfl)) ?_; clear HF a; intro a HF
   refine wl_call rfl HF rfl (enter_of Tryz.func53 (by kernel_rfl) rfl) (args := #[.agg #[.slice a0 ps.length c0]]) rfl (raidClone_any a0 c0 ps _ hl hf ⟨hp.1.below HS.out.bel, fun p h => (hp.2 p h).below HS.out.bel⟩) rfl rfl ?_
   rintro _ w7 ⟨ao, cp, qs, hqd, rfl, hs⟩
   have hql : qs.length = 3 := by rw [← dsOf_len, hqd]; exact h3
   refine ⟨_, rfl, ?_⟩; replace HS := Bx.mk (HS.out.add hs); clear hs HF; clear a; intro a HF
   replace HS : Bx (St w0 ([rowA HD.cells 3 94 (.slice ao qs.length cp) qs, sepA (qs.map HD.asr), boxA b2 1 34 (.agg #[.slice none 0 0]), boxA b1 1 34 (.agg #[.slice a0 ps.length c0])]) _) := ⟨HS.out⟩
   obtain ⟨g3, rfl, _, _, _, _⟩ := HS.out.rowOpen 0 rfl (by omega)
   refine wl_alloc rfl HF rfl rfl rfl (Z := [.slice none 0 0]) (by kernel_rfl) rfl HS.out ?_; clear HF HS a; intro a w8 b4 HF HS; replace HS := Bx.mk HS
   refine wl_storeBox rfl HF rfl rfl (HF.ev rfl) (HF.ev rfl) HS.out 0 rfl (cells_lit [.slice (some ⟨g3, 0, none⟩) qs.length cp] rfl rfl) (by kernel_rfl) ?_; clear HS; intro w9 HS; replace HS := Bx.mk HS
   have HS : Bx (St w0 ([boxA b4 1 34 (.agg #[.slice (some ⟨g3, 0, none⟩) qs.length cp]), rowA HD.cells 3 94 (.slice (some ⟨g3, 0, none⟩) qs.length cp) qs, sepA (qs.map HD.asr), boxA b2 1 34 (.agg #[.slice none 0 0]), boxA b1 1 34 (.agg #[.slice a0 ps.length c0])]) _) := HS
   refine wl_ne ?_
   refine wp_seq ?_
   refine wr_marked (W := w0) (s := [boxA b4 1 34 (.agg #[.slice (some ⟨g3, 0, none⟩) qs.length cp]), rowA HD.cells 3 94 (.slice (some ⟨g3, 0, none⟩) qs.length cp) qs, sepA (qs.map HD.asr), boxA b2 1 34 (.agg #[.slice none 0 0]), boxA b1 1 34 (.agg #[.slice a0 ps.length c0])]) 5 (by kernel_rfl) ?_
   have HS2 := Bx.mk HS.out.drew; replace HS := Bx.mk (show St w0 ([boxA b4 1 34 (.agg #[.slice (some ⟨g3, 0, none⟩) qs.length cp]), rowA HD.cells 3 94 (.slice (some ⟨g3, 0, none⟩) qs.length cp) qs, sepA (qs.map HD.asr), boxA b2 1 34 (.agg #[.slice none 0 0]), boxA b1 1 34 (.agg #[.slice a0 ps.length c0])]) _ from HS.out.drew); generalize World.drew _ = w10 at HS HS2 ⊢
   refine wm_t 0 rfl (by kernel_rfl) (by kernel_rfl) (by kernel_rfl) (fun _ _ _ h => h) (by decide) rfl HF rfl rfl (fun _ _ => (yl_fieldAddr (j := 0) rfl (HF.ev rfl) (by kernel_rfl))) (fun _ => HS.out) ?_; clear HF a; intro a HF
   refine wm_y 1 rfl (by kernel_rfl) (by kernel_rfl) (by kernel_rfl) (fun _ _ _ h => h) (by decide) (by kernel_rfl) (by kernel_rfl) rfl HF rfl rfl (fun _ HS => (yl_load (v := .slice (some ⟨g3, 0, none⟩) qs.length cp) rfl (HF.ev rfl) (((HS.box 0 rfl).cell 0).trans rfl) (by kernel_rfl))) HS.out ?_; clear HF a; intro a HF
   refine wm_t 2 rfl (by kernel_rfl) (by kernel_rfl) (by kernel_rfl) (fun _ _ _ h => h) (by decide) rfl HF rfl rfl (fun _ _ => (yl_move rfl (HF.ev rfl))) (fun _ => HS.out) ?_; clear HF a; intro a HF
   refine wm_one 3 (by kernel_rfl) ?_
   refine wo_call rfl rfl HF rfl (enter_of Tryz.func54 (by kernel_rfl) rfl) (args := #[]) rfl (implLose_any _) rfl rfl ?_
   rintro _ w11 ⟨⟨qa5, qc5, qb5, qe5, qd⟩, hqd, rfl, hs⟩; obtain rfl : qd = lostD := hqd; refine ⟨_, rfl, ?_⟩
   replace HS := Bx.mk (HS.out.later hs.bel)
   replace HS2 := Bx.mk ((HS2.out.add hs)); clear hs HF; clear a; intro a HF
   replace HS2 : Bx (St w0 ([HD.asr ⟨qa5, qc5, qb5, qe5, lostD⟩, boxA b4 1 34 (.agg #[.slice (some ⟨g3, 0, none⟩) qs.length cp]), rowA HD.cells 3 94 (.slice (some ⟨g3, 0, none⟩) qs.length cp) qs, sepA (qs.map HD.asr), boxA b2 1 34 (.agg #[.slice none 0 0]), boxA b1 1 34 (.agg #[.slice a0 ps.length c0])]) _) := ⟨HS2.out⟩
   refine ⟨fun _ => HS.out, ?_⟩
   refine wm_y 4 rfl (by kernel_rfl) (by kernel_rfl) (by kernel_rfl) (fun _ _ _ h => h) (by decide) (by kernel_rfl) (by kernel_rfl) rfl HF rfl rfl (fun _ HS => (yl_indexAddr (e := 94) (i := n) (size := 3) rfl (HF.ev rfl) (HF.ev rfl) (by kernel_rfl) rfl (by omega))) HS.out ?_; clear HF a; intro a HF
   refine wm_one 5 (by kernel_rfl) ?_
   refine wo_storeEn HD.cells_len rfl rfl rfl rfl (HF.ev rfl) (HF.ev rfl) (by kernel_rfl) HS2.out 2 rfl (by omega) (z := (⟨qa5, qc5, qb5, qe5, lostD⟩ : HD)) rfl (by first | rfl | simp [Value.oneCell']) ?_
   clear HS2; intro w12 HS2; replace HS2 : Bx (St w0 ([HD.asr ⟨qa5, qc5, qb5, qe5, lostD⟩, boxA b4 1 34 (.agg #[.slice (some ⟨g3, 0, none⟩) qs.length cp]), rowA HD.cells 3 94 (.slice (some ⟨g3, 0, none⟩) qs.length cp) (qs.set n (⟨qa5, qc5, qb5, qe5, lostD⟩ : HD)), sepA (qs.map HD.asr), boxA b2 1 34 (.agg #[.slice none 0 0]), boxA b1 1 34 (.agg #[.slice a0 ps.length c0])]) _) := ⟨HS2⟩; refine ⟨(fun h => absurd (show true = false from h) (by decide)), ?_⟩
   refine wm_done (by kernel_rfl) ?_
   clear HS; have HS := HS2; clear HS2
   refine ex_then ?_
   refine wp_sr ?_
   refine wl_y rfl HF rfl rfl (yl_loadR (cs := [.slice (some ⟨g3, 0, none⟩) qs.length cp]) rfl (HF.ev rfl) ((HS.out.box 1 rfl).sub 0 1) (by kernel_rfl)) ?_; clear HF a; intro a HF
   refine wl_storeBox rfl HF rfl rfl (HF.ev rfl) (HF.ev rfl) HS.out 4 rfl (cells_lit [.slice (some ⟨g3, 0, none⟩) qs.length cp] rfl rfl) (by kernel_rfl) ?_; clear HS; intro w13 HS; replace HS := Bx.mk HS
   have HS : Bx (St w0 ([HD.asr ⟨qa5, qc5, qb5, qe5, lostD⟩, boxA b4 1 34 (.agg #[.slice (some ⟨g3, 0, none⟩) qs.length cp]), rowA HD.cells 3 94 (.slice (some ⟨g3, 0, none⟩) qs.length cp) (qs.set n (⟨qa5, qc5, qb5, qe5, lostD⟩ : HD)), sepA (qs.map HD.asr), boxA b2 1 34 (.agg #[.slice (some ⟨g3, 0, none⟩) qs.length cp]), boxA b1 1 34 (.agg #[.slice a0 ps.length c0])]) _) := HS
   refine wl_as HF rfl rfl rfl rfl rfl ?_; clear HF a; intro a HF
   refine wl_ne ?_
   refine wp_ret ?_
   refine bp_ret2 HF Tryz.results22 (HF.resBox rfl (HS.out.box 4 rfl) (by kernel_rfl)) (HF.res rfl) ?_
   replace HS : Bx (St w0 ([rowA HD.cells 3 94 (.slice (some ⟨g3, 0, none⟩) qs.length cp) (qs.set n (⟨qa5, qc5, qb5, qe5, lostD⟩ : HD)), sepA (qs.map HD.asr), HD.asr ⟨qa5, qc5, qb5, qe5, lostD⟩, boxA b4 1 34 (.agg #[.slice (some ⟨g3, 0, none⟩) qs.length cp]), boxA b2 1 34 (.agg #[.slice (some ⟨g3, 0, none⟩) qs.length cp]), boxA b1 1 34 (.agg #[.slice a0 ps.length c0])]) _) := ⟨(((HS.out).pick 0 rfl).pick 3 rfl).pick 3 rfl⟩
   have HT := (((HS.out.erase 5).erase 4).erase 3)
   have HU := ((St.join (r := [_, _, _])).1 HT).hold (P := rdsP (some ⟨g3, 0, none⟩) (qs.set n (⟨qa5, qc5, qb5, qe5, lostD⟩ : HD))) (sep3 (fun w f h => row_reads HD.cells_len h) (fun w f h => hds_allP h) (fun w f h => HD.asr_reads1 h) fun w h1 h2 h3 => ⟨by rw [List.length_set]; exact h1, allP_set h2 h3⟩)
   exact .inr ⟨by rw [hok, hib]; rfl, _, _, qs.set n (⟨qa5, qc5, qb5, qe5, lostD⟩ : HD), by rw [dsOf_set, hqd], by rw [List.length_set], HU⟩

end Go.Proofs.YtoaopmkbfifhaaaGreatDoor

/- The plain laws of healing and writing. -/
namespace Go.Proofs.YtoaopmkbfifhaaaGreatDoor
set_option linter.unusedVariables false
set_option linter.unusedSimpArgs false
set_option maxHeartbeats 1000000
set_option maxRecDepth 100000
open Go.RowKit
section
variable {P : Program} {o : Oper} {a : Act} {w : World} {t t' : TypeId} {x y : Operand}
theorem yl_eqlB (ho : o.op = .binOp .eql t x y t') {b c : Bool} (hx : a.eval x = .bool b) (hy : a.eval y = .bool c) (hu : P.underlying t = some .bool) : Yl P w o a (.bool (b == c)) := by
  have h : (Op.equal t (.bool b) (.bool c)).run P w = .ok (b == c) w := by
    unfold Op.equal Op.maxDepth
    rw [Op.equalIn]
    simp only [Sem.run_bind, run_underlying hu w, Result.andThen_ok, Sem.run_pure]
  unfold Yl execOp
  simp only [ho, hx, hy]
  simp [eqGuard, binOp, h]
theorem yl_eqlBs (ho : o.op = .binOp .eql t x y t') {b : Bool} (hx : a.eval x = .bool b) (hy : a.eval y = .bool b) (hu : P.underlying t = some .bool) : Yl P w o a (.bool true) := by
  have := yl_eqlB (P := P) (w := w) ho hx hy hu
  simpa using this
end
theorem pfLost_three (a0 : Option Addr) (c0 : Nat) (ps : List HD) (w0 : World) (hl : ps.length = 3) (hp : rdsP a0 ps w0) : Calls Tryz.prog 21 #[.agg #[.slice a0 ps.length c0]] w0 fun e w' => e = .returned (.int .i64 (lostN (dsOf ps) 3 : Int)) ∧ Below w0.heap.size w0 w' := by
  refine (pfLost_any a0 c0 ps w0 (by omega) hp).mono ?_
  rintro e w' ⟨rfl, hb⟩
  rw [hl]; exact ⟨rfl, hb⟩
theorem rds_nil (w : World) : rdsP none [] w := ⟨⟨rfl, fun i hi => absurd hi (Nat.not_lt_zero _)⟩, fun p h => by cases h⟩
theorem fitsL_nil : fitsL [] := fun p h => by cases h
theorem bytes_toList {a b : ByteArray} (h : (a.toList == b.toList) = true) : a = b := by
  have h := eq_of_beq h
  rw [ByteArray.toList_eq, ByteArray.toList_eq] at h
  exact ByteArray.ext (Array.toList_inj.1 h)
theorem lostN_three {ds : List DiskD} : lostN ds 3 = (ds.getD 0 default).fGone.toNat + (ds.getD 1 default).fGone.toNat + (ds.getD 2 default).fGone.toNat := by simp [lostN]
theorem ok_put {d : DiskD} {m : Nat} {t : ByteArray} (h : d.ok = true) (hc : d.can (m : Int) t = true) : (d.putD (m : Int) t).ok = true := by
  unfold DiskD.can at hc
  unfold DiskD.ok at h
  simp only [Bool.and_eq_true, decide_eq_true_eq, Bool.not_eq_true'] at h hc
  obtain ⟨h1, h2, h3, h4, h5⟩ := h
  obtain ⟨g1, g2, g3, g4⟩ := hc
  have hwl : (d.putD (m : Int) t).fWaits.length = d.fWaits.length + 1 := by show (d.fWaits ++ [_]).length = _; rw [List.length_append]; rfl
  have hgl : ∀ k, k < d.fWaits.length → (d.putD (m : Int) t).fWaits.getD k default = d.fWaits.getD k default := fun k hk => by show (d.fWaits ++ [_]).getD k default = _; simp [List.getD, List.getElem?_append_left hk]
  have hgn : (d.putD (m : Int) t).fWaits.getD d.fWaits.length default = ⟨(m : Int), t⟩ := by show (d.fWaits ++ [_]).getD d.fWaits.length default = _; simp [List.getD]
  unfold DiskD.ok
  simp only [Bool.and_eq_true, decide_eq_true_eq, Bool.not_eq_true']
  refine ⟨h1, by omega, ?_, h4, ?_⟩
  · show (d.fGone && _) = false; rw [g1]; rfl
  · rw [hwl]
    refine allB_mk fun k hk => ?_
    replace h5 : ∀ k, k < d.fWaits.length → waitB d k = true := fun k hk => allB_at h5 hk
    by_cases hk2 : k < d.fWaits.length
    · have := h5 k hk2
      unfold waitB at this ⊢
      rw [hgl k hk2]; exact this
    · obtain rfl : k = d.fWaits.length := by omega
      unfold waitB
      rw [hgn, g2]
      show (true && decide (t.size ≤ 200)) = true
      rw [decide_eq_true g3]; rfl
theorem eachTo_at2 {f : Nat → DiskD → Option DiskD} {ds xs : List DiskD} {n : Nat} (h : eachTo f ds n = some xs) : ∀ {k : Nat}, k < n → f k (ds.getD k default) = some (xs.getD k default) := by
  induction n generalizing xs with
  | zero => intro k hk; omega
  | succ n ih =>
    intro k hk
    unfold eachTo at h
    cases h1 : eachTo f ds n with
    | none => rw [h1] at h; cases h
    | some ys =>
      rw [h1] at h; simp only at h
      cases h2 : f n (ds.getD n default) with
      | none => rw [h2] at h; cases h
      | some y =>
        rw [h2] at h
        obtain rfl : ys ++ [y] = xs := by simpa using h
        have hl := eachTo_len h1
        by_cases hk2 : k < n
        · rw [ih h1 hk2]; simp [List.getD, List.getElem?_append_left (show k < ys.length by omega)]
        · obtain rfl : k = n := by omega
          rw [h2]; simp [List.getD, ← hl]
theorem okR_of {ds : List DiskD} (h : ds.length = 3) (h2 : ∀ k, k < 3 → (ds.getD k default).ok = true) : okR ds = true := by
  unfold okR
  rw [decide_eq_true h, h, Bool.true_and]
  exact allB_mk h2
theorem okR_at {ds : List DiskD} (h : okR ds = true) : ds.length = 3 ∧ ∀ k, k < 3 → (ds.getD k default).ok = true := by
  unfold okR at h
  rw [Bool.and_eq_true, decide_eq_true_eq] at h
  obtain ⟨h1, h2⟩ := h
  rw [h1] at h2
  exact ⟨h1, fun k hk => allB_at h2 hk⟩
theorem lost_ok : lostD.ok = true := by
  have hs : ∀ k, lostD.fCells.getD k ByteArray.empty = ByteArray.empty := fun k => by
    show (List.replicate 64 ByteArray.empty).getD k ByteArray.empty = _
    simp only [List.getD, List.getElem?_replicate]; split <;> rfl
  unfold DiskD.ok
  simp only [Bool.and_eq_true, decide_eq_true_eq]
  refine ⟨lostD_c, Nat.zero_le _, rfl, allB_mk fun k _ => ?_, rfl⟩
  unfold cellB
  rw [hs, show (ByteArray.empty : ByteArray) = (⟨#[]⟩ : ByteArray) from rfl, beq_self_eq_true]
  rfl
theorem set_get {ds : List DiskD} {i k : Nat} {d : DiskD} (hi : i < ds.length) : (ds.set i d).getD k default = if k = i then d else ds.getD k default := by
  by_cases h : k = i
  · subst h; rw [if_pos rfl]; simp [List.getD, hi]
  · rw [if_neg h]; simp [List.getD, List.getElem?_set, Ne.symm h]
theorem raid_holdG {W w : World} {F : List Asr} {ao : Option Addr} {c n : Nat} {ps : List HD} (hn : n = ps.length) (h : St W (rowA HD.cells 3 94 (.slice ao n c) ps :: sepA (ps.map HD.asr) :: F) w) : St W (holdsA (rdsP ao ps) :: F) w := by
  subst hn
  exact ((St.join (r := [_, _]) (s := F)).1 h).hold (sep2 (fun w f h => row_reads HD.cells_len h) (fun w f h => hds_allP h) fun w h1 h2 => ⟨h1, h2⟩)
def fitsD (ds : List DiskD) : Prop := ∀ d, d ∈ ds → d.fits
theorem fitsL_of {ps : List HD} (h : fitsD (dsOf ps)) : fitsL ps := fun p hp => h p.d (List.mem_map_of_mem hp)
theorem ok_fits {d : DiskD} (h : d.ok = true) : d.fits := by
  unfold DiskD.ok at h
  simp only [Bool.and_eq_true, decide_eq_true_eq] at h
  obtain ⟨h1, h2, _, h4, h5⟩ := h
  refine ⟨by omega, by omega, fun k => ?_, fun k => ?_⟩
  · by_cases hk : k < d.fCells.length
    · have := allB_at h4 hk
      unfold cellB at this
      simp only [Bool.and_eq_true, decide_eq_true_eq] at this
      omega
    · rw [show d.fCells.getD k ByteArray.empty = ByteArray.empty by simp [List.getD, List.getElem?_eq_none (Nat.le_of_not_lt hk)]]; exact Nat.zero_le _
  · by_cases hk : k < d.fWaits.length
    · have := allB_at h5 hk
      unfold waitB at this
      simp only [Bool.and_eq_true, decide_eq_true_eq] at this
      omega
    · rw [show d.fWaits.getD k default = default by simp [List.getD, List.getElem?_eq_none (Nat.le_of_not_lt hk)]]; exact Nat.zero_le _
theorem okR_fits {ps : List HD} (h : okR (dsOf ps) = true) : fitsL ps := fitsL_of fun d hd => by
  obtain ⟨h1, h2⟩ := okR_at h
  obtain ⟨k, hk, rfl⟩ := List.mem_iff_getElem.1 hd
  have := h2 k (by omega)
  rw [getD_get hk] at this
  exact ok_fits this
end Go.Proofs.YtoaopmkbfifhaaaGreatDoor

/- Names, paths, texts cut: walked. -/
namespace Go.Proofs.YtoaopmkbfifhaaaGreatDoor
set_option linter.unusedVariables false
set_option linter.unusedSimpArgs false
set_option maxHeartbeats 1000000
set_option maxRecDepth 100000
open Go.RowKit

/-- The variable of the library that tells how long a text may be for its fast road holds some number. -/
def MaxP (w : World) : Prop := ∃ m, w.cell? ⟨1, 0, none⟩ = some (.int .i64 m)
theorem MaxP.below {w w' : World} (h : MaxP w) (hb : Below w.heap.size w w') : MaxP w' := by
  obtain ⟨m, hm⟩ := h
  have hlt : 1 < w.heap.size := World.block_lt_of_cell? w _ hm
  exact ⟨m, (hb.cell (p := ⟨1, 0, none⟩) hlt).trans hm⟩

theorem max_of {w : World} (h : w.ShapedOpen Tryz.prog) : MaxP w := laySplit.s1_3 w h
theorem split_any (s : ByteArray) (c : UInt8) (w : World) (hs : s.size < 4294967281) (hM : MaxP w) : Calls Tryz.prog 175 #[.string s, .string ⟨#[c]⟩] w fun e w' => ∃ ao cp, e = .returned (.slice ao (piecesB s c).length cp) ∧ St w [rowA encS 1 9 (.slice ao (piecesB s c).length cp) (piecesB s c)] w' := by
  obtain ⟨m, hm⟩ := hM
  refine (Any.strings_Split { laySplit with } laySplit.i9 s ⟨#[c]⟩ m w hs hm (Nat.le_refl 1)).mono ?_
  rintro e w' ⟨rfl, rfl⟩
  have hl : Go.Lib.countB s ⟨#[c]⟩ + 1 = (piecesB s c).length := by rw [← splitB_pieces, Go.Lib.splitB_all ⟨#[c]⟩ (Nat.le_refl 1) 0 _ s rfl]
  rw [hl, splitB_pieces]
  refine ⟨_, _, rfl, ?_⟩
  have hm2 : (piecesB s c).length ≤ maxLen := by
    have h1 := pieces_len s c
    have h2 := List.count_le_length (a := c) (l := s.data.toList)
    have h3 := size_list s
    unfold maxLen; omega
  refine (St.start w).rowNew (enc := encS) (size := 1) (ys := piecesB s c) ((Below.refl _ _).alloc (Nat.le_refl _) _) (blk_new w _ _ rfl) (Nat.le_refl _) (by simp) (Nat.le_refl _) hm2 ?_
  rw [Nat.mul_one, List.take_of_length_le (by simp), List.map_eq_flatMap]; rfl
end Go.Proofs.YtoaopmkbfifhaaaGreatDoor

/- Drawing numbers and texts. -/
namespace Go.Proofs.YtoaopmkbfifhaaaGreatDoor
set_option linter.unusedVariables false
set_option linter.unusedSimpArgs false
set_option maxHeartbeats 1000000
set_option maxRecDepth 100000
open Go.RowKit

theorem u8_b (b : UInt8) : 0 ≤ (b.toNat : Int) ∧ (b.toNat : Int) ≤ 255 := by have := b.toNat_lt; omega

theorem pick_any (w0 w : World) (rb : Nat) (ab : Option Addr) (n cb : Nat) (bs : List UInt8) (hn : n ≤ 2000) (hR : Rd encB 1 w0 ab n bs) (B : Nat) (hB : B ≤ 1000000) (m : Int) (hm : m ≤ 1000000) (F : List Asr) (hS : St w0 (rdA rb ab n cb B :: F) w) : Calls Tryz.prog 94 #[.pointer (some ⟨rb, 0, none⟩), .int .i64 m] w fun e w' => ∃ v : Int, e = .returned (.int .i64 v) ∧ 0 ≤ v ∧ (v < m ∨ v = 0) ∧ St w0 (rdA rb ab n cb (B + 1) :: F) w' := by
 obtain ⟨p, hpB, h0⟩ := hS.rdOpen
 have HS := Bx.mk h0; clear h0 hS
 have hbl : bs.length = n := hR.len
 obtain ⟨g, off, r0⟩ := hR.opn; have RB := Bx.mk r0; clear r0 hR
 refine wc_enter Tryz.func94 rfl Tryz.ntmps94 [(0, .pointer (some ⟨rb, 0, none⟩)), (1, .int .i64 m)] ⟨rfl, rfl, trivial⟩ rfl ?_; intro a HF
 refine wp_sr ?_
 refine wl_as HF rfl rfl rfl rfl rfl ?_; clear HF a; intro a HF
 refine wl_ne ?_
 refine wp_sr ?_
 refine wl_mv HF rfl rfl rfl rfl rfl ?_; clear HF a; intro a HF
 refine wl_mv HF rfl rfl rfl rfl rfl ?_; clear HF a; intro a HF
 refine wl_y rfl HF rfl rfl (yl_nilCheck rfl (HF.ev rfl)) ?_; clear HF a; intro a HF
 refine wl_y rfl HF rfl rfl (yl_fieldAddr (j := 1) rfl (HF.ev rfl) (by kernel_rfl)) ?_; clear HF a; intro a HF
 refine wl_y rfl HF rfl rfl (yl_load (v := .int .i64 (p : Int)) rfl (HF.ev rfl) (((HS.out.box 0 rfl).cell 1).trans rfl) (by kernel_rfl)) ?_; clear HF a; intro a HF
 refine wl_y rfl HF rfl rfl (yl_addI rfl (HF.ev rfl) (HF.ev rfl) (i64w (by omega))) ?_; clear HF a; intro a HF
 refine wl_y rfl HF rfl rfl (yl_nilCheck rfl (HF.ev rfl)) ?_; clear HF a; intro a HF
 refine wl_y rfl HF rfl rfl (yl_fieldAddr (j := 1) rfl (HF.ev rfl) (by kernel_rfl)) ?_; clear HF a; intro a HF
 refine wl_storeF rfl rfl rfl (HF.ev rfl) (HF.ev rfl) (by kernel_rfl) HS.out 0 rfl rfl rfl ?_; clear HS; intro w1 HS; replace HS := Bx.mk HS
 have HS : Bx (St w0 (boxA rb 2 129 (.agg #[.slice ab n cb, .int .i64 ((p : Int) + 1)]) :: F) _) := HS
 refine wl_ne ?_
 refine wp_seq ?_
 refine wp_sr ?_
 refine wl_mv HF rfl rfl rfl rfl rfl ?_; clear HF a; intro a HF
 refine wl_y rfl HF rfl rfl (yl_lssI rfl (HF.ev rfl) (HF.ev rfl)) ?_; clear HF a; intro a HF
 refine wl_mv HF rfl rfl rfl rfl rfl ?_; clear HF a; intro a HF
 refine HF.cases 17 rfl (fun cc1 HF1 => ?_) (fun cc1 HF1 => ?_)
 ·clear HF; have HF := HF1; clear HF1
  have dcc1 := of_decide_eq_true cc1
  refine wl_skip HF rfl rfl rfl rfl rfl rfl ?_; clear HF a; intro a HF
  refine wl_skip HF rfl rfl rfl rfl rfl rfl ?_; clear HF a; intro a HF
  refine wl_skip HF rfl rfl rfl rfl rfl rfl ?_; clear HF a; intro a HF
  refine wl_skip HF rfl rfl rfl rfl rfl rfl ?_; clear HF a; intro a HF
  refine wl_skip HF rfl rfl rfl rfl rfl rfl ?_; clear HF a; intro a HF
  refine wl_skip HF rfl rfl rfl rfl rfl rfl ?_; clear HF a; intro a HF
  refine wl_y rfl HF rfl rfl (yl_pick_t rfl (HF.ev rfl) (HF.ev rfl)) ?_; clear HF a; intro a HF
  refine wl_ne ?_
  refine wc_true HF rfl ?_
  refine wp_sr ?_
  refine wl_as HF rfl rfl rfl rfl rfl ?_; clear HF a; intro a HF
  refine wl_ne ?_
  refine wp_ret ?_
  refine ex_then_ret ?_
  refine bp_ret1 HF Tryz.results94 (HF.res rfl) ?_
  exact ⟨_, rfl, by omega, by omega, St.rdMk (p := p + 1) (by omega) HS.out⟩
 ·clear HF; have HF := HF1; clear HF1
  have dcc1 := of_decide_eq_false cc1
  refine wl_yg HF rfl rfl rfl rfl rfl (yl_move rfl (HF.ev rfl)) ?_; clear HF a; intro a HF
  refine wl_yg HF rfl rfl rfl rfl rfl (yl_nilCheck rfl (HF.ev rfl)) ?_; clear HF a; intro a HF
  refine wl_yg HF rfl rfl rfl rfl rfl (yl_fieldAddr (j := 0) rfl (HF.ev rfl) (by kernel_rfl)) ?_; clear HF a; intro a HF
  refine wl_yg HF rfl rfl rfl rfl rfl (yl_load (v := .slice ab n cb) rfl (HF.ev rfl) (((HS.out.box 0 rfl).cell 0).trans rfl) (by kernel_rfl)) ?_; clear HF a; intro a HF
  refine wl_yg HF rfl rfl rfl rfl rfl (yl_lenL (e := 5) (size := 1) rfl (HF.ev rfl) (by kernel_rfl)) ?_; clear HF a; intro a HF
  refine wl_yg HF rfl rfl rfl rfl rfl (yl_eqlI rfl (HF.ev rfl) (HF.ev rfl)) ?_; clear HF a; intro a HF
  refine wl_y rfl HF rfl rfl (yl_pick_f rfl (HF.ev rfl) (HF.ev rfl)) ?_; clear HF a; intro a HF
  refine wl_ne ?_
  refine HF.cases 24 rfl (fun cc2 HF1 => ?_) (fun cc2 HF1 => ?_)
  ·clear HF; have HF := HF1; clear HF1
   have dcc2 := eq_of_beq cc2
   refine wc_true HF rfl ?_
   refine wp_sr ?_
   refine wl_as HF rfl rfl rfl rfl rfl ?_; clear HF a; intro a HF
   refine wl_ne ?_
   refine wp_ret ?_
   refine ex_then_ret ?_
   refine bp_ret1 HF Tryz.results94 (HF.res rfl) ?_
   exact ⟨_, rfl, by omega, by omega, St.rdMk (p := p + 1) (by omega) HS.out⟩
  ·clear HF; have HF := HF1; clear HF1
   have dcc2 := ne_of_beq_false cc2
   refine wc_false HF rfl ?_
   refine wp_skip ?_
   refine ex_then ?_
   refine wp_sr ?_
   refine wl_mv HF rfl rfl rfl rfl rfl ?_; clear HF a; intro a HF
   refine wl_y rfl HF rfl rfl (yl_nilCheck rfl (HF.ev rfl)) ?_; clear HF a; intro a HF
   refine wl_y rfl HF rfl rfl (yl_fieldAddr (j := 1) rfl (HF.ev rfl) (by kernel_rfl)) ?_; clear HF a; intro a HF
   refine wl_y rfl HF rfl rfl (yl_load (v := .int .i64 ((p : Int) + 1)) rfl (HF.ev rfl) (((HS.out.box 0 rfl).cell 1).trans rfl) (by kernel_rfl)) ?_; clear HF a; intro a HF
   refine wl_y rfl HF rfl rfl (yl_subI (r := (p : Int)) rfl (HF.ev rfl) (HF.ev rfl) ((i64w (by omega)).trans (by omega))) ?_; clear HF a; intro a HF
   refine wl_as HF rfl rfl rfl rfl rfl ?_; clear HF a; intro a HF
   refine wl_ne ?_
   refine wp_seq ?_
   refine wp_sr ?_
   refine wl_mv HF rfl rfl rfl rfl rfl ?_; clear HF a; intro a HF
   refine wl_mv HF rfl rfl rfl rfl rfl ?_; clear HF a; intro a HF
   refine wl_y rfl HF rfl rfl (yl_nilCheck rfl (HF.ev rfl)) ?_; clear HF a; intro a HF
   refine wl_y rfl HF rfl rfl (yl_fieldAddr (j := 0) rfl (HF.ev rfl) (by kernel_rfl)) ?_; clear HF a; intro a HF
   refine wl_y rfl HF rfl rfl (yl_load (v := .slice ab n cb) rfl (HF.ev rfl) (((HS.out.box 0 rfl).cell 0).trans rfl) (by kernel_rfl)) ?_; clear HF a; intro a HF
   refine wl_y rfl HF rfl rfl (yl_lenL (e := 5) (size := 1) rfl (HF.ev rfl) (by kernel_rfl)) ?_; clear HF a; intro a HF
   refine wl_y rfl HF rfl rfl (yl_lssI rfl (HF.ev rfl) (HF.ev rfl)) ?_; clear HF a; intro a HF
   refine wl_ne ?_
   refine HF.cases 36 rfl (fun cc3 HF1 => ?_) (fun cc3 HF1 => ?_)
   ·clear HF; have HF := HF1; clear HF1
    have dcc3 := of_decide_eq_true cc3
    refine wc_true HF rfl ?_
    refine wp_seq ?_
    have hb1 := u8_b (bs.getD p 0)
    refine wp_region_lit ?_
    refine wl_mv HF rfl rfl rfl rfl rfl ?_; clear HF a; intro a HF
    refine wl_y rfl HF rfl rfl (yl_nilCheck rfl (HF.ev rfl)) ?_; clear HF a; intro a HF
    refine wl_y rfl HF rfl rfl (yl_fieldAddr (j := 0) rfl (HF.ev rfl) (by kernel_rfl)) ?_; clear HF a; intro a HF
    refine wl_y rfl HF rfl rfl (yl_load (v := .slice ab n cb) rfl (HF.ev rfl) (((HS.out.box 0 rfl).cell 0).trans rfl) (by kernel_rfl)) ?_; clear HF a; intro a HF
    refine wl_mv HF rfl rfl rfl rfl rfl ?_; clear HF a; intro a HF
    refine wl_y rfl HF rfl rfl (yl_indexAddrR (e := 5) (i := p) (size := 1) rfl (HF.ev rfl) (HF.ev rfl) (by kernel_rfl) rfl (by omega) (RB.out.ao p (by omega))) ?_; clear HF a; intro a HF
    refine wl_y rfl HF rfl rfl (yl_load (v := .int .u8 ((bs.getD p 0).toNat : Int)) rfl (HF.ev rfl) (RB.out.elem1 HS.out (get_getD (xs := bs) (j := p) (d := 0) (by omega)) rfl) (by kernel_rfl)) ?_; clear HF a; intro a HF
    refine wl_y rfl HF rfl rfl (yl_convU8 (n := ((bs.getD p 0).toNat : Int)) rfl (HF.ev rfl) (u8_b _) (by kernel_rfl) (by kernel_rfl)) ?_; clear HF a; intro a HF
    refine wl_mv HF rfl rfl rfl rfl rfl ?_; clear HF a; intro a HF
    refine wl_y rfl HF rfl rfl (yl_remI rfl (HF.ev rfl) (HF.ev rfl) (by omega) (rem_pos (by omega) (by omega))) ?_; clear HF a; intro a HF
    refine wl_as HF rfl rfl rfl rfl rfl ?_; clear HF a; intro a HF
    refine wl_ne ?_
    refine wp_ret ?_
    refine ex_then_ret ?_
    refine bp_ret1 HF Tryz.results94 (HF.res rfl) ?_
    have e8 := Int.emod_nonneg (((bs.getD p 0).toNat : Int)) (show m ≠ 0 by omega); have e9 := Int.emod_lt_of_pos (((bs.getD p 0).toNat : Int)) (show 0 < m by omega)
    exact ⟨_, rfl, by omega, by omega, St.rdMk (p := p + 1) (by omega) HS.out⟩
   ·clear HF; have HF := HF1; clear HF1
    have dcc3 := of_decide_eq_false cc3
    refine wc_false HF rfl ?_
    refine wp_skip ?_
    refine ex_then ?_
    refine wp_seq ?_
    have e1 := Int.emod_nonneg (p : Int) (show (n : Int) ≠ 0 by omega); have e2 := Int.emod_lt_of_pos (p : Int) (show (0 : Int) < (n : Int) by omega)
    have e3 := Int.emod_nonneg ((p : Int) * 7 + 3) (show (n : Int) ≠ 0 by omega); have e4 := Int.emod_lt_of_pos ((p : Int) * 7 + 3) (show (0 : Int) < (n : Int) by omega)
    have e5 := Int.ediv_nonneg (show (0 : Int) ≤ (p : Int) by omega) (show (0 : Int) ≤ (n : Int) by omega); have e6 := Int.ediv_le_self (a := (p : Int)) (n : Int) (by omega)
    obtain ⟨i1, hi1⟩ : ∃ i1 : Nat, (p : Int) % (n : Int) = (i1 : Int) := ⟨((p : Int) % (n : Int)).toNat, by omega⟩; obtain ⟨i2, hi2⟩ : ∃ i2 : Nat, ((p : Int) * 7 + 3) % (n : Int) = (i2 : Int) := ⟨(((p : Int) * 7 + 3) % (n : Int)).toNat, by omega⟩
    have hb1 := u8_b (bs.getD i1 0); have hb2 := u8_b (bs.getD i2 0)
    refine wr_quiet (by kernel_rfl) (by kernel_rfl) HS.out ?_
    refine wq_y rfl HF rfl rfl (fun _ HS => (yl_move rfl (HF.ev rfl))) ?_; clear HF a; intro a HF
    refine wq_y rfl HF rfl rfl (fun _ HS => (yl_nilCheck rfl (HF.ev rfl))) ?_; clear HF a; intro a HF
    refine wq_y rfl HF rfl rfl (fun _ HS => (yl_fieldAddr (j := 0) rfl (HF.ev rfl) (by kernel_rfl))) ?_; clear HF a; intro a HF
    refine wq_y rfl HF rfl rfl (fun _ HS => (yl_load (v := .slice ab n cb) rfl (HF.ev rfl) (((HS.box 0 rfl).cell 0).trans rfl) (by kernel_rfl))) ?_; clear HF a; intro a HF
    refine wq_y rfl HF rfl rfl (fun _ HS => (yl_move rfl (HF.ev rfl))) ?_; clear HF a; intro a HF
    refine wq_y rfl HF rfl rfl (fun _ HS => (yl_move rfl (HF.ev rfl))) ?_; clear HF a; intro a HF
    refine wq_y rfl HF rfl rfl (fun _ HS => (yl_nilCheck rfl (HF.ev rfl))) ?_; clear HF a; intro a HF
    refine wq_y rfl HF rfl rfl (fun _ HS => (yl_fieldAddr (j := 0) rfl (HF.ev rfl) (by kernel_rfl))) ?_; clear HF a; intro a HF
    refine wq_y rfl HF rfl rfl (fun _ HS => (yl_load (v := .slice ab n cb) rfl (HF.ev rfl) (((HS.box 0 rfl).cell 0).trans rfl) (by kernel_rfl))) ?_; clear HF a; intro a HF
    refine wq_y rfl HF rfl rfl (fun _ HS => (yl_lenL (e := 5) (size := 1) rfl (HF.ev rfl) (by kernel_rfl))) ?_; clear HF a; intro a HF
    refine wq_y rfl HF rfl rfl (fun _ HS => (yl_remI rfl (HF.ev rfl) (HF.ev rfl) (by omega) (rem_pos (by omega) (by omega)))) ?_; clear HF a; intro a HF
    refine wq_y rfl HF rfl rfl (fun _ HS => (yl_indexAddrR (e := 5) (i := i1) (size := 1) rfl (HF.ev rfl) (HF.ev rfl) (by kernel_rfl) (by omega) (by omega) (RB.out.ao i1 (by omega)))) ?_; clear HF a; intro a HF
    refine wq_y rfl HF rfl rfl (fun _ HS => (yl_load (v := .int .u8 ((bs.getD i1 0).toNat : Int)) rfl (HF.ev rfl) (RB.out.elem1 HS (get_getD (xs := bs) (j := i1) (d := 0) (by omega)) rfl) (by kernel_rfl))) ?_; clear HF a; intro a HF
    refine wq_y rfl HF rfl rfl (fun _ HS => (yl_convU8 (n := ((bs.getD i1 0).toNat : Int)) rfl (HF.ev rfl) (u8_b _) (by kernel_rfl) (by kernel_rfl))) ?_; clear HF a; intro a HF
    refine wq_y rfl HF rfl rfl (fun _ HS => (yl_mulI rfl (HF.ev rfl) (HF.ev rfl) (i64w (by omega)))) ?_; clear HF a; intro a HF
    refine wq_y rfl HF rfl rfl (fun _ HS => (yl_move rfl (HF.ev rfl))) ?_; clear HF a; intro a HF
    refine wq_y rfl HF rfl rfl (fun _ HS => (yl_nilCheck rfl (HF.ev rfl))) ?_; clear HF a; intro a HF
    refine wq_y rfl HF rfl rfl (fun _ HS => (yl_fieldAddr (j := 0) rfl (HF.ev rfl) (by kernel_rfl))) ?_; clear HF a; intro a HF
    refine wq_y rfl HF rfl rfl (fun _ HS => (yl_load (v := .slice ab n cb) rfl (HF.ev rfl) (((HS.box 0 rfl).cell 0).trans rfl) (by kernel_rfl))) ?_; clear HF a; intro a HF
    refine wq_y rfl HF rfl rfl (fun _ HS => (yl_move rfl (HF.ev rfl))) ?_; clear HF a; intro a HF
    refine wq_y rfl HF rfl rfl (fun _ HS => (yl_mulI rfl (HF.ev rfl) (HF.ev rfl) (i64w (by omega)))) ?_; clear HF a; intro a HF
    refine wq_y rfl HF rfl rfl (fun _ HS => (yl_addI rfl (HF.ev rfl) (HF.ev rfl) (i64w (by omega)))) ?_; clear HF a; intro a HF
    refine wq_y rfl HF rfl rfl (fun _ HS => (yl_move rfl (HF.ev rfl))) ?_; clear HF a; intro a HF
    refine wq_y rfl HF rfl rfl (fun _ HS => (yl_nilCheck rfl (HF.ev rfl))) ?_; clear HF a; intro a HF
    refine wq_y rfl HF rfl rfl (fun _ HS => (yl_fieldAddr (j := 0) rfl (HF.ev rfl) (by kernel_rfl))) ?_; clear HF a; intro a HF
    refine wq_y rfl HF rfl rfl (fun _ HS => (yl_load (v := .slice ab n cb) rfl (HF.ev rfl) (((HS.box 0 rfl).cell 0).trans rfl) (by kernel_rfl))) ?_; clear HF a; intro a HF
    refine wq_y rfl HF rfl rfl (fun _ HS => (yl_lenL (e := 5) (size := 1) rfl (HF.ev rfl) (by kernel_rfl))) ?_; clear HF a; intro a HF
    refine wq_y rfl HF rfl rfl (fun _ HS => (yl_remI rfl (HF.ev rfl) (HF.ev rfl) (by omega) (rem_pos (by omega) (by omega)))) ?_; clear HF a; intro a HF
    refine wq_y rfl HF rfl rfl (fun _ HS => (yl_indexAddrR (e := 5) (i := i2) (size := 1) rfl (HF.ev rfl) (HF.ev rfl) (by kernel_rfl) (by omega) (by omega) (RB.out.ao i2 (by omega)))) ?_; clear HF a; intro a HF
    refine wq_y rfl HF rfl rfl (fun _ HS => (yl_load (v := .int .u8 ((bs.getD i2 0).toNat : Int)) rfl (HF.ev rfl) (RB.out.elem1 HS (get_getD (xs := bs) (j := i2) (d := 0) (by omega)) rfl) (by kernel_rfl))) ?_; clear HF a; intro a HF
    refine wq_y rfl HF rfl rfl (fun _ HS => (yl_convU8 (n := ((bs.getD i2 0).toNat : Int)) rfl (HF.ev rfl) (u8_b _) (by kernel_rfl) (by kernel_rfl))) ?_; clear HF a; intro a HF
    refine wq_y rfl HF rfl rfl (fun _ HS => (yl_mulI rfl (HF.ev rfl) (HF.ev rfl) (i64w (by omega)))) ?_; clear HF a; intro a HF
    refine wq_y rfl HF rfl rfl (fun _ HS => (yl_addI rfl (HF.ev rfl) (HF.ev rfl) (i64w (by omega)))) ?_; clear HF a; intro a HF
    refine wq_y rfl HF rfl rfl (fun _ HS => (yl_move rfl (HF.ev rfl))) ?_; clear HF a; intro a HF
    refine wq_y rfl HF rfl rfl (fun _ HS => (yl_mulI rfl (HF.ev rfl) (HF.ev rfl) (i64w (by omega)))) ?_; clear HF a; intro a HF
    refine wq_y rfl HF rfl rfl (fun _ HS => (yl_addI rfl (HF.ev rfl) (HF.ev rfl) (i64w (by omega)))) ?_; clear HF a; intro a HF
    refine wq_y rfl HF rfl rfl (fun _ HS => (yl_move rfl (HF.ev rfl))) ?_; clear HF a; intro a HF
    refine wq_y rfl HF rfl rfl (fun _ HS => (yl_move rfl (HF.ev rfl))) ?_; clear HF a; intro a HF
    refine wq_y rfl HF rfl rfl (fun _ HS => (yl_nilCheck rfl (HF.ev rfl))) ?_; clear HF a; intro a HF
    refine wq_y rfl HF rfl rfl (fun _ HS => (yl_fieldAddr (j := 0) rfl (HF.ev rfl) (by kernel_rfl))) ?_; clear HF a; intro a HF
    refine wq_y rfl HF rfl rfl (fun _ HS => (yl_load (v := .slice ab n cb) rfl (HF.ev rfl) (((HS.box 0 rfl).cell 0).trans rfl) (by kernel_rfl))) ?_; clear HF a; intro a HF
    refine wq_y rfl HF rfl rfl (fun _ HS => (yl_lenL (e := 5) (size := 1) rfl (HF.ev rfl) (by kernel_rfl))) ?_; clear HF a; intro a HF
    refine wq_y rfl HF rfl rfl (fun _ HS => (yl_quoI rfl (HF.ev rfl) (HF.ev rfl) (by omega) (quo_pos (by omega) (by omega) (by omega)))) ?_; clear HF a; intro a HF
    refine wq_y rfl HF rfl rfl (fun _ HS => (yl_mulI rfl (HF.ev rfl) (HF.ev rfl) (i64w (by omega)))) ?_; clear HF a; intro a HF
    refine wq_y rfl HF rfl rfl (fun _ HS => (yl_addI rfl (HF.ev rfl) (HF.ev rfl) (i64w (by omega)))) ?_; clear HF a; intro a HF
    refine wq_y rfl HF rfl rfl (fun _ HS => (yl_assign rfl (HF.ev rfl))) ?_; clear HF a; intro a HF
    refine wpQuiet_nil ?_; intro w2 HS; replace HS := Bx.mk HS
    refine ex_then ?_
    refine wp_seq ?_
    obtain ⟨xn, hxn⟩ : ∃ xn : Nat, ((((((bs.getD i1 0).toNat : Int) * 131) + (((bs.getD i2 0).toNat : Int) * 1117)) + ((p : Int) * 29)) + (((p : Int) / (n : Int)) * 53)) = (xn : Int) := ⟨((((((bs.getD i1 0).toNat : Int) * 131) + (((bs.getD i2 0).toNat : Int) * 1117)) + ((p : Int) * 29)) + (((p : Int) / (n : Int)) * 53)).toNat, by omega⟩; have hxb : xn < 1000000000000 := (by omega); rw [hxn] at HF
    refine wp_region_lit ?_
    refine wl_mv HF rfl rfl rfl rfl rfl ?_; clear HF a; intro a HF
    refine wl_mv HF rfl rfl rfl rfl rfl ?_; clear HF a; intro a HF
    refine wl_y rfl HF rfl rfl (yl_quoI rfl (HF.ev rfl) (HF.ev rfl) (by omega) (quo_pos (by omega) (by omega) (by omega))) ?_; clear HF a; intro a HF
    refine wl_y rfl HF rfl rfl (yl_xorI (m := xn) (n := (xn / 64)) rfl (HF.ev rfl) (HF.ev rfl) (by omega) (by omega)) ?_; clear HF a; intro a HF
    refine wl_as HF rfl rfl rfl rfl rfl ?_; clear HF a; intro a HF
    refine wl_ne ?_
    refine wp_sr ?_
    refine wl_mv HF rfl rfl rfl rfl rfl ?_; clear HF a; intro a HF
    refine wl_mv HF rfl rfl rfl rfl rfl ?_; clear HF a; intro a HF
    refine wl_y rfl HF rfl rfl (yl_remI rfl (HF.ev rfl) (HF.ev rfl) (by omega) (rem_pos (by omega) (by omega))) ?_; clear HF a; intro a HF
    refine wl_as HF rfl rfl rfl rfl rfl ?_; clear HF a; intro a HF
    refine wl_ne ?_
    refine wp_ret ?_
    refine bp_ret1 HF Tryz.results94 (HF.res rfl) ?_
    have e8 := Int.emod_nonneg (((xn ^^^ (xn / 64) : Nat) : Int)) (show m ≠ 0 by omega); have e9 := Int.emod_lt_of_pos (((xn ^^^ (xn / 64) : Nat) : Int)) (show 0 < m by omega)
    exact ⟨_, rfl, by omega, by omega, St.rdMk (p := p + 1) (by omega) HS.out⟩

theorem pickN (w0 w : World) (rb : Nat) (ab : Option Addr) (n cb : Nat) (bs : List UInt8) (hn : n ≤ 2000) (hR : Rd encB 1 w0 ab n bs) (B : Nat) (hB : B ≤ 950000) (m : Int) (hm : m ≤ 1000000) (F : List Asr) (hS : St w0 (rdA rb ab n cb B :: F) w) : Calls Tryz.prog 94 #[.pointer (some ⟨rb, 0, none⟩), .int .i64 m] w fun e w' => ∃ v : Nat, e = .returned (.int .i64 (v : Int)) ∧ ((v : Int) < m ∨ v = 0) ∧ St w0 (rdA rb ab n cb (B + 1) :: F) w' := by
  refine (pick_any w0 w rb ab n cb bs hn hR B (by omega) m hm F hS).mono ?_
  rintro e w' ⟨v, rfl, h0, h1, hs⟩
  obtain ⟨u, rfl⟩ := Int.eq_ofNat_of_zero_le h0
  exact ⟨u, rfl, by omega, hs⟩

end Go.Proofs.YtoaopmkbfifhaaaGreatDoor

/- Numbers read from texts: walked. -/
namespace Go.Proofs.YtoaopmkbfifhaaaGreatDoor
set_option linter.unusedVariables false
set_option linter.unusedSimpArgs false
set_option maxHeartbeats 1000000
set_option maxRecDepth 100000
open Go.RowKit

section
variable {P : Program} {w : World} {o : Oper} {a : Act} {t t' : TypeId} {x y : Operand}
theorem yl_neNil (ho : o.op = .binOp .neq t x (.const .nilIface) t') (hu : P.underlying t = some (.interface (P.methodsAt t))) (hx : a.eval x = .nilIface) : Yl P w o a (.bool false) := by
  have hy : a.eval (.const .nilIface) = .nilIface := rfl
  simp [Yl, execOp, ho, hx, hy, eqGuard, binOp, run_equal_nil_nil w t hu]
theorem yl_neErr (ho : o.op = .binOp .neq t x (.const .nilIface) t') (hu : P.underlying t = some (.interface (P.methodsAt t))) {te : TypeId} {pe : Value} (hx : a.eval x = .iface te pe) : Yl P w o a (.bool true) := by
  have hy : a.eval (.const .nilIface) = .nilIface := rfl
  simp [Yl, execOp, ho, hx, hy, eqGuard, binOp, run_equal_held_nil w t te pe hu]
end
/-- The variable of the library that tells of a bad number holds an error. -/
def ErrP (w : World) : Prop := ∃ te pe, w.cell? ⟨2, 0, none⟩ = some (.iface te pe)
theorem ErrP.below {w w' : World} (h : ErrP w) (hb : Below w.heap.size w w') : ErrP w' := by
  obtain ⟨te, pe, hm⟩ := h
  have hlt : 2 < w.heap.size := World.block_lt_of_cell? w _ hm
  exact ⟨te, pe, (hb.cell (p := ⟨2, 0, none⟩) hlt).trans hm⟩
theorem atoi_ways (s : ByteArray) (w : World) (hl : s.size ≤ 18) (hE : ErrP w) : Calls Tryz.prog 167 #[.string s] w fun e w' => (∃ n, Go.Lib.atoi s.data.toList = some n ∧ e = .returned (.tuple #[.int .i64 n, .nilIface]) ∧ Below w.heap.size w w') ∨ (∃ te pe, Go.Lib.atoi s.data.toList = none ∧ e = .returned (.tuple #[.int .i64 0, .iface te pe]) ∧ Below w.heap.size w w') := by
  cases h : Go.Lib.atoi s.data.toList with
  | some n =>
    refine (Any.strconv_Atoi layAtoi s n hl h w).mono ?_
    rintro e w' ⟨rfl, t, rfl⟩
    exact .inl ⟨n, rfl, rfl, Go.Lib.bytesWorld_below _ _ _⟩
  | none =>
    obtain ⟨te, pe, hv⟩ := hE
    refine (Any.strconv_Atoi_err layAtoiC s hl h (.iface te pe) w hv (.inr ⟨te, pe, rfl⟩)).mono ?_
    rintro e w' ⟨N, rfl, _, _, hb⟩
    exact .inr ⟨_, _, rfl, rfl, hb⟩
theorem implNumGet_any (s : ByteArray) (w0 : World) (hT : TabP w0) (hE : ErrP w0) : Calls Tryz.prog 143 #[.string s] w0 fun e w' => ((∃ n : Nat, numG s = some n ∧ e = .returned (.tuple #[.int .i64 (n : Int), .bool true]) ∧ Below w0.heap.size w0 w') ∨ (numG s = none ∧ e = .returned (.tuple #[.int .i64 0, .bool false]) ∧ Below w0.heap.size w0 w')) := by
 have HT := Bx.mk hT; clear hT
 have HE := Bx.mk hE; clear hE
 have HS := Bx.mk (St.start w0)
 refine wc_enter Tryz.func143 rfl Tryz.ntmps143 [(0, .string s)] ⟨rfl, trivial⟩ rfl ?_; intro a HF
 refine wp_sr ?_
 refine wl_as HF rfl rfl rfl rfl rfl ?_; clear HF a; intro a HF
 refine wl_as HF rfl rfl rfl rfl rfl ?_; clear HF a; intro a HF
 refine wl_ne ?_
 refine wp_seq ?_
 refine wp_sr ?_
 refine wl_mv HF rfl rfl rfl rfl rfl ?_; clear HF a; intro a HF
 refine wl_y rfl HF rfl rfl (yl_lenS rfl (HF.ev rfl) (by kernel_rfl)) ?_; clear HF a; intro a HF
 refine wl_y rfl HF rfl rfl (yl_gtrI rfl (HF.ev rfl) (HF.ev rfl)) ?_; clear HF a; intro a HF
 refine wl_ne ?_
 refine HF.cases 8 rfl (fun cc1 HF1 => ?_) (fun cc1 HF1 => ?_)
 ·clear HF; have HF := HF1; clear HF1
  have dcc1 := of_decide_eq_true cc1
  refine wc_true HF rfl ?_
  refine wp_sr ?_
  refine wl_as HF rfl rfl rfl rfl rfl ?_; clear HF a; intro a HF
  refine wl_as HF rfl rfl rfl rfl rfl ?_; clear HF a; intro a HF
  refine wl_ne ?_
  refine wp_ret ?_
  refine ex_then_ret ?_
  refine bp_ret2 HF Tryz.results143 (HF.res rfl) (HF.res rfl) ?_
  exact .inr ⟨numG_no fun m hm e => by have := decB_9 hm; rw [← e] at this; omega, rfl, HS.out.bel⟩
 ·clear HF; have HF := HF1; clear HF1
  have dcc1 := of_decide_eq_false cc1
  refine wc_false HF rfl ?_
  refine wp_skip ?_
  refine ex_then ?_
  refine wp_sr ?_
  refine wl_mv HF rfl rfl rfl rfl rfl ?_; clear HF a; intro a HF
  refine wl_call rfl HF rfl (enter_of Tryz.func167 (by kernel_rfl) rfl) (args := #[.string s]) rfl (atoi_ways s _ (by omega) (HE.out.below HS.out.bel)) rfl rfl ?_
  rintro _ w1 (⟨n, hat, rfl, hb⟩ | ⟨te, pe, hat, rfl, hb⟩)
  ·skip
   refine ⟨_, rfl, ?_⟩; replace HS := Bx.mk (HS.out.later hb); clear hb HF; clear a; intro a HF
   refine wl_mv HF rfl rfl rfl rfl rfl ?_; clear HF a; intro a HF
   refine wl_y rfl HF rfl rfl (yl_extract rfl (HF.ev rfl) rfl) ?_; clear HF a; intro a HF
   refine wl_y rfl HF rfl rfl (yl_extract rfl (HF.ev rfl) rfl) ?_; clear HF a; intro a HF
   refine wl_as HF rfl rfl rfl rfl rfl ?_; clear HF a; intro a HF
   refine wl_as HF rfl rfl rfl rfl rfl ?_; clear HF a; intro a HF
   refine wl_ne ?_
   refine wp_seq ?_
   refine wp_sr ?_
   refine wl_mv HF rfl rfl rfl rfl rfl ?_; clear HF a; intro a HF
   refine wl_y rfl HF rfl rfl (yl_neNil rfl (by kernel_rfl) (HF.ev rfl)) ?_; clear HF a; intro a HF
   refine wl_mv HF rfl rfl rfl rfl rfl ?_; clear HF a; intro a HF
   refine wl_yg HF rfl rfl rfl rfl rfl (yl_move rfl (HF.ev rfl)) ?_; clear HF a; intro a HF
   refine wl_callBg HF rfl rfl rfl rfl (enter_of Tryz.func80 (by kernel_rfl) rfl) (args := #[.int .i64 n]) rfl (v := .string (numB n)) (numPutI_any n _ (HT.out.below HS.out.bel)) rfl rfl HS.out ?_; clear HF HS a; intro w2 a HS HF; replace HS := Bx.mk HS
   refine wl_yg HF rfl rfl rfl rfl rfl (yl_move rfl (HF.ev rfl)) ?_; clear HF a; intro a HF
   refine wl_yg HF rfl rfl rfl rfl rfl (yl_neqS rfl (HF.ev rfl) (HF.ev rfl)) ?_; clear HF a; intro a HF
   refine wl_y rfl HF rfl rfl (yl_pick_f rfl (HF.ev rfl) (HF.ev rfl)) ?_; clear HF a; intro a HF
   refine wl_ne ?_
   refine HF.cases 21 rfl (fun cc2 HF1 => ?_) (fun cc2 HF1 => ?_)
   ·clear HF; have HF := HF1; clear HF1
    refine wc_true HF rfl ?_
    refine wp_sr ?_
    refine wl_as HF rfl rfl rfl rfl rfl ?_; clear HF a; intro a HF
    refine wl_as HF rfl rfl rfl rfl rfl ?_; clear HF a; intro a HF
    refine wl_ne ?_
    refine wp_ret ?_
    refine ex_then_ret ?_
    refine bp_ret2 HF Tryz.results143 (HF.res rfl) (HF.res rfl) ?_
    exact .inr ⟨numG_no fun m hm e => by rw [e, atoi_dec] at hat; obtain rfl := Option.some.inj hat; rw [numB_in (by omega) (by omega), Int.toNat_natCast, ← e] at cc2; simp at cc2, rfl, HS.out.bel⟩
   ·clear HF; have HF := HF1; clear HF1
    refine wc_false HF rfl ?_
    refine wp_skip ?_
    refine ex_then ?_
    refine wp_sr ?_
    refine wl_mv HF rfl rfl rfl rfl rfl ?_; clear HF a; intro a HF
    refine wl_as HF rfl rfl rfl rfl rfl ?_; clear HF a; intro a HF
    refine wl_as HF rfl rfl rfl rfl rfl ?_; clear HF a; intro a HF
    refine wl_ne ?_
    refine wp_ret ?_
    refine bp_ret2 HF Tryz.results143 (HF.res rfl) (HF.res rfl) ?_
    obtain ⟨m, rfl, hg⟩ := numG_yes hat (bytes_toList (by simpa using cc2))
    exact .inl ⟨m, hg, rfl, HS.out.bel⟩
  ·skip
   refine ⟨_, rfl, ?_⟩; replace HS := Bx.mk (HS.out.later hb); clear hb HF; clear a; intro a HF
   refine wl_mv HF rfl rfl rfl rfl rfl ?_; clear HF a; intro a HF
   refine wl_y rfl HF rfl rfl (yl_extract rfl (HF.ev rfl) rfl) ?_; clear HF a; intro a HF
   refine wl_y rfl HF rfl rfl (yl_extract rfl (HF.ev rfl) rfl) ?_; clear HF a; intro a HF
   refine wl_as HF rfl rfl rfl rfl rfl ?_; clear HF a; intro a HF
   refine wl_as HF rfl rfl rfl rfl rfl ?_; clear HF a; intro a HF
   refine wl_ne ?_
   refine wp_seq ?_
   refine wp_sr ?_
   refine wl_mv HF rfl rfl rfl rfl rfl ?_; clear HF a; intro a HF
   refine wl_y rfl HF rfl rfl (yl_neErr rfl (by kernel_rfl) (HF.ev rfl)) ?_; clear HF a; intro a HF
   refine wl_mv HF rfl rfl rfl rfl rfl ?_; clear HF a; intro a HF
   refine wl_skip HF rfl rfl rfl rfl rfl rfl ?_; clear HF a; intro a HF
   refine wl_skip HF rfl rfl rfl rfl rfl rfl ?_; clear HF a; intro a HF
   refine wl_skip HF rfl rfl rfl rfl rfl rfl ?_; clear HF a; intro a HF
   refine wl_skip HF rfl rfl rfl rfl rfl rfl ?_; clear HF a; intro a HF
   refine wl_y rfl HF rfl rfl (yl_pick_t rfl (HF.ev rfl) (HF.ev rfl)) ?_; clear HF a; intro a HF
   refine wl_ne ?_
   refine wc_true HF rfl ?_
   refine wp_sr ?_
   refine wl_as HF rfl rfl rfl rfl rfl ?_; clear HF a; intro a HF
   refine wl_as HF rfl rfl rfl rfl rfl ?_; clear HF a; intro a HF
   refine wl_ne ?_
   refine wp_ret ?_
   refine ex_then_ret ?_
   refine bp_ret2 HF Tryz.results143 (HF.res rfl) (HF.res rfl) ?_
   exact .inr ⟨numG_no fun m hm e => by rw [e, atoi_dec] at hat; exact absurd hat (by simp), rfl, HS.out.bel⟩

end Go.Proofs.YtoaopmkbfifhaaaGreatDoor
