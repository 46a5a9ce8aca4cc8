/- A part of the proof in YtfijfjjleelphaaOneY17. -/
import Derived.ArgAppend
import Derived.BigQuiet
import Derived.BigRegion
import Derived.Deep.AppendLies
import Derived.Deep.MidRow
import Derived.Deep.Quiet
import Derived.Deep.QuietTactic
import Derived.Deep.RegionHeld3
import Derived.Deep.RegionWith
import Derived.IntWalk
import Derived.Laws.BytesArg
import Derived.Lib.Hide
import Derived.Lib.LazyBuf
import Derived.Lib.SlBytesConst
import Derived.LoopIn
import Derived.LoopN
import Derived.LoopNIn
import Derived.Orders
import Derived.OrdersHeld
import Derived.OwnWalkIn
import Derived.RangeFuncLeaves
import Derived.RangeFuncNested
import Derived.Shelf.Abstract
import Derived.Still
import Derived.StillTail
import Derived.StillTailTactics
import Derived.TacticsInMore
import Derived.Test.YtfijfjjleelphaaRows
import Derived.WalkKit
import Derived.WalkLawsBesides
import Derived.WalkSpells
import Derived.Test.YtfijfjjleelphaaOneY15
/- FnRaidOne: the law, walked. -/
namespace Go.Proofs.Ytfijfjjleelphaa
set_option maxHeartbeats 1000000
set_option maxRecDepth 100000
open Go.RowKit

theorem map_flush2 (ds : List DiskD) : (ds.map DiskD.flush).map DiskD.flush = ds.map DiskD.flush := by rw [List.map_map]; exact List.map_congr_left fun d _ => flush_twice d
theorem none_gone {ds es : List DiskD} (h : lostN es 3 = lostN ds 3) (hl : lostN ds 3 = 0) {i : Nat} (hi : i < 3) : (es.getD i default).fGone = false := by
  rw [hl, lostN_three] at h
  cases h0 : (es.getD 0 default).fGone <;> cases h1 : (es.getD 1 default).fGone <;> cases h2 : (es.getD 2 default).fGone <;> rw [h0, h1, h2] at h <;> simp at h
  rcases (by omega : i = 0 ∨ i = 1 ∨ i = 2) with rfl | rfl | rfl
  · exact h0
  · exact h1
  · exact h2
theorem okR_set {ds : List DiskD} (h : okR ds = true) {d : DiskD} (hd : d.ok = true) {i : Nat} : okR (ds.set i d) = true := by
  obtain ⟨h1, h2⟩ := okR_at h
  refine okR_of (by rw [List.length_set]; exact h1) fun k hk => ?_
  by_cases hi : i < ds.length
  · rw [set_get hi]
    split
    · exact hd
    · exact h2 k hk
  · rw [List.set_eq_of_length_le (by omega)]; exact h2 k hk
theorem cell_le {d : DiskD} (h : d.ok = true) (m : Nat) : (d.fCells.getD m ByteArray.empty).size ≤ 200 := by
  by_cases hm : m < d.fCells.length
  · unfold DiskD.ok at h
    simp only [Bool.and_eq_true, decide_eq_true_eq] at h
    have := allB_at h.2.2.2.1 hm
    unfold cellB at this
    rw [Bool.and_eq_true, decide_eq_true_eq] at this
    exact this.1
  · rw [show d.fCells.getD m ByteArray.empty = ByteArray.empty by simp [List.getD, List.getElem?_eq_none (Nat.le_of_not_lt hm)]]; exact Nat.zero_le _
theorem rds_range {g o : Nat} {ps : List HD} {w : World} (h : rdsP (some ⟨g, o, none⟩) ps w) {k : Nat} (hk : k < ps.length) : w.rangeAt g (o + k * 3) (ps.getD k default).cells := by
  obtain ⟨b, off, x, hx, e, _, hr⟩ := h.1.at_ k hk
  simp only [Option.some.injEq, Addr.mk.injEq, and_true] at e
  obtain ⟨rfl, rfl⟩ := e
  rw [get_some hk] at hx
  obtain rfl := Option.some.inj hx
  exact hr
theorem spoil_fin {nn : Nat} {j old c : ByteArray} (h : nn = if j = c then 0 else 1) (ho : old = c) : (((nn : Int) == 0) == (j.toList == old.toList)) = true := by
  subst ho
  by_cases e : j = old
  · rw [if_pos e] at h; subst h; subst e; simp
  · rw [if_neg e] at h; subst h
    cases hx : (j.toList == old.toList)
    · rfl
    · exact absurd (bytes_toList hx) e

theorem fnRaidOne_walk (w0 : World) (ab : Option Addr) (n0 cb : Nat) (bs : List UInt8) (hcap : n0 ≤ cb) (hR : Rd encB 1 w0 ab n0 bs) (am : Option Addr) (n1 cm : Nat) (bs1 : List UInt8) (hcap1 : n1 ≤ cm) (hR1 : Rd encB 1 w0 am n1 bs1) : Calls Try.prog 4 #[.slice ab n0 cb, .slice am n1 cm] w0 fun e w' => e = .returned (.bool true) ∧ Below w0.heap.size w0 w' := by
 have HS := Bx.mk (St.start w0)
 refine wc_enter Try.func4 rfl Try.ntmps4 [(0, .slice ab n0 cb), (1, .slice am n1 cm)] ⟨rfl, rfl, trivial⟩ rfl ?_; intro a HF
 refine wp_sr ?_
 refine wl_as HF rfl rfl rfl rfl rfl ?_; clear HF a; intro a HF
 refine wl_ne ?_
 refine wp_seq ?_
 refine wp_sr ?_
 refine wl_mv HF rfl rfl rfl rfl rfl ?_; clear HF a; intro a HF
 refine wl_y rfl HF rfl rfl (yl_lenL (e := 5) (size := 1) rfl (HF.ev rfl) (by kernel_rfl)) ?_; clear HF a; intro a HF
 refine wl_y rfl HF rfl rfl (yl_gtrI rfl (HF.ev rfl) (HF.ev rfl)) ?_; clear HF a; intro a HF
 refine wl_mv HF rfl rfl rfl rfl rfl ?_; clear HF a; intro a HF
 refine HF.cases 33 rfl (fun cc1 HF1 => ?_) (fun cc1 HF1 => ?_)
 ·clear HF; have HF := HF1; clear HF1
  have dcc1 := of_decide_eq_true cc1
  refine wl_skip HF rfl rfl rfl rfl rfl rfl ?_; clear HF a; intro a HF
  refine wl_skip HF rfl rfl rfl rfl rfl rfl ?_; clear HF a; intro a HF
  refine wl_skip HF rfl rfl rfl rfl rfl rfl ?_; clear HF a; intro a HF
  refine wl_y rfl HF rfl rfl (yl_pick_t rfl (HF.ev rfl) (HF.ev rfl)) ?_; clear HF a; intro a HF
  refine wl_ne ?_
  refine wc_true HF rfl ?_
  refine wp_sr ?_
  refine wl_as HF rfl rfl rfl rfl rfl ?_; clear HF a; intro a HF
  refine wl_ne ?_
  refine wp_ret ?_
  refine ex_then_ret ?_
  refine bp_ret1 HF Try.results4 (HF.res rfl) ?_
  exact ⟨rfl, HS.out.bel⟩
 ·clear HF; have HF := HF1; clear HF1
  have dcc1 := of_decide_eq_false cc1
  refine wl_yg HF rfl rfl rfl rfl rfl (yl_move rfl (HF.ev rfl)) ?_; clear HF a; intro a HF
  refine wl_yg HF rfl rfl rfl rfl rfl (yl_lenL (e := 5) (size := 1) rfl (HF.ev rfl) (by kernel_rfl)) ?_; clear HF a; intro a HF
  refine wl_yg HF rfl rfl rfl rfl rfl (yl_gtrI rfl (HF.ev rfl) (HF.ev rfl)) ?_; clear HF a; intro a HF
  refine wl_y rfl HF rfl rfl (yl_pick_f rfl (HF.ev rfl) (HF.ev rfl)) ?_; clear HF a; intro a HF
  refine wl_ne ?_
  refine HF.cases 37 rfl (fun cc2 HF1 => ?_) (fun cc2 HF1 => ?_)
  ·clear HF; have HF := HF1; clear HF1
   have dcc2 := of_decide_eq_true cc2
   refine wc_true HF rfl ?_
   refine wp_sr ?_
   refine wl_as HF rfl rfl rfl rfl rfl ?_; clear HF a; intro a HF
   refine wl_ne ?_
   refine wp_ret ?_
   refine ex_then_ret ?_
   refine bp_ret1 HF Try.results4 (HF.res rfl) ?_
   exact ⟨rfl, HS.out.bel⟩
  ·clear HF; have HF := HF1; clear HF1
   have dcc2 := of_decide_eq_false cc2
   refine wc_false HF rfl ?_
   refine wp_skip ?_
   refine ex_then ?_
   refine wp_sr ?_
   refine wl_mv HF rfl rfl rfl rfl rfl ?_; clear HF a; intro a HF
   refine wl_call rfl HF rfl (enter_of Try.func9 (by kernel_rfl) rfl) (args := #[.slice ab n0 cb]) rfl (drawRaidWrite_any _ ab n0 cb bs hcap (by omega) (hR.below HS.out.bel)) rfl rfl ?_
   rintro _ w1 ⟨ao, co, ps, row, t, rfl, hpl, hpf, hr1, hr2, htz, hs⟩
   refine ⟨_, rfl, ?_⟩; replace HS := Bx.mk (HS.out.add hs); clear hs HF; clear a; intro a HF
   replace HS : Bx (St w0 ([holdsA (rdsP ao ps)]) _) := ⟨HS.out⟩
   refine wl_mv HF rfl rfl rfl rfl rfl ?_; clear HF a; intro a HF
   refine wl_y rfl HF rfl rfl (yl_extract rfl (HF.ev rfl) rfl) ?_; clear HF a; intro a HF
   refine wl_y rfl HF rfl rfl (yl_extract rfl (HF.ev rfl) rfl) ?_; clear HF a; intro a HF
   refine wl_y rfl HF rfl rfl (yl_extract rfl (HF.ev rfl) rfl) ?_; clear HF a; intro a HF
   refine wl_alloc rfl HF rfl rfl rfl (Z := [.slice none 0 0]) (by kernel_rfl) rfl HS.out ?_; clear HF HS a; intro a w2 b2 HF HS; replace HS := Bx.mk HS
   refine wl_storeBox rfl HF rfl rfl (HF.ev rfl) (HF.ev rfl) HS.out 0 rfl (cells_lit [.slice ao ps.length co] rfl rfl) (by kernel_rfl) ?_; clear HS; intro w3 HS; replace HS := Bx.mk HS
   have HS : Bx (St w0 ([boxA b2 1 25 (.agg #[.slice ao ps.length co]), holdsA (rdsP ao ps)]) _) := HS
   refine wl_as HF rfl rfl rfl rfl rfl ?_; clear HF a; intro a HF
   refine wl_as HF rfl rfl rfl rfl rfl ?_; clear HF a; intro a HF
   refine wl_ne ?_
   refine wp_sr ?_
   refine wl_y rfl HF rfl rfl (yl_loadR (cs := [.slice ao ps.length co]) rfl (HF.ev rfl) ((HS.out.box 0 rfl).sub 0 1) (by kernel_rfl)) ?_; clear HF a; intro a HF
   refine wl_mv HF rfl rfl rfl rfl rfl ?_; clear HF a; intro a HF
   refine wl_mv HF rfl rfl rfl rfl rfl ?_; clear HF a; intro a HF
   refine wl_call rfl HF rfl (enter_of Try.func10 (by kernel_rfl) rfl) (args := #[.agg #[.slice ao ps.length co], .int .i64 row, .string t]) rfl (implRaidWrite_any ao co ps _ (by omega) hpf (HS.out.holds 1 rfl) row t (by omega)) rfl rfl ?_
   rintro _ w4 (⟨hev, rfl, hs⟩ | ⟨ao1, cp1, qs1, hev, rfl, hs⟩)
   ·skip
    refine ⟨_, rfl, ?_⟩; replace HS := Bx.mk (HS.out.add hs); clear hs HF; clear a; intro a HF
    replace HS : Bx (St w0 ([boxA b2 1 25 (.agg #[.slice ao ps.length co]), holdsA (rdsP ao ps)]) _) := ⟨HS.out⟩
    refine wl_mv HF rfl rfl rfl rfl rfl ?_; clear HF a; intro a HF
    refine wl_y rfl HF rfl rfl (yl_extract rfl (HF.ev rfl) rfl) ?_; clear HF a; intro a HF
    refine wl_y rfl HF rfl rfl (yl_extract rfl (HF.ev rfl) rfl) ?_; clear HF a; intro a HF
    refine wl_alloc rfl HF rfl rfl rfl (Z := [.slice none 0 0]) (by kernel_rfl) rfl HS.out ?_; clear HF HS a; intro a w5 b4 HF HS; replace HS := Bx.mk HS
    refine wl_storeBox rfl HF rfl rfl (HF.ev rfl) (HF.ev rfl) HS.out 0 rfl (cells_lit [.slice none 0 0] rfl rfl) (by kernel_rfl) ?_; clear HS; intro w6 HS; replace HS := Bx.mk HS
    have HS : Bx (St w0 ([boxA b4 1 25 (.agg #[.slice none 0 0]), boxA b2 1 25 (.agg #[.slice ao ps.length co]), holdsA (rdsP ao ps)]) _) := HS
    refine wl_as HF rfl rfl rfl rfl rfl ?_; clear HF a; intro a HF
    refine wl_ne ?_
    refine wp_sr ?_
    refine wl_y rfl HF rfl rfl (yl_loadR (cs := [.slice ao ps.length co]) rfl (HF.ev rfl) ((HS.out.box 1 rfl).sub 0 1) (by kernel_rfl)) ?_; clear HF a; intro a HF
    refine wl_mv HF rfl rfl rfl rfl rfl ?_; clear HF a; intro a HF
    refine wl_mv HF rfl rfl rfl rfl rfl ?_; clear HF a; intro a HF
    refine wl_call rfl HF rfl (enter_of Try.func11 (by kernel_rfl) rfl) (args := #[.agg #[.slice ao ps.length co], .int .i64 row, .string t]) rfl (specRaidWrite_any ao co ps _ (by omega) hpf (HS.out.holds 2 rfl) row t (by omega)) rfl rfl ?_
    rintro _ w7 (⟨hev2, rfl, hs⟩ | ⟨ao9, cp9, qs9, hev2, rfl, hs⟩)
    ·skip
     refine ⟨_, rfl, ?_⟩; replace HS := Bx.mk (HS.out.add hs); clear hs HF; clear a; intro a HF
     replace HS : Bx (St w0 ([boxA b4 1 25 (.agg #[.slice none 0 0]), boxA b2 1 25 (.agg #[.slice ao ps.length co]), holdsA (rdsP ao ps)]) _) := ⟨HS.out⟩
     refine wl_mv HF rfl rfl rfl rfl rfl ?_; clear HF a; intro a HF
     refine wl_y rfl HF rfl rfl (yl_extract rfl (HF.ev rfl) rfl) ?_; clear HF a; intro a HF
     refine wl_y rfl HF rfl rfl (yl_extract rfl (HF.ev rfl) rfl) ?_; clear HF a; intro a HF
     refine wl_alloc rfl HF rfl rfl rfl (Z := [.slice none 0 0]) (by kernel_rfl) rfl HS.out ?_; clear HF HS a; intro a w8 b6 HF HS; replace HS := Bx.mk HS
     refine wl_storeBox rfl HF rfl rfl (HF.ev rfl) (HF.ev rfl) HS.out 0 rfl (cells_lit [.slice none 0 0] rfl rfl) (by kernel_rfl) ?_; clear HS; intro w9 HS; replace HS := Bx.mk HS
     have HS : Bx (St w0 ([boxA b6 1 25 (.agg #[.slice none 0 0]), boxA b4 1 25 (.agg #[.slice none 0 0]), boxA b2 1 25 (.agg #[.slice ao ps.length co]), holdsA (rdsP ao ps)]) _) := HS
     refine wl_as HF rfl rfl rfl rfl rfl ?_; clear HF a; intro a HF
     refine wl_ne ?_
     refine wp_seq ?_
     refine wp_sr ?_
     refine wl_mv HF rfl rfl rfl rfl rfl ?_; clear HF a; intro a HF
     refine wl_mv HF rfl rfl rfl rfl rfl ?_; clear HF a; intro a HF
     refine wl_y rfl HF rfl rfl (yl_neqBs rfl (HF.ev rfl) (HF.ev rfl) (by kernel_rfl)) ?_; clear HF a; intro a HF
     refine wl_mv HF rfl rfl rfl rfl rfl ?_; clear HF a; intro a HF
     refine wl_yg HF rfl rfl rfl rfl rfl (yl_loadR (cs := [.slice none 0 0]) rfl (HF.ev rfl) ((HS.out.box 1 rfl).sub 0 1) (by kernel_rfl)) ?_; clear HF a; intro a HF
     refine wl_yg HF rfl rfl rfl rfl rfl (yl_loadR (cs := [.slice none 0 0]) rfl (HF.ev rfl) ((HS.out.box 0 rfl).sub 0 1) (by kernel_rfl)) ?_; clear HF a; intro a HF
     refine wl_callBg HF rfl rfl rfl rfl (enter_of Try.func12 (by kernel_rfl) rfl) (args := #[.agg #[.slice none 0 0], .agg #[.slice none 0 0]]) rfl (v := .bool true) ((pfRaid_yes none none 0 0 0 [] [] rfl rfl _ (by decide) fitsL_nil (rds_nil _) (rds_nil _))) rfl rfl HS.out ?_; clear HF HS a; intro w10 a HS HF; replace HS := Bx.mk HS
     refine wl_yg HF rfl rfl rfl rfl rfl (yl_not rfl (HF.ev rfl)) ?_; clear HF a; intro a HF
     refine wl_y rfl HF rfl rfl (yl_pick_f rfl (HF.ev rfl) (HF.ev rfl)) ?_; clear HF a; intro a HF
     refine wl_mv HF rfl rfl rfl rfl rfl ?_; clear HF a; intro a HF
     refine wl_yg HF rfl rfl rfl rfl rfl (yl_move rfl (HF.ev rfl)) ?_; clear HF a; intro a HF
     refine wl_yg HF rfl rfl rfl rfl rfl (yl_not rfl (HF.ev rfl)) ?_; clear HF a; intro a HF
     refine wl_y rfl HF rfl rfl (yl_pick_f rfl (HF.ev rfl) (HF.ev rfl)) ?_; clear HF a; intro a HF
     refine wl_mv HF rfl rfl rfl rfl rfl ?_; clear HF a; intro a HF
     refine wl_skip HF rfl rfl rfl rfl rfl rfl ?_; clear HF a; intro a HF
     refine wl_skip HF rfl rfl rfl rfl rfl rfl ?_; clear HF a; intro a HF
     refine wl_skip HF rfl rfl rfl rfl rfl rfl ?_; clear HF a; intro a HF
     refine wl_y rfl HF rfl rfl (yl_pick_t rfl (HF.ev rfl) (HF.ev rfl)) ?_; clear HF a; intro a HF
     refine wl_ne ?_
     refine wc_true HF rfl ?_
     refine wp_sr ?_
     refine wl_mv HF rfl rfl rfl rfl rfl ?_; clear HF a; intro a HF
     refine wl_mv HF rfl rfl rfl rfl rfl ?_; clear HF a; intro a HF
     refine wl_y rfl HF rfl rfl (yl_eqlBs rfl (HF.ev rfl) (HF.ev rfl) (by kernel_rfl)) ?_; clear HF a; intro a HF
     refine wl_mv HF rfl rfl rfl rfl rfl ?_; clear HF a; intro a HF
     refine wl_yg HF rfl rfl rfl rfl rfl (yl_loadR (cs := [.slice none 0 0]) rfl (HF.ev rfl) ((HS.out.box 1 rfl).sub 0 1) (by kernel_rfl)) ?_; clear HF a; intro a HF
     refine wl_yg HF rfl rfl rfl rfl rfl (yl_loadR (cs := [.slice none 0 0]) rfl (HF.ev rfl) ((HS.out.box 0 rfl).sub 0 1) (by kernel_rfl)) ?_; clear HF a; intro a HF
     refine wl_callBg HF rfl rfl rfl rfl (enter_of Try.func12 (by kernel_rfl) rfl) (args := #[.agg #[.slice none 0 0], .agg #[.slice none 0 0]]) rfl (v := .bool true) ((pfRaid_yes none none 0 0 0 [] [] rfl rfl _ (by decide) fitsL_nil (rds_nil _) (rds_nil _))) rfl rfl HS.out ?_; clear HF HS a; intro w11 a HS HF; replace HS := Bx.mk HS
     refine wl_y rfl HF rfl rfl (yl_pick_t rfl (HF.ev rfl) (HF.ev rfl)) ?_; clear HF a; intro a HF
     refine wl_as HF rfl rfl rfl rfl rfl ?_; clear HF a; intro a HF
     refine wl_ne ?_
     refine wp_ret ?_
     refine ex_then_ret ?_
     refine bp_ret1 HF Try.results4 (HF.res rfl) ?_
     exact ⟨rfl, HS.out.bel⟩
    ·skip
     exact absurd (hev2.symm.trans hev) (by simp)
   ·skip
    obtain ⟨k1, k2, k3, k4, k5, k6, k7, k8, k9⟩ := write_cols hev; rw [dsOf_len] at k5 k6; have hf1 : fitsL qs1 := okR_fits k4
    have hrb := inB_bounds k2; obtain ⟨m, rfl⟩ : ∃ m : Nat, row = (m : Int) := ⟨row.toNat, by omega⟩; obtain ⟨p1, p2, p3, p4⟩ := ptr_written k2 k3; have hsb := inB_bounds k3
    refine ⟨_, rfl, ?_⟩; replace HS := Bx.mk (HS.out.add (raid_holdG rfl hs)); clear hs HF; clear a; intro a HF
    replace HS : Bx (St w0 ([holdsA (rdsP ao1 qs1), boxA b2 1 25 (.agg #[.slice ao ps.length co]), holdsA (rdsP ao ps)]) _) := ⟨HS.out⟩
    refine wl_mv HF rfl rfl rfl rfl rfl ?_; clear HF a; intro a HF
    refine wl_y rfl HF rfl rfl (yl_extract rfl (HF.ev rfl) rfl) ?_; clear HF a; intro a HF
    refine wl_y rfl HF rfl rfl (yl_extract rfl (HF.ev rfl) rfl) ?_; clear HF a; intro a HF
    refine wl_alloc rfl HF rfl rfl rfl (Z := [.slice none 0 0]) (by kernel_rfl) rfl HS.out ?_; clear HF HS a; intro a w12 b7 HF HS; replace HS := Bx.mk HS
    refine wl_storeBox rfl HF rfl rfl (HF.ev rfl) (HF.ev rfl) HS.out 0 rfl (cells_lit [.slice ao1 qs1.length cp1] rfl rfl) (by kernel_rfl) ?_; clear HS; intro w13 HS; replace HS := Bx.mk HS
    have HS : Bx (St w0 ([boxA b7 1 25 (.agg #[.slice ao1 qs1.length cp1]), holdsA (rdsP ao1 qs1), boxA b2 1 25 (.agg #[.slice ao ps.length co]), holdsA (rdsP ao ps)]) _) := HS
    refine wl_as HF rfl rfl rfl rfl rfl ?_; clear HF a; intro a HF
    refine wl_ne ?_
    refine wp_sr ?_
    refine wl_y rfl HF rfl rfl (yl_loadR (cs := [.slice ao ps.length co]) rfl (HF.ev rfl) ((HS.out.box 2 rfl).sub 0 1) (by kernel_rfl)) ?_; clear HF a; intro a HF
    refine wl_mv HF rfl rfl rfl rfl rfl ?_; clear HF a; intro a HF
    refine wl_mv HF rfl rfl rfl rfl rfl ?_; clear HF a; intro a HF
    refine wl_call rfl HF rfl (enter_of Try.func11 (by kernel_rfl) rfl) (args := #[.agg #[.slice ao ps.length co], .int .i64 (m : Int), .string t]) rfl (specRaidWrite_any ao co ps _ (by omega) hpf (HS.out.holds 3 rfl) (m : Int) t (by omega)) rfl rfl ?_
    rintro _ w14 (⟨hev2, rfl, hs⟩ | ⟨ao9, cp9, qs9, hev2, rfl, hs⟩)
    ·skip
     exact absurd (hev2.symm.trans hev) (by simp)
    ·skip
     have hq9 : dsOf qs9 = dsOf qs1 := Option.some.inj (hev2.symm.trans hev)
     refine ⟨_, rfl, ?_⟩; replace HS := Bx.mk (HS.out.add (raid_holdG rfl hs)); clear hs HF; clear a; intro a HF
     replace HS : Bx (St w0 ([holdsA (rdsP ao9 qs9), boxA b7 1 25 (.agg #[.slice ao1 qs1.length cp1]), holdsA (rdsP ao1 qs1), boxA b2 1 25 (.agg #[.slice ao ps.length co]), holdsA (rdsP ao ps)]) _) := ⟨HS.out⟩
     refine wl_mv HF rfl rfl rfl rfl rfl ?_; clear HF a; intro a HF
     refine wl_y rfl HF rfl rfl (yl_extract rfl (HF.ev rfl) rfl) ?_; clear HF a; intro a HF
     refine wl_y rfl HF rfl rfl (yl_extract rfl (HF.ev rfl) rfl) ?_; clear HF a; intro a HF
     refine wl_alloc rfl HF rfl rfl rfl (Z := [.slice none 0 0]) (by kernel_rfl) rfl HS.out ?_; clear HF HS a; intro a w15 b9 HF HS; replace HS := Bx.mk HS
     refine wl_storeBox rfl HF rfl rfl (HF.ev rfl) (HF.ev rfl) HS.out 0 rfl (cells_lit [.slice ao9 qs9.length cp9] rfl rfl) (by kernel_rfl) ?_; clear HS; intro w16 HS; replace HS := Bx.mk HS
     have HS : Bx (St w0 ([boxA b9 1 25 (.agg #[.slice ao9 qs9.length cp9]), holdsA (rdsP ao9 qs9), boxA b7 1 25 (.agg #[.slice ao1 qs1.length cp1]), holdsA (rdsP ao1 qs1), boxA b2 1 25 (.agg #[.slice ao ps.length co]), holdsA (rdsP ao ps)]) _) := HS
     refine wl_as HF rfl rfl rfl rfl rfl ?_; clear HF a; intro a HF
     refine wl_ne ?_
     refine wp_seq ?_
     refine wp_sr ?_
     refine wl_mv HF rfl rfl rfl rfl rfl ?_; clear HF a; intro a HF
     refine wl_mv HF rfl rfl rfl rfl rfl ?_; clear HF a; intro a HF
     refine wl_y rfl HF rfl rfl (yl_neqBs rfl (HF.ev rfl) (HF.ev rfl) (by kernel_rfl)) ?_; clear HF a; intro a HF
     refine wl_mv HF rfl rfl rfl rfl rfl ?_; clear HF a; intro a HF
     refine wl_yg HF rfl rfl rfl rfl rfl (yl_loadR (cs := [.slice ao1 qs1.length cp1]) rfl (HF.ev rfl) ((HS.out.box 2 rfl).sub 0 1) (by kernel_rfl)) ?_; clear HF a; intro a HF
     refine wl_yg HF rfl rfl rfl rfl rfl (yl_loadR (cs := [.slice ao9 qs9.length cp9]) rfl (HF.ev rfl) ((HS.out.box 0 rfl).sub 0 1) (by kernel_rfl)) ?_; clear HF a; intro a HF
     refine wl_callBg HF rfl rfl rfl rfl (enter_of Try.func12 (by kernel_rfl) rfl) (args := #[.agg #[.slice ao1 qs1.length cp1], .agg #[.slice ao9 qs9.length cp9]]) rfl (v := .bool true) ((pfRaid_yes ao1 ao9 cp1 cp9 _ qs1 qs9 rfl hq9 _ (by omega) hf1 (HS.out.holds 3 rfl) (HS.out.holds 1 rfl))) rfl rfl HS.out ?_; clear HF HS a; intro w17 a HS HF; replace HS := Bx.mk HS
     refine wl_yg HF rfl rfl rfl rfl rfl (yl_not rfl (HF.ev rfl)) ?_; clear HF a; intro a HF
     refine wl_y rfl HF rfl rfl (yl_pick_f rfl (HF.ev rfl) (HF.ev rfl)) ?_; clear HF a; intro a HF
     refine wl_mv HF rfl rfl rfl rfl rfl ?_; clear HF a; intro a HF
     refine wl_yg HF rfl rfl rfl rfl rfl (yl_move rfl (HF.ev rfl)) ?_; clear HF a; intro a HF
     refine wl_yg HF rfl rfl rfl rfl rfl (yl_not rfl (HF.ev rfl)) ?_; clear HF a; intro a HF
     refine wl_y rfl HF rfl rfl (yl_pick_f rfl (HF.ev rfl) (HF.ev rfl)) ?_; clear HF a; intro a HF
     refine wl_mv HF rfl rfl rfl rfl rfl ?_; clear HF a; intro a HF
     refine wl_yg HF rfl rfl rfl rfl rfl (yl_loadR (cs := [.slice ao ps.length co]) rfl (HF.ev rfl) ((HS.out.box 4 rfl).sub 0 1) (by kernel_rfl)) ?_; clear HF a; intro a HF
     refine wl_callBg HF rfl rfl rfl rfl (enter_of Try.func13 (by kernel_rfl) rfl) (args := #[.agg #[.slice ao ps.length co]]) rfl (v := .int .i64 (lostN (dsOf ps) 3 : Int)) ((pfLost_three ao co ps _ k5 (HS.out.holds 5 rfl))) rfl rfl HS.out ?_; clear HF HS a; intro w18 a HS HF; replace HS := Bx.mk HS
     refine wl_yg HF rfl rfl rfl rfl rfl (yl_gtrI rfl (HF.ev rfl) (HF.ev rfl)) ?_; clear HF a; intro a HF
     refine wl_y rfl HF rfl rfl (yl_pick_f rfl (HF.ev rfl) (HF.ev rfl)) ?_; clear HF a; intro a HF
     refine wl_ne ?_
     refine HF.cases 75 rfl (fun cc3 HF1 => ?_) (fun cc3 HF1 => ?_)
     ·clear HF; have HF := HF1; clear HF1
      have hlost := of_decide_eq_true cc3
      refine wc_true HF rfl ?_
      refine wp_sr ?_
      refine wl_mv HF rfl rfl rfl rfl rfl ?_; clear HF a; intro a HF
      refine wl_mv HF rfl rfl rfl rfl rfl ?_; clear HF a; intro a HF
      refine wl_y rfl HF rfl rfl (yl_eqlBs rfl (HF.ev rfl) (HF.ev rfl) (by kernel_rfl)) ?_; clear HF a; intro a HF
      refine wl_mv HF rfl rfl rfl rfl rfl ?_; clear HF a; intro a HF
      refine wl_yg HF rfl rfl rfl rfl rfl (yl_loadR (cs := [.slice ao1 qs1.length cp1]) rfl (HF.ev rfl) ((HS.out.box 2 rfl).sub 0 1) (by kernel_rfl)) ?_; clear HF a; intro a HF
      refine wl_yg HF rfl rfl rfl rfl rfl (yl_loadR (cs := [.slice ao9 qs9.length cp9]) rfl (HF.ev rfl) ((HS.out.box 0 rfl).sub 0 1) (by kernel_rfl)) ?_; clear HF a; intro a HF
      refine wl_callBg HF rfl rfl rfl rfl (enter_of Try.func12 (by kernel_rfl) rfl) (args := #[.agg #[.slice ao1 qs1.length cp1], .agg #[.slice ao9 qs9.length cp9]]) rfl (v := .bool true) ((pfRaid_yes ao1 ao9 cp1 cp9 _ qs1 qs9 rfl hq9 _ (by omega) hf1 (HS.out.holds 3 rfl) (HS.out.holds 1 rfl))) rfl rfl HS.out ?_; clear HF HS a; intro w19 a HS HF; replace HS := Bx.mk HS
      refine wl_y rfl HF rfl rfl (yl_pick_t rfl (HF.ev rfl) (HF.ev rfl)) ?_; clear HF a; intro a HF
      refine wl_as HF rfl rfl rfl rfl rfl ?_; clear HF a; intro a HF
      refine wl_ne ?_
      refine wp_ret ?_
      refine ex_then_ret ?_
      refine bp_ret1 HF Try.results4 (HF.res rfl) ?_
      exact ⟨rfl, HS.out.bel⟩
     ·clear HF; have HF := HF1; clear HF1
      have hlost := of_decide_eq_false cc3
      refine wc_false HF rfl ?_
      refine wp_skip ?_
      refine ex_then ?_
      refine wp_sr ?_
      refine wl_y rfl HF rfl rfl (yl_loadR (cs := [.slice ao1 qs1.length cp1]) rfl (HF.ev rfl) ((HS.out.box 2 rfl).sub 0 1) (by kernel_rfl)) ?_; clear HF a; intro a HF
      refine wl_call rfl HF rfl (enter_of Try.func15 (by kernel_rfl) rfl) (args := #[.agg #[.slice ao1 qs1.length cp1]]) rfl (raidFlush_any ao1 cp1 qs1 _ (by omega) hf1 (HS.out.holds 3 rfl) k4) rfl rfl ?_
      rintro _ w20 ⟨ao2, cp2, qs2, hq2, rfl, hs⟩
      have hok2 : okR (dsOf qs2) = true := by rw [hq2]; exact okR_flush k4
      have hf2 : fitsL qs2 := okR_fits hok2; have hl2 : qs2.length = 3 := by rw [← dsOf_len]; exact (okR_at hok2).1
      refine ⟨_, rfl, ?_⟩; replace HS := Bx.mk (HS.out.add (raid_holdG rfl hs)); clear hs HF; clear a; intro a HF
      replace HS : Bx (St w0 ([holdsA (rdsP ao2 qs2), boxA b9 1 25 (.agg #[.slice ao9 qs9.length cp9]), holdsA (rdsP ao9 qs9), boxA b7 1 25 (.agg #[.slice ao1 qs1.length cp1]), holdsA (rdsP ao1 qs1), boxA b2 1 25 (.agg #[.slice ao ps.length co]), holdsA (rdsP ao ps)]) _) := ⟨HS.out⟩
      refine wl_alloc rfl HF rfl rfl rfl (Z := [.slice none 0 0]) (by kernel_rfl) rfl HS.out ?_; clear HF HS a; intro a w21 b11 HF HS; replace HS := Bx.mk HS
      refine wl_storeBox rfl HF rfl rfl (HF.ev rfl) (HF.ev rfl) HS.out 0 rfl (cells_lit [.slice ao2 qs2.length cp2] rfl rfl) (by kernel_rfl) ?_; clear HS; intro w22 HS; replace HS := Bx.mk HS
      have HS : Bx (St w0 ([boxA b11 1 25 (.agg #[.slice ao2 qs2.length cp2]), holdsA (rdsP ao2 qs2), boxA b9 1 25 (.agg #[.slice ao9 qs9.length cp9]), holdsA (rdsP ao9 qs9), boxA b7 1 25 (.agg #[.slice ao1 qs1.length cp1]), holdsA (rdsP ao1 qs1), boxA b2 1 25 (.agg #[.slice ao ps.length co]), holdsA (rdsP ao ps)]) _) := HS
      refine wl_ne ?_
      refine wp_sr ?_
      refine wl_mv HF rfl rfl rfl rfl rfl ?_; clear HF a; intro a HF
      refine wl_y rfl HF rfl rfl (yl_lenL (e := 5) (size := 1) rfl (HF.ev rfl) (by kernel_rfl)) ?_; clear HF a; intro a HF
      refine wl_y rfl HF rfl rfl (yl_remI rfl (HF.ev rfl) (HF.ev rfl) (by omega) (rem_pos (by omega) (by omega))) ?_; clear HF a; intro a HF
      refine wl_as HF rfl rfl rfl rfl rfl ?_; clear HF a; intro a HF
      refine wl_ne ?_
      refine wp_sr ?_
      refine wl_mv HF rfl rfl rfl rfl rfl ?_; clear HF a; intro a HF
      refine wl_mv HF rfl rfl rfl rfl rfl ?_; clear HF a; intro a HF
      refine wl_y rfl HF rfl rfl (yl_lenL (e := 5) (size := 1) rfl (HF.ev rfl) (by kernel_rfl)) ?_; clear HF a; intro a HF
      refine wl_y rfl HF rfl rfl (yl_remI rfl (HF.ev rfl) (HF.ev rfl) (by omega) (rem_pos (by omega) (by omega))) ?_; clear HF a; intro a HF
      refine wl_y rfl HF rfl rfl (yl_sliceHi (e := 5) (size := 1) (k := n1 % 201) rfl (HF.ev rfl) (HF.ev rfl) (by kernel_rfl) (by omega) (by omega)) ?_; clear HF a; intro a HF
      refine wl_y rfl HF rfl rfl (yl_convBS (e1 := 5) rfl (HF.ev rfl) (by kernel_rfl) (by kernel_rfl) (by kernel_rfl) (xs := bs1.take (n1 % 201)) ((hR1.take (by rw [hR1.len]; exact Nat.mod_le _ _)).below HS.out.bel)) ?_; clear HF a; intro a HF
      refine wl_as HF rfl rfl rfl rfl rfl ?_; clear HF a; intro a HF
      refine wl_ne ?_
      refine wp_seq ?_
      obtain ⟨j, hj⟩ : ∃ j : ByteArray, j = (⟨(bs1.take (n1 % 201)).toArray⟩ : ByteArray) := ⟨_, rfl⟩; have hjs : j.size ≤ 200 := by rw [hj]; show (bs1.take (n1 % 201)).toArray.size ≤ 200; rw [List.size_toArray, List.length_take]; omega
      rw [← hj] at HF
      obtain ⟨K, hK, hK3⟩ : ∃ K : Nat, (n1 : Int) % 3 = (K : Int) ∧ K < 3 := ⟨n1 % 3, by omega, by omega⟩; rw [hK] at HF
      have hdK : (qs2.getD K default).d = ((dsOf qs1).getD K default).flush := by rw [← dsOf_get, hq2, map_get (by rw [dsOf_len]; omega)]
      have hokK : (qs2.getD K default).d.ok = true := by rw [← dsOf_get]; exact (okR_at hok2).2 K hK3
      have hgK : (qs2.getD K default).d.fGone = false := by rw [hdK]; exact none_gone k9 (by omega) hK3
      have hcK : (qs2.getD K default).d.fCells.length = 64 := (ok_waits hokK).1
      obtain ⟨gA, oA, hao⟩ := rds_ao (HS.out.holds 1 rfl) (by omega); subst hao
      obtain ⟨gC, oC, hac⟩ := hd_ao ((HS.out.holds 1 rfl).at K (by omega)) (by rw [hcK]; omega)
      refine wp_region_lit ?_
      refine wl_y rfl HF rfl rfl (yl_fieldAddr (j := 0) rfl (HF.ev rfl) (by kernel_rfl)) ?_; clear HF a; intro a HF
      refine wl_y rfl HF rfl rfl (yl_load (v := .slice (some ⟨gA, oA, none⟩) qs2.length cp2) rfl (HF.ev rfl) (((HS.out.box 0 rfl).cell 0).trans rfl) (by kernel_rfl)) ?_; clear HF a; intro a HF
      refine wl_mv HF rfl rfl rfl rfl rfl ?_; clear HF a; intro a HF
      refine wl_y rfl HF rfl rfl (yl_indexAddrR (e := 44) (i := K) (size := 3) rfl (HF.ev rfl) (HF.ev rfl) (by kernel_rfl) rfl (by omega) (g := gA) (off := oA) rfl) ?_; clear HF a; intro a HF
      refine wl_y rfl HF rfl rfl (yl_fieldAddr (j := 0) rfl (HF.ev rfl) (by kernel_rfl)) ?_; clear HF a; intro a HF
      refine wl_y rfl HF rfl rfl (yl_load (v := .slice (qs2.getD K default).a0 (qs2.getD K default).d.fCells.length (qs2.getD K default).c0) rfl (HF.ev rfl) (rds_head (HS.out.holds 1 rfl) (by omega)) (by kernel_rfl)) ?_; clear HF a; intro a HF
      refine wl_mv HF rfl rfl rfl rfl rfl ?_; clear HF a; intro a HF
      refine wl_y rfl HF rfl rfl (yl_indexAddrR (e := 9) (i := m) (size := 1) rfl (HF.ev rfl) (HF.ev rfl) (by kernel_rfl) rfl (by omega) hac) ?_; clear HF a; intro a HF
      refine wl_y rfl HF rfl rfl (yl_load (v := .string ((qs2.getD K default).d.fCells.getD m ByteArray.empty)) rfl (HF.ev rfl) (rds_text ((HS.out.holds 1 rfl).at K (by omega)) hac (by omega)) (by kernel_rfl)) ?_; clear HF a; intro a HF
      refine wl_as HF rfl rfl rfl rfl rfl ?_; clear HF a; intro a HF
      refine wl_ne ?_
      refine wp_sr ?_
      refine wl_y rfl HF rfl rfl (yl_fieldAddr (j := 0) rfl (HF.ev rfl) (by kernel_rfl)) ?_; clear HF a; intro a HF
      refine wl_y rfl HF rfl rfl (yl_load (v := .slice (some ⟨gA, oA, none⟩) qs2.length cp2) rfl (HF.ev rfl) (((HS.out.box 0 rfl).cell 0).trans rfl) (by kernel_rfl)) ?_; clear HF a; intro a HF
      refine wl_mv HF rfl rfl rfl rfl rfl ?_; clear HF a; intro a HF
      refine wl_y rfl HF rfl rfl (yl_indexAddrR (e := 44) (i := K) (size := 3) rfl (HF.ev rfl) (HF.ev rfl) (by kernel_rfl) rfl (by omega) (g := gA) (off := oA) rfl) ?_; clear HF a; intro a HF
      refine wl_y rfl HF rfl rfl (yl_loadR (cs := [.slice ((qs2.getD K default).a0) ((qs2.getD K default).d.fCells.length) ((qs2.getD K default).c0), .slice ((qs2.getD K default).a1) ((qs2.getD K default).d.fWaits.length) ((qs2.getD K default).c1), .bool ((qs2.getD K default).d.fGone)]) rfl (HF.ev rfl) (rds_range (HS.out.holds 1 rfl) (by omega)) (by kernel_rfl)) ?_; clear HF a; intro a HF
      refine wl_mv HF rfl rfl rfl rfl rfl ?_; clear HF a; intro a HF
      refine wl_mv HF rfl rfl rfl rfl rfl ?_; clear HF a; intro a HF
      refine wl_call rfl HF rfl (enter_of Try.func18 (by kernel_rfl) rfl) (args := #[.agg #[.slice ((qs2.getD K default).a0) ((qs2.getD K default).d.fCells.length) ((qs2.getD K default).c0), .slice ((qs2.getD K default).a1) ((qs2.getD K default).d.fWaits.length) ((qs2.getD K default).c1), .bool ((qs2.getD K default).d.fGone)], .int .i64 (m : Int), .string j]) rfl (diskSpoil_any (qs2.getD K default) _ ((HS.out.holds 1 rfl).at K (by omega)) (hf2.at K) hokK hgK m (by omega) j hjs) rfl rfl ?_
      rintro _ w23 ⟨q5, hq5, rfl, hs⟩
      refine ⟨_, rfl, ?_⟩; replace HS := Bx.mk (HS.out.add hs); clear hs HF; clear a; intro a HF
      replace HS : Bx (St w0 ([HD.asr q5, boxA b11 1 25 (.agg #[.slice (some ⟨gA, oA, none⟩) qs2.length cp2]), holdsA (rdsP (some ⟨gA, oA, none⟩) qs2), boxA b9 1 25 (.agg #[.slice ao9 qs9.length cp9]), holdsA (rdsP ao9 qs9), boxA b7 1 25 (.agg #[.slice ao1 qs1.length cp1]), holdsA (rdsP ao1 qs1), boxA b2 1 25 (.agg #[.slice ao ps.length co]), holdsA (rdsP ao ps)]) _) := ⟨HS.out⟩
      refine wl_mv HF rfl rfl rfl rfl rfl ?_; clear HF a; intro a HF
      refine wl_y rfl HF rfl rfl (yl_extract rfl (HF.ev rfl) rfl) ?_; clear HF a; intro a HF
      refine wl_y rfl HF rfl rfl (yl_extract rfl (HF.ev rfl) rfl) ?_; clear HF a; intro a HF
      refine wl_alloc rfl HF rfl rfl rfl (Z := [.slice none 0 0, .slice none 0 0, .bool false]) (by kernel_rfl) rfl HS.out ?_; clear HF HS a; intro a w24 b12 HF HS; replace HS := Bx.mk HS
      refine wl_storeBox rfl HF rfl rfl (HF.ev rfl) (HF.ev rfl) HS.out 0 rfl (cells_lit [.slice q5.a0 q5.d.fCells.length q5.c0, .slice q5.a1 q5.d.fWaits.length q5.c1, .bool q5.d.fGone] rfl rfl) (by kernel_rfl) ?_; clear HS; intro w25 HS; replace HS := Bx.mk HS
      have HS : Bx (St w0 ([boxA b12 3 44 (.agg #[.slice q5.a0 q5.d.fCells.length q5.c0, .slice q5.a1 q5.d.fWaits.length q5.c1, .bool q5.d.fGone]), HD.asr q5, boxA b11 1 25 (.agg #[.slice (some ⟨gA, oA, none⟩) qs2.length cp2]), holdsA (rdsP (some ⟨gA, oA, none⟩) qs2), boxA b9 1 25 (.agg #[.slice ao9 qs9.length cp9]), holdsA (rdsP ao9 qs9), boxA b7 1 25 (.agg #[.slice ao1 qs1.length cp1]), holdsA (rdsP ao1 qs1), boxA b2 1 25 (.agg #[.slice ao ps.length co]), holdsA (rdsP ao ps)]) _) := HS
      refine wl_as HF rfl rfl rfl rfl rfl ?_; clear HF a; intro a HF
      refine wl_ne ?_
      refine wp_sr ?_
      refine wl_y rfl HF rfl rfl (yl_loadR (cs := [.slice (some ⟨gA, oA, none⟩) qs2.length cp2]) rfl (HF.ev rfl) ((HS.out.box 2 rfl).sub 0 1) (by kernel_rfl)) ?_; clear HF a; intro a HF
      refine wl_call rfl HF rfl (enter_of Try.func15 (by kernel_rfl) rfl) (args := #[.agg #[.slice (some ⟨gA, oA, none⟩) qs2.length cp2]]) rfl (raidFlush_any (some ⟨gA, oA, none⟩) cp2 qs2 _ (by omega) hf2 (HS.out.holds 3 rfl) hok2) rfl rfl ?_
      rintro _ w26 ⟨ao3, cp3, qs3, hq3, rfl, hs⟩
      have hl3 : qs3.length = 3 := by rw [← dsOf_len, hq3, List.length_map, dsOf_len, hl2]
      rw [hl3] at hs; refine ⟨_, rfl, ?_⟩; replace HS := Bx.mk (HS.out.add hs); clear hs HF; clear a; intro a HF; rw [hl3] at HF
      replace HS : Bx (St w0 ([rowA HD.cells 3 44 (.slice ao3 3 cp3) qs3, sepA (qs3.map HD.asr), boxA b12 3 44 (.agg #[.slice q5.a0 q5.d.fCells.length q5.c0, .slice q5.a1 q5.d.fWaits.length q5.c1, .bool q5.d.fGone]), HD.asr q5, boxA b11 1 25 (.agg #[.slice (some ⟨gA, oA, none⟩) qs2.length cp2]), holdsA (rdsP (some ⟨gA, oA, none⟩) qs2), boxA b9 1 25 (.agg #[.slice ao9 qs9.length cp9]), holdsA (rdsP ao9 qs9), boxA b7 1 25 (.agg #[.slice ao1 qs1.length cp1]), holdsA (rdsP ao1 qs1), boxA b2 1 25 (.agg #[.slice ao ps.length co]), holdsA (rdsP ao ps)]) _) := ⟨HS.out⟩
      obtain ⟨g13, rfl, _, _, _, _⟩ := HS.out.rowOpen 0 rfl (by omega)
      refine wl_alloc rfl HF rfl rfl rfl (Z := [.slice none 0 0]) (by kernel_rfl) rfl HS.out ?_; clear HF HS a; intro a w27 b14 HF HS; replace HS := Bx.mk HS
      refine wl_storeBox rfl HF rfl rfl (HF.ev rfl) (HF.ev rfl) HS.out 0 rfl (cells_lit [.slice (some ⟨g13, 0, none⟩) 3 cp3] rfl rfl) (by kernel_rfl) ?_; clear HS; intro w28 HS; replace HS := Bx.mk HS
      have HS : Bx (St w0 ([boxA b14 1 25 (.agg #[.slice (some ⟨g13, 0, none⟩) 3 cp3]), rowA HD.cells 3 44 (.slice (some ⟨g13, 0, none⟩) 3 cp3) qs3, sepA (qs3.map HD.asr), boxA b12 3 44 (.agg #[.slice q5.a0 q5.d.fCells.length q5.c0, .slice q5.a1 q5.d.fWaits.length q5.c1, .bool q5.d.fGone]), HD.asr q5, boxA b11 1 25 (.agg #[.slice (some ⟨gA, oA, none⟩) qs2.length cp2]), holdsA (rdsP (some ⟨gA, oA, none⟩) qs2), boxA b9 1 25 (.agg #[.slice ao9 qs9.length cp9]), holdsA (rdsP ao9 qs9), boxA b7 1 25 (.agg #[.slice ao1 qs1.length cp1]), holdsA (rdsP ao1 qs1), boxA b2 1 25 (.agg #[.slice ao ps.length co]), holdsA (rdsP ao ps)]) _) := HS
      refine wl_ne ?_
      refine wp_sr ?_
      refine wl_y rfl HF rfl rfl (yl_fieldAddr (j := 0) rfl (HF.ev rfl) (by kernel_rfl)) ?_; clear HF a; intro a HF
      refine wl_y rfl HF rfl rfl (yl_load (v := .slice (some ⟨g13, 0, none⟩) 3 cp3) rfl (HF.ev rfl) (((HS.out.box 0 rfl).cell 0).trans rfl) (by kernel_rfl)) ?_; clear HF a; intro a HF
      refine wl_mv HF rfl rfl rfl rfl rfl ?_; clear HF a; intro a HF
      refine wl_y rfl HF rfl rfl (yl_loadR (cs := [.slice q5.a0 q5.d.fCells.length q5.c0, .slice q5.a1 q5.d.fWaits.length q5.c1, .bool q5.d.fGone]) rfl (HF.ev rfl) ((HS.out.box 3 rfl).sub 0 3) (by kernel_rfl)) ?_; clear HF a; intro a HF
      refine wl_y rfl HF rfl rfl (yl_indexAddr (e := 44) (i := K) (size := 3) rfl (HF.ev rfl) (HF.ev rfl) (by kernel_rfl) rfl (by omega)) ?_; clear HF a; intro a HF
      refine wl_storeEn HD.cells_len rfl rfl rfl (HF.ev rfl) (HF.ev rfl) (by kernel_rfl) HS.out 1 rfl (by omega) (z := q5) rfl (by first | rfl | simp [Value.oneCell']) ?_; clear HS; intro w29 HS; replace HS := Bx.mk HS
      refine wl_ne ?_
      refine wp_seq ?_
      replace HS : Bx (St w0 ([rowA HD.cells 3 44 (.slice (some ⟨g13, 0, none⟩) 3 cp3) (qs3.set K q5), sepA (qs3.map HD.asr), HD.asr q5, boxA b14 1 25 (.agg #[.slice (some ⟨g13, 0, none⟩) 3 cp3]), boxA b12 3 44 (.agg #[.slice q5.a0 q5.d.fCells.length q5.c0, .slice q5.a1 q5.d.fWaits.length q5.c1, .bool q5.d.fGone]), boxA b11 1 25 (.agg #[.slice (some ⟨gA, oA, none⟩) qs2.length cp2]), holdsA (rdsP (some ⟨gA, oA, none⟩) qs2), boxA b9 1 25 (.agg #[.slice ao9 qs9.length cp9]), holdsA (rdsP ao9 qs9), boxA b7 1 25 (.agg #[.slice ao1 qs1.length cp1]), holdsA (rdsP ao1 qs1), boxA b2 1 25 (.agg #[.slice ao ps.length co]), holdsA (rdsP ao ps)]) _) := ⟨(((HS.out).pick 4 rfl).pick 3 rfl).pick 3 rfl⟩
      obtain ⟨zs, hzs⟩ : ∃ zs, zs = qs3.set K q5 := ⟨_, rfl⟩; have hzl : zs.length = 3 := by rw [hzs, List.length_set, hl3]
      have hzd : dsOf zs = ((dsOf qs1).map DiskD.flush).set K (((dsOf qs1).getD K default).flush.spoil m j) := by rw [hzs, dsOf_set, hq3, hq2, hq5, hdK, map_flush2]
      have hzo : okR (dsOf zs) = true := by rw [hzd, ← hq2, ← hdK]; exact okR_set hok2 (spoil_ok hokK hgK hjs)
      have hfz : fitsL zs := okR_fits hzo
      have HU := ((St.join (r := [_, _, _])).1 HS.out).hold (P := rdsP (some ⟨g13, 0, none⟩) zs) (sep3 (fun w f h => row_reads HD.cells_len h) (fun w f h => hds_allP h) (fun w f h => HD.asr_reads1 h) fun w h1 h2 h3 => ⟨by rw [hzl, hzs]; exact h1, by rw [hzs]; exact allP_set h2 h3⟩)
      replace HS : Bx (St w0 ([holdsA (rdsP (some ⟨g13, 0, none⟩) zs), boxA b14 1 25 (.agg #[.slice (some ⟨g13, 0, none⟩) 3 cp3]), boxA b12 3 44 (.agg #[.slice q5.a0 q5.d.fCells.length q5.c0, .slice q5.a1 q5.d.fWaits.length q5.c1, .bool q5.d.fGone]), boxA b11 1 25 (.agg #[.slice (some ⟨gA, oA, none⟩) qs2.length cp2]), holdsA (rdsP (some ⟨gA, oA, none⟩) qs2), boxA b9 1 25 (.agg #[.slice ao9 qs9.length cp9]), holdsA (rdsP ao9 qs9), boxA b7 1 25 (.agg #[.slice ao1 qs1.length cp1]), holdsA (rdsP ao1 qs1), boxA b2 1 25 (.agg #[.slice ao ps.length co]), holdsA (rdsP ao ps)]) _) := ⟨HU⟩; clear HU
      refine wp_region_lit ?_
      refine wl_mv HF rfl rfl rfl rfl rfl ?_; clear HF a; intro a HF
      refine wl_mv HF rfl rfl rfl rfl rfl ?_; clear HF a; intro a HF
      refine wl_callB rfl HF rfl (enter_of Try.func14 (by kernel_rfl) rfl) (args := #[.int .i64 (m : Int), .int .i64 1, .int .i64 0, .string t]) rfl (v := .tuple #[.agg #[.int .i64 ((ptrOf (m : Int) 1 0 t).fAt), .int .i64 ((ptrOf (m : Int) 1 0 t).fBirth), .int .i64 ((ptrOf (m : Int) 1 0 t).fSize), .int .i64 ((ptrOf (m : Int) 1 0 t).fSum), .int .i64 ((ptrOf (m : Int) 1 0 t).fLevel)], .bool (ptrOk (m : Int) 1 0 t)]) ((ptrOfI_any (m : Int) 1 0 t _ (by omega))) rfl rfl HS.out ?_; clear HF HS a; intro w30 a HS HF; replace HS := Bx.mk HS
      refine wl_mv HF rfl rfl rfl rfl rfl ?_; clear HF a; intro a HF
      refine wl_y rfl HF rfl rfl (yl_extract rfl (HF.ev rfl) rfl) ?_; clear HF a; intro a HF
      refine wl_y rfl HF rfl rfl (yl_extract rfl (HF.ev rfl) rfl) ?_; clear HF a; intro a HF
      refine wl_alloc rfl HF rfl rfl rfl (Z := [.int .i64 0, .int .i64 0, .int .i64 0, .int .i64 0, .int .i64 0]) (by kernel_rfl) rfl HS.out ?_; clear HF HS a; intro a w31 b16 HF HS; replace HS := Bx.mk HS
      refine wl_storeBox rfl HF rfl rfl (HF.ev rfl) (HF.ev rfl) HS.out 0 rfl (cells_lit [.int .i64 ((ptrOf (m : Int) 1 0 t).fAt), .int .i64 ((ptrOf (m : Int) 1 0 t).fBirth), .int .i64 ((ptrOf (m : Int) 1 0 t).fSize), .int .i64 ((ptrOf (m : Int) 1 0 t).fSum), .int .i64 ((ptrOf (m : Int) 1 0 t).fLevel)] rfl rfl) (by kernel_rfl) ?_; clear HS; intro w32 HS; replace HS := Bx.mk HS
      have HS : Bx (St w0 ([boxA b16 5 33 (.agg #[.int .i64 ((ptrOf (m : Int) 1 0 t).fAt), .int .i64 ((ptrOf (m : Int) 1 0 t).fBirth), .int .i64 ((ptrOf (m : Int) 1 0 t).fSize), .int .i64 ((ptrOf (m : Int) 1 0 t).fSum), .int .i64 ((ptrOf (m : Int) 1 0 t).fLevel)]), holdsA (rdsP (some ⟨g13, 0, none⟩) zs), boxA b14 1 25 (.agg #[.slice (some ⟨g13, 0, none⟩) 3 cp3]), boxA b12 3 44 (.agg #[.slice q5.a0 q5.d.fCells.length q5.c0, .slice q5.a1 q5.d.fWaits.length q5.c1, .bool q5.d.fGone]), boxA b11 1 25 (.agg #[.slice (some ⟨gA, oA, none⟩) qs2.length cp2]), holdsA (rdsP (some ⟨gA, oA, none⟩) qs2), boxA b9 1 25 (.agg #[.slice ao9 qs9.length cp9]), holdsA (rdsP ao9 qs9), boxA b7 1 25 (.agg #[.slice ao1 qs1.length cp1]), holdsA (rdsP ao1 qs1), boxA b2 1 25 (.agg #[.slice ao ps.length co]), holdsA (rdsP ao ps)]) _) := HS
      refine wl_as HF rfl rfl rfl rfl rfl ?_; clear HF a; intro a HF
      refine wl_ne ?_
      refine wp_seq ?_
      have hoz0 : ((zs.getD 0 default)).d.ok = true := by rw [← dsOf_get]; exact (okR_at hzo).2 0 (by omega)
      have hcz0 := (ok_waits hoz0).1
      obtain ⟨gz0, oz0, haz0⟩ := hd_ao ((HS.out.holds 1 rfl).at 0 (by omega)) (by rw [hcz0]; omega)
      have hoz1 : ((zs.getD 1 default)).d.ok = true := by rw [← dsOf_get]; exact (okR_at hzo).2 1 (by omega)
      have hcz1 := (ok_waits hoz1).1
      obtain ⟨gz1, oz1, haz1⟩ := hd_ao ((HS.out.holds 1 rfl).at 1 (by omega)) (by rw [hcz1]; omega)
      have hoz2 : ((zs.getD 2 default)).d.ok = true := by rw [← dsOf_get]; exact (okR_at hzo).2 2 (by omega)
      have hcz2 := (ok_waits hoz2).1
      obtain ⟨gz2, oz2, haz2⟩ := hd_ao ((HS.out.holds 1 rfl).at 2 (by omega)) (by rw [hcz2]; omega)
      refine wr_tail 24 (by kernel_rfl) (by kernel_rfl) HS.out ?_
      simp only [List.take_succ_cons, List.take_zero, List.drop_succ_cons, List.drop_zero]
      intro w33 HS
      replace HS := Bx.mk HS
      refine ws_y rfl HF rfl rfl (yl_fieldAddr (j := 0) rfl (HF.ev rfl) (by kernel_rfl)) ?_; clear HF a; intro a HF
      refine ws_y rfl HF rfl rfl (yl_load (v := .slice (some ⟨g13, 0, none⟩) 3 cp3) rfl (HF.ev rfl) (((HS.out.box 2 rfl).cell 0).trans rfl) (by kernel_rfl)) ?_; clear HF a; intro a HF
      refine ws_y rfl HF rfl rfl (yl_indexAddrR (e := 44) (i := 0) (size := 3) rfl (HF.ev rfl) (HF.ev rfl) (by kernel_rfl) rfl (by omega) (g := g13) (off := 0) rfl) ?_; clear HF a; intro a HF
      refine ws_y rfl HF rfl rfl (yl_fieldAddr (j := 0) rfl (HF.ev rfl) (by kernel_rfl)) ?_; clear HF a; intro a HF
      refine ws_y rfl HF rfl rfl (yl_load (v := .slice (zs.getD 0 default).a0 (zs.getD 0 default).d.fCells.length (zs.getD 0 default).c0) rfl (HF.ev rfl) (rds_head (HS.out.holds 1 rfl) (by omega)) (by kernel_rfl)) ?_; clear HF a; intro a HF
      refine ws_y rfl HF rfl rfl (yl_move rfl (HF.ev rfl)) ?_; clear HF a; intro a HF
      refine ws_y rfl HF rfl rfl (yl_indexAddrR (e := 9) (i := m) (size := 1) rfl (HF.ev rfl) (HF.ev rfl) (by kernel_rfl) rfl (by omega) haz0) ?_; clear HF a; intro a HF
      refine ws_y rfl HF rfl rfl (yl_load (v := .string ((zs.getD 0 default).d.fCells.getD m ByteArray.empty)) rfl (HF.ev rfl) (rds_text ((HS.out.holds 1 rfl).at 0 (by omega)) haz0 (by omega)) (by kernel_rfl)) ?_; clear HF a; intro a HF
      refine ws_y rfl HF rfl rfl (yl_fieldAddr (j := 0) rfl (HF.ev rfl) (by kernel_rfl)) ?_; clear HF a; intro a HF
      refine ws_y rfl HF rfl rfl (yl_load (v := .slice (some ⟨g13, 0, none⟩) 3 cp3) rfl (HF.ev rfl) (((HS.out.box 2 rfl).cell 0).trans rfl) (by kernel_rfl)) ?_; clear HF a; intro a HF
      refine ws_y rfl HF rfl rfl (yl_indexAddrR (e := 44) (i := 1) (size := 3) rfl (HF.ev rfl) (HF.ev rfl) (by kernel_rfl) rfl (by omega) (g := g13) (off := 0) rfl) ?_; clear HF a; intro a HF
      refine ws_y rfl HF rfl rfl (yl_fieldAddr (j := 0) rfl (HF.ev rfl) (by kernel_rfl)) ?_; clear HF a; intro a HF
      refine ws_y rfl HF rfl rfl (yl_load (v := .slice (zs.getD 1 default).a0 (zs.getD 1 default).d.fCells.length (zs.getD 1 default).c0) rfl (HF.ev rfl) (rds_head (HS.out.holds 1 rfl) (by omega)) (by kernel_rfl)) ?_; clear HF a; intro a HF
      refine ws_y rfl HF rfl rfl (yl_move rfl (HF.ev rfl)) ?_; clear HF a; intro a HF
      refine ws_y rfl HF rfl rfl (yl_indexAddrR (e := 9) (i := m) (size := 1) rfl (HF.ev rfl) (HF.ev rfl) (by kernel_rfl) rfl (by omega) haz1) ?_; clear HF a; intro a HF
      refine ws_y rfl HF rfl rfl (yl_load (v := .string ((zs.getD 1 default).d.fCells.getD m ByteArray.empty)) rfl (HF.ev rfl) (rds_text ((HS.out.holds 1 rfl).at 1 (by omega)) haz1 (by omega)) (by kernel_rfl)) ?_; clear HF a; intro a HF
      refine ws_y rfl HF rfl rfl (yl_fieldAddr (j := 0) rfl (HF.ev rfl) (by kernel_rfl)) ?_; clear HF a; intro a HF
      refine ws_y rfl HF rfl rfl (yl_load (v := .slice (some ⟨g13, 0, none⟩) 3 cp3) rfl (HF.ev rfl) (((HS.out.box 2 rfl).cell 0).trans rfl) (by kernel_rfl)) ?_; clear HF a; intro a HF
      refine ws_y rfl HF rfl rfl (yl_indexAddrR (e := 44) (i := 2) (size := 3) rfl (HF.ev rfl) (HF.ev rfl) (by kernel_rfl) rfl (by omega) (g := g13) (off := 0) rfl) ?_; clear HF a; intro a HF
      refine ws_y rfl HF rfl rfl (yl_fieldAddr (j := 0) rfl (HF.ev rfl) (by kernel_rfl)) ?_; clear HF a; intro a HF
      refine ws_y rfl HF rfl rfl (yl_load (v := .slice (zs.getD 2 default).a0 (zs.getD 2 default).d.fCells.length (zs.getD 2 default).c0) rfl (HF.ev rfl) (rds_head (HS.out.holds 1 rfl) (by omega)) (by kernel_rfl)) ?_; clear HF a; intro a HF
      refine ws_y rfl HF rfl rfl (yl_move rfl (HF.ev rfl)) ?_; clear HF a; intro a HF
      refine ws_y rfl HF rfl rfl (yl_indexAddrR (e := 9) (i := m) (size := 1) rfl (HF.ev rfl) (HF.ev rfl) (by kernel_rfl) rfl (by omega) haz2) ?_; clear HF a; intro a HF
      refine ws_y rfl HF rfl rfl (yl_load (v := .string ((zs.getD 2 default).d.fCells.getD m ByteArray.empty)) rfl (HF.ev rfl) (rds_text ((HS.out.holds 1 rfl).at 2 (by omega)) haz2 (by omega)) (by kernel_rfl)) ?_; clear HF a; intro a HF
      refine wpStill_nil ?_
      refine wl_buildS (enc := encS) (e := 9) (size := 1) rfl HF rfl rfl rfl (ps := [(0, .string ((zs.getD 0 default).d.fCells.getD m ByteArray.empty)), (1, .string ((zs.getD 1 default).d.fCells.getD m ByteArray.empty)), (2, .string ((zs.getD 2 default).d.fCells.getD m ByteArray.empty))]) rfl (cells := [.string ((zs.getD 0 default).d.fCells.getD m ByteArray.empty), .string ((zs.getD 1 default).d.fCells.getD m ByteArray.empty), .string ((zs.getD 2 default).d.fCells.getD m ByteArray.empty)]) (by kernel_rfl) [((zs.getD 0 default).d.fCells.getD m ByteArray.empty), ((zs.getD 1 default).d.fCells.getD m ByteArray.empty), ((zs.getD 2 default).d.fCells.getD m ByteArray.empty)] rfl rfl (by unfold maxLen; omega) rfl HS.out ?_; clear HF HS a; intro b17 a w34 HF HS; replace HS := Bx.mk HS
      refine wl_as HF rfl rfl rfl rfl rfl ?_; clear HF a; intro a HF
      refine wl_ne ?_
      refine wp_seq ?_
      refine wp_seq ?_
      obtain ⟨X0, hX0⟩ : ∃ x, x = (zs.getD 0 default).d.fCells.getD m ByteArray.empty := ⟨_, rfl⟩; have hx0 : X0.size ≤ 1048576 := by rw [hX0]; have := cell_le hoz0 m; omega
      obtain ⟨X1, hX1⟩ : ∃ x, x = (zs.getD 1 default).d.fCells.getD m ByteArray.empty := ⟨_, rfl⟩; have hx1 : X1.size ≤ 1048576 := by rw [hX1]; have := cell_le hoz1 m; omega
      obtain ⟨X2, hX2⟩ : ∃ x, x = (zs.getD 2 default).d.fCells.getD m ByteArray.empty := ⟨_, rfl⟩; have hx2 : X2.size ≤ 1048576 := by rw [hX2]; have := cell_le hoz2 m; omega
      replace HS : Bx (St w0 ([rowA encS 1 9 (.slice (some ⟨b17, 0, none⟩) 3 3) ([X0, X1, X2]), boxA b16 5 33 (.agg #[.int .i64 ((ptrOf (m : Int) 1 0 t).fAt), .int .i64 ((ptrOf (m : Int) 1 0 t).fBirth), .int .i64 ((ptrOf (m : Int) 1 0 t).fSize), .int .i64 ((ptrOf (m : Int) 1 0 t).fSum), .int .i64 ((ptrOf (m : Int) 1 0 t).fLevel)]), holdsA (rdsP (some ⟨g13, 0, none⟩) zs), boxA b14 1 25 (.agg #[.slice (some ⟨g13, 0, none⟩) 3 cp3]), boxA b12 3 44 (.agg #[.slice q5.a0 q5.d.fCells.length q5.c0, .slice q5.a1 q5.d.fWaits.length q5.c1, .bool q5.d.fGone]), boxA b11 1 25 (.agg #[.slice (some ⟨gA, oA, none⟩) qs2.length cp2]), holdsA (rdsP (some ⟨gA, oA, none⟩) qs2), boxA b9 1 25 (.agg #[.slice ao9 qs9.length cp9]), holdsA (rdsP ao9 qs9), boxA b7 1 25 (.agg #[.slice ao1 qs1.length cp1]), holdsA (rdsP ao1 qs1), boxA b2 1 25 (.agg #[.slice ao ps.length co]), holdsA (rdsP ao ps)]) _) := ⟨by rw [hX0, hX1, hX2]; exact HS.out⟩
      refine wp_region_lit ?_
      refine wl_as HF rfl rfl rfl rfl rfl ?_; clear HF a; intro a HF
      refine wl_ne ?_
      refine wp_block ?_
      refine wc_rounds 4 ?_
      refine wp_seq ?_
      refine wp_sr ?_
      refine wl_mv HF rfl rfl rfl rfl rfl ?_; clear HF a; intro a HF
      refine wl_y rfl HF rfl rfl (yl_leqI rfl (HF.ev rfl) (HF.ev rfl)) ?_; clear HF a; intro a HF
      refine wl_ne ?_
      replace HF := HF.know (k := 154) (c := true) rfl (by decide)
      refine wc_true HF rfl ?_
      refine wp_skip ?_
      refine ex_then ?_
      refine wp_seq ?_
      refine wp_joinR (R := fun a w => noFalse X0 X1 X2 t (ptrOf (m : Int) 1 0 t) (-1) ∧ Fr 219 a [(0, .slice ab n0 cb), (1, .slice am n1 cm), (4, .bool false), (5, .pointer (some ⟨b2, 0, none⟩)), (6, .int .i64 (m : Int)), (7, .string t), (8, .pointer (some ⟨b7, 0, none⟩)), (9, .bool true), (10, .pointer (some ⟨b9, 0, none⟩)), (11, .bool true), (12, .pointer (some ⟨b11, 0, none⟩)), (13, .int .i64 (K : Int)), (14, .string j), (15, .string ((qs2.getD K default).d.fCells.getD m ByteArray.empty)), (16, .pointer (some ⟨b12, 0, none⟩)), (17, .bool true), (18, .pointer (some ⟨b14, 0, none⟩)), (19, .pointer (some ⟨b16, 0, none⟩)), (20, .bool (ptrOk (m : Int) 1 0 t)), (21, .slice (some ⟨b17, 0, none⟩) 3 3), (22, .int .i64 (-1))] ∧ St w0 ([rowA encS 1 9 (.slice (some ⟨b17, 0, none⟩) 3 3) ([X0, X1, X2]), boxA b16 5 33 (.agg #[.int .i64 ((ptrOf (m : Int) 1 0 t).fAt), .int .i64 ((ptrOf (m : Int) 1 0 t).fBirth), .int .i64 ((ptrOf (m : Int) 1 0 t).fSize), .int .i64 ((ptrOf (m : Int) 1 0 t).fSum), .int .i64 ((ptrOf (m : Int) 1 0 t).fLevel)]), holdsA (rdsP (some ⟨g13, 0, none⟩) zs), boxA b14 1 25 (.agg #[.slice (some ⟨g13, 0, none⟩) 3 cp3]), boxA b12 3 44 (.agg #[.slice q5.a0 q5.d.fCells.length q5.c0, .slice q5.a1 q5.d.fWaits.length q5.c1, .bool q5.d.fGone]), boxA b11 1 25 (.agg #[.slice (some ⟨gA, oA, none⟩) qs2.length cp2]), holdsA (rdsP (some ⟨gA, oA, none⟩) qs2), boxA b9 1 25 (.agg #[.slice ao9 qs9.length cp9]), holdsA (rdsP ao9 qs9), boxA b7 1 25 (.agg #[.slice ao1 qs1.length cp1]), holdsA (rdsP ao1 qs1), boxA b2 1 25 (.agg #[.slice ao ps.length co]), holdsA (rdsP ao ps)]) w) ?_ ?_
      ·skip
       refine wp_block ?_
       refine wp_sr ?_
       refine wl_mv HF rfl rfl rfl rfl rfl ?_; clear HF a; intro a HF
       refine wl_mv HF rfl rfl rfl rfl rfl ?_; clear HF a; intro a HF
       refine wl_y rfl HF rfl rfl (yl_lenS rfl (HF.ev rfl) (by kernel_rfl)) ?_; clear HF a; intro a HF
       refine wl_mv HF rfl rfl rfl rfl rfl ?_; clear HF a; intro a HF
       refine wl_callB rfl HF rfl (enter_of Try.func19 (by kernel_rfl) rfl) (args := #[.slice (some ⟨b17, 0, none⟩) 3 3, .int .i64 (t.size : Int), .int .i64 (-1)]) rfl (v := .tuple #[.string ((joinB X0 X1 X2 t.size (-1)).getD ByteArray.empty), .bool ((joinB X0 X1 X2 t.size (-1)).isSome)]) ((joinN_any (some ⟨b17, 0, none⟩) 3 X0 X1 X2 t.size _ (by omega) (by omega) hx0 hx1 hx2 (St.rdN HS.out encS_len 0 rfl))) rfl rfl HS.out ?_; clear HF HS a; intro w35 a HS HF; replace HS := Bx.mk HS
       refine wl_mv HF rfl rfl rfl rfl rfl ?_; clear HF a; intro a HF
       refine wl_y rfl HF rfl rfl (yl_extract rfl (HF.ev rfl) rfl) ?_; clear HF a; intro a HF
       refine wl_y rfl HF rfl rfl (yl_extract rfl (HF.ev rfl) rfl) ?_; clear HF a; intro a HF
       refine wl_as HF rfl rfl rfl rfl rfl ?_; clear HF a; intro a HF
       refine wl_as HF rfl rfl rfl rfl rfl ?_; clear HF a; intro a HF
       refine wl_ne ?_
       refine wp_sr ?_
       refine wl_mv HF rfl rfl rfl rfl rfl ?_; clear HF a; intro a HF
       refine wl_mv HF rfl rfl rfl rfl rfl ?_; clear HF a; intro a HF
       refine HF.cases 166 rfl (fun cc4 HF1 => ?_) (fun cc4 HF1 => ?_)
       ·clear HF; have HF := HF1; clear HF1
        refine wl_yg HF rfl rfl rfl rfl rfl (yl_move rfl (HF.ev rfl)) ?_; clear HF a; intro a HF
        refine wl_yg HF rfl rfl rfl rfl rfl (yl_move rfl (HF.ev rfl)) ?_; clear HF a; intro a HF
        refine wl_yg HF rfl rfl rfl rfl rfl (yl_neqS rfl (HF.ev rfl) (HF.ev rfl)) ?_; clear HF a; intro a HF
        refine wl_y rfl HF rfl rfl (yl_pick_t rfl (HF.ev rfl) (HF.ev rfl)) ?_; clear HF a; intro a HF
        refine wl_mv HF rfl rfl rfl rfl rfl ?_; clear HF a; intro a HF
        refine HF.cases 171 rfl (fun cc5 HF1 => ?_) (fun cc5 HF1 => ?_)
        ·clear HF; have HF := HF1; clear HF1
         refine wl_yg HF rfl rfl rfl rfl rfl (yl_loadR (cs := [.int .i64 ((ptrOf (m : Int) 1 0 t).fAt), .int .i64 ((ptrOf (m : Int) 1 0 t).fBirth), .int .i64 ((ptrOf (m : Int) 1 0 t).fSize), .int .i64 ((ptrOf (m : Int) 1 0 t).fSum), .int .i64 ((ptrOf (m : Int) 1 0 t).fLevel)]) rfl (HF.ev rfl) ((HS.out.box 1 rfl).sub 0 5) (by kernel_rfl)) ?_; clear HF a; intro a HF
         refine wl_yg HF rfl rfl rfl rfl rfl (yl_move rfl (HF.ev rfl)) ?_; clear HF a; intro a HF
         refine wl_callBg HF rfl rfl rfl rfl (enter_of Try.func20 (by kernel_rfl) rfl) (args := #[.agg #[.int .i64 ((ptrOf (m : Int) 1 0 t).fAt), .int .i64 ((ptrOf (m : Int) 1 0 t).fBirth), .int .i64 ((ptrOf (m : Int) 1 0 t).fSize), .int .i64 ((ptrOf (m : Int) 1 0 t).fSum), .int .i64 ((ptrOf (m : Int) 1 0 t).fLevel)], .string ((joinB X0 X1 X2 t.size (-1)).getD ByteArray.empty)]) rfl (v := .bool (PtrD.fits (ptrOf (m : Int) 1 0 t) ((joinB X0 X1 X2 t.size (-1)).getD ByteArray.empty))) ((implFits_any (ptrOf (m : Int) 1 0 t) ((joinB X0 X1 X2 t.size (-1)).getD ByteArray.empty) _ (by have := joinB_le X0 X1 X2 t.size (-1) (by omega); omega))) rfl rfl HS.out ?_; clear HF HS a; intro w36 a HS HF; replace HS := Bx.mk HS
         refine wl_y rfl HF rfl rfl (yl_pick_t rfl (HF.ev rfl) (HF.ev rfl)) ?_; clear HF a; intro a HF
         refine wl_ne ?_
         refine HF.cases 175 rfl (fun cc6 HF1 => ?_) (fun cc6 HF1 => ?_)
         ·clear HF; have HF := HF1; clear HF1
          refine wc_true HF rfl ?_
          refine wp_sr ?_
          refine wl_as HF rfl rfl rfl rfl rfl ?_; clear HF a; intro a HF
          refine wl_ne ?_
          refine wp_ret ?_
          refine ex_block_ret ?_
          refine onr_ret ?_
          refine ex_then_ret ?_
          refine ex_then_ret ?_
          refine ex_block_ret ?_
          refine ex_then_ret ?_
          refine bp_ret1 HF Try.results4 (HF.res rfl) ?_
          exact ⟨rfl, HS.out.bel⟩
         ·clear HF; have HF := HF1; clear HF1
          refine wc_false HF rfl ?_
          refine wp_skip ?_
          refine ex_block ?_
          replace HS : Bx (St w0 ([rowA encS 1 9 (.slice (some ⟨b17, 0, none⟩) 3 3) ([X0, X1, X2]), boxA b16 5 33 (.agg #[.int .i64 ((ptrOf (m : Int) 1 0 t).fAt), .int .i64 ((ptrOf (m : Int) 1 0 t).fBirth), .int .i64 ((ptrOf (m : Int) 1 0 t).fSize), .int .i64 ((ptrOf (m : Int) 1 0 t).fSum), .int .i64 ((ptrOf (m : Int) 1 0 t).fLevel)]), holdsA (rdsP (some ⟨g13, 0, none⟩) zs), boxA b14 1 25 (.agg #[.slice (some ⟨g13, 0, none⟩) 3 cp3]), boxA b12 3 44 (.agg #[.slice q5.a0 q5.d.fCells.length q5.c0, .slice q5.a1 q5.d.fWaits.length q5.c1, .bool q5.d.fGone]), boxA b11 1 25 (.agg #[.slice (some ⟨gA, oA, none⟩) qs2.length cp2]), holdsA (rdsP (some ⟨gA, oA, none⟩) qs2), boxA b9 1 25 (.agg #[.slice ao9 qs9.length cp9]), holdsA (rdsP ao9 qs9), boxA b7 1 25 (.agg #[.slice ao1 qs1.length cp1]), holdsA (rdsP ao1 qs1), boxA b2 1 25 (.agg #[.slice ao ps.length co]), holdsA (rdsP ao ps)]) _) := ⟨(((((((((((((HS.out).pick 12 rfl).pick 12 rfl).pick 12 rfl).pick 12 rfl).pick 12 rfl).pick 12 rfl).pick 12 rfl).pick 12 rfl).pick 12 rfl).pick 12 rfl).pick 12 rfl).pick 12 rfl).pick 12 rfl⟩
          exact onr_mk ⟨fun _ _ => cc6, HF.less _ ⟨rfl, rfl, rfl, rfl, rfl, rfl, rfl, rfl, rfl, rfl, rfl, rfl, rfl, rfl, rfl, rfl, rfl, rfl, rfl, rfl, rfl, trivial⟩, HS.out⟩
        ·clear HF; have HF := HF1; clear HF1
         refine wl_skip HF rfl rfl rfl rfl rfl rfl ?_; clear HF a; intro a HF
         refine wl_skip HF rfl rfl rfl rfl rfl rfl ?_; clear HF a; intro a HF
         refine wl_skip HF rfl rfl rfl rfl rfl rfl ?_; clear HF a; intro a HF
         refine wl_y rfl HF rfl rfl (yl_pick_f rfl (HF.ev rfl) (HF.ev rfl)) ?_; clear HF a; intro a HF
         refine wl_ne ?_
         refine wc_false HF rfl ?_
         refine wp_skip ?_
         refine ex_block ?_
         replace HS : Bx (St w0 ([rowA encS 1 9 (.slice (some ⟨b17, 0, none⟩) 3 3) ([X0, X1, X2]), boxA b16 5 33 (.agg #[.int .i64 ((ptrOf (m : Int) 1 0 t).fAt), .int .i64 ((ptrOf (m : Int) 1 0 t).fBirth), .int .i64 ((ptrOf (m : Int) 1 0 t).fSize), .int .i64 ((ptrOf (m : Int) 1 0 t).fSum), .int .i64 ((ptrOf (m : Int) 1 0 t).fLevel)]), holdsA (rdsP (some ⟨g13, 0, none⟩) zs), boxA b14 1 25 (.agg #[.slice (some ⟨g13, 0, none⟩) 3 cp3]), boxA b12 3 44 (.agg #[.slice q5.a0 q5.d.fCells.length q5.c0, .slice q5.a1 q5.d.fWaits.length q5.c1, .bool q5.d.fGone]), boxA b11 1 25 (.agg #[.slice (some ⟨gA, oA, none⟩) qs2.length cp2]), holdsA (rdsP (some ⟨gA, oA, none⟩) qs2), boxA b9 1 25 (.agg #[.slice ao9 qs9.length cp9]), holdsA (rdsP ao9 qs9), boxA b7 1 25 (.agg #[.slice ao1 qs1.length cp1]), holdsA (rdsP ao1 qs1), boxA b2 1 25 (.agg #[.slice ao ps.length co]), holdsA (rdsP ao ps)]) _) := ⟨(((((((((((((HS.out).pick 12 rfl).pick 12 rfl).pick 12 rfl).pick 12 rfl).pick 12 rfl).pick 12 rfl).pick 12 rfl).pick 12 rfl).pick 12 rfl).pick 12 rfl).pick 12 rfl).pick 12 rfl).pick 12 rfl⟩
         exact onr_mk ⟨fun _ h => absurd (bytes_toList (by simpa using cc5)) h, HF.less _ ⟨rfl, rfl, rfl, rfl, rfl, rfl, rfl, rfl, rfl, rfl, rfl, rfl, rfl, rfl, rfl, rfl, rfl, rfl, rfl, rfl, rfl, trivial⟩, HS.out⟩
       ·clear HF; have HF := HF1; clear HF1
        refine wl_skip HF rfl rfl rfl rfl rfl rfl ?_; clear HF a; intro a HF
        refine wl_skip HF rfl rfl rfl rfl rfl rfl ?_; clear HF a; intro a HF
        refine wl_skip HF rfl rfl rfl rfl rfl rfl ?_; clear HF a; intro a HF
        refine wl_y rfl HF rfl rfl (yl_pick_f rfl (HF.ev rfl) (HF.ev rfl)) ?_; clear HF a; intro a HF
        refine wl_mv HF rfl rfl rfl rfl rfl ?_; clear HF a; intro a HF
        refine wl_skip HF rfl rfl rfl rfl rfl rfl ?_; clear HF a; intro a HF
        refine wl_skip HF rfl rfl rfl rfl rfl rfl ?_; clear HF a; intro a HF
        refine wl_skip HF rfl rfl rfl rfl rfl rfl ?_; clear HF a; intro a HF
        refine wl_y rfl HF rfl rfl (yl_pick_f rfl (HF.ev rfl) (HF.ev rfl)) ?_; clear HF a; intro a HF
        refine wl_ne ?_
        refine wc_false HF rfl ?_
        refine wp_skip ?_
        refine ex_block ?_
        replace HS : Bx (St w0 ([rowA encS 1 9 (.slice (some ⟨b17, 0, none⟩) 3 3) ([X0, X1, X2]), boxA b16 5 33 (.agg #[.int .i64 ((ptrOf (m : Int) 1 0 t).fAt), .int .i64 ((ptrOf (m : Int) 1 0 t).fBirth), .int .i64 ((ptrOf (m : Int) 1 0 t).fSize), .int .i64 ((ptrOf (m : Int) 1 0 t).fSum), .int .i64 ((ptrOf (m : Int) 1 0 t).fLevel)]), holdsA (rdsP (some ⟨g13, 0, none⟩) zs), boxA b14 1 25 (.agg #[.slice (some ⟨g13, 0, none⟩) 3 cp3]), boxA b12 3 44 (.agg #[.slice q5.a0 q5.d.fCells.length q5.c0, .slice q5.a1 q5.d.fWaits.length q5.c1, .bool q5.d.fGone]), boxA b11 1 25 (.agg #[.slice (some ⟨gA, oA, none⟩) qs2.length cp2]), holdsA (rdsP (some ⟨gA, oA, none⟩) qs2), boxA b9 1 25 (.agg #[.slice ao9 qs9.length cp9]), holdsA (rdsP ao9 qs9), boxA b7 1 25 (.agg #[.slice ao1 qs1.length cp1]), holdsA (rdsP ao1 qs1), boxA b2 1 25 (.agg #[.slice ao ps.length co]), holdsA (rdsP ao ps)]) _) := ⟨(((((((((((((HS.out).pick 12 rfl).pick 12 rfl).pick 12 rfl).pick 12 rfl).pick 12 rfl).pick 12 rfl).pick 12 rfl).pick 12 rfl).pick 12 rfl).pick 12 rfl).pick 12 rfl).pick 12 rfl).pick 12 rfl⟩
        exact onr_mk ⟨fun h => absurd (h.symm.trans cc4) (by simp), HF.less _ ⟨rfl, rfl, rfl, rfl, rfl, rfl, rfl, rfl, rfl, rfl, rfl, rfl, rfl, rfl, rfl, rfl, rfl, rfl, rfl, rfl, rfl, trivial⟩, HS.out⟩
      clear HF HS a; rintro a w37 ⟨hnf0, HF, HS⟩; replace HS := Bx.mk HS
      refine ex_then ?_
      refine wp_region_lit ?_
      refine wl_mv HF rfl rfl rfl rfl rfl ?_; clear HF a; intro a HF
      refine wl_y rfl HF rfl rfl (yl_addI (r := 0) rfl (HF.ev rfl) (HF.ev rfl) (by decide)) ?_; clear HF a; intro a HF
      refine wl_as HF rfl rfl rfl rfl rfl ?_; clear HF a; intro a HF
      refine wl_ne ?_
      refine wc_round 3 ?_
      refine wp_seq ?_
      refine wp_sr ?_
      refine wl_mv HF rfl rfl rfl rfl rfl ?_; clear HF a; intro a HF
      refine wl_y rfl HF rfl rfl (yl_leqI rfl (HF.ev rfl) (HF.ev rfl)) ?_; clear HF a; intro a HF
      refine wl_ne ?_
      replace HF := HF.know (k := 154) (c := true) rfl (by decide)
      refine wc_true HF rfl ?_
      refine wp_skip ?_
      refine ex_then ?_
      refine wp_seq ?_
      refine wp_joinR (R := fun a w => noFalse X0 X1 X2 t (ptrOf (m : Int) 1 0 t) (0) ∧ Fr 219 a [(0, .slice ab n0 cb), (1, .slice am n1 cm), (4, .bool false), (5, .pointer (some ⟨b2, 0, none⟩)), (6, .int .i64 (m : Int)), (7, .string t), (8, .pointer (some ⟨b7, 0, none⟩)), (9, .bool true), (10, .pointer (some ⟨b9, 0, none⟩)), (11, .bool true), (12, .pointer (some ⟨b11, 0, none⟩)), (13, .int .i64 (K : Int)), (14, .string j), (15, .string ((qs2.getD K default).d.fCells.getD m ByteArray.empty)), (16, .pointer (some ⟨b12, 0, none⟩)), (17, .bool true), (18, .pointer (some ⟨b14, 0, none⟩)), (19, .pointer (some ⟨b16, 0, none⟩)), (20, .bool (ptrOk (m : Int) 1 0 t)), (21, .slice (some ⟨b17, 0, none⟩) 3 3), (22, .int .i64 0)] ∧ St w0 ([rowA encS 1 9 (.slice (some ⟨b17, 0, none⟩) 3 3) ([X0, X1, X2]), boxA b16 5 33 (.agg #[.int .i64 ((ptrOf (m : Int) 1 0 t).fAt), .int .i64 ((ptrOf (m : Int) 1 0 t).fBirth), .int .i64 ((ptrOf (m : Int) 1 0 t).fSize), .int .i64 ((ptrOf (m : Int) 1 0 t).fSum), .int .i64 ((ptrOf (m : Int) 1 0 t).fLevel)]), holdsA (rdsP (some ⟨g13, 0, none⟩) zs), boxA b14 1 25 (.agg #[.slice (some ⟨g13, 0, none⟩) 3 cp3]), boxA b12 3 44 (.agg #[.slice q5.a0 q5.d.fCells.length q5.c0, .slice q5.a1 q5.d.fWaits.length q5.c1, .bool q5.d.fGone]), boxA b11 1 25 (.agg #[.slice (some ⟨gA, oA, none⟩) qs2.length cp2]), holdsA (rdsP (some ⟨gA, oA, none⟩) qs2), boxA b9 1 25 (.agg #[.slice ao9 qs9.length cp9]), holdsA (rdsP ao9 qs9), boxA b7 1 25 (.agg #[.slice ao1 qs1.length cp1]), holdsA (rdsP ao1 qs1), boxA b2 1 25 (.agg #[.slice ao ps.length co]), holdsA (rdsP ao ps)]) w) ?_ ?_
      ·skip
       refine wp_block ?_
       refine wp_sr ?_
       refine wl_mv HF rfl rfl rfl rfl rfl ?_; clear HF a; intro a HF
       refine wl_mv HF rfl rfl rfl rfl rfl ?_; clear HF a; intro a HF
       refine wl_y rfl HF rfl rfl (yl_lenS rfl (HF.ev rfl) (by kernel_rfl)) ?_; clear HF a; intro a HF
       refine wl_mv HF rfl rfl rfl rfl rfl ?_; clear HF a; intro a HF
       refine wl_callB rfl HF rfl (enter_of Try.func19 (by kernel_rfl) rfl) (args := #[.slice (some ⟨b17, 0, none⟩) 3 3, .int .i64 (t.size : Int), .int .i64 0]) rfl (v := .tuple #[.string ((joinB X0 X1 X2 t.size (0)).getD ByteArray.empty), .bool ((joinB X0 X1 X2 t.size (0)).isSome)]) ((joinZ_any (some ⟨b17, 0, none⟩) 3 X0 X1 X2 t.size _ (by omega) (by omega) hx0 hx1 hx2 (St.rdN HS.out encS_len 0 rfl))) rfl rfl HS.out ?_; clear HF HS a; intro w38 a HS HF; replace HS := Bx.mk HS
       refine wl_mv HF rfl rfl rfl rfl rfl ?_; clear HF a; intro a HF
       refine wl_y rfl HF rfl rfl (yl_extract rfl (HF.ev rfl) rfl) ?_; clear HF a; intro a HF
       refine wl_y rfl HF rfl rfl (yl_extract rfl (HF.ev rfl) rfl) ?_; clear HF a; intro a HF
       refine wl_as HF rfl rfl rfl rfl rfl ?_; clear HF a; intro a HF
       refine wl_as HF rfl rfl rfl rfl rfl ?_; clear HF a; intro a HF
       refine wl_ne ?_
       refine wp_sr ?_
       refine wl_mv HF rfl rfl rfl rfl rfl ?_; clear HF a; intro a HF
       refine wl_mv HF rfl rfl rfl rfl rfl ?_; clear HF a; intro a HF
       refine HF.cases 166 rfl (fun cc7 HF1 => ?_) (fun cc7 HF1 => ?_)
       ·clear HF; have HF := HF1; clear HF1
        refine wl_yg HF rfl rfl rfl rfl rfl (yl_move rfl (HF.ev rfl)) ?_; clear HF a; intro a HF
        refine wl_yg HF rfl rfl rfl rfl rfl (yl_move rfl (HF.ev rfl)) ?_; clear HF a; intro a HF
        refine wl_yg HF rfl rfl rfl rfl rfl (yl_neqS rfl (HF.ev rfl) (HF.ev rfl)) ?_; clear HF a; intro a HF
        refine wl_y rfl HF rfl rfl (yl_pick_t rfl (HF.ev rfl) (HF.ev rfl)) ?_; clear HF a; intro a HF
        refine wl_mv HF rfl rfl rfl rfl rfl ?_; clear HF a; intro a HF
        refine HF.cases 171 rfl (fun cc8 HF1 => ?_) (fun cc8 HF1 => ?_)
        ·clear HF; have HF := HF1; clear HF1
         refine wl_yg HF rfl rfl rfl rfl rfl (yl_loadR (cs := [.int .i64 ((ptrOf (m : Int) 1 0 t).fAt), .int .i64 ((ptrOf (m : Int) 1 0 t).fBirth), .int .i64 ((ptrOf (m : Int) 1 0 t).fSize), .int .i64 ((ptrOf (m : Int) 1 0 t).fSum), .int .i64 ((ptrOf (m : Int) 1 0 t).fLevel)]) rfl (HF.ev rfl) ((HS.out.box 1 rfl).sub 0 5) (by kernel_rfl)) ?_; clear HF a; intro a HF
         refine wl_yg HF rfl rfl rfl rfl rfl (yl_move rfl (HF.ev rfl)) ?_; clear HF a; intro a HF
         refine wl_callBg HF rfl rfl rfl rfl (enter_of Try.func20 (by kernel_rfl) rfl) (args := #[.agg #[.int .i64 ((ptrOf (m : Int) 1 0 t).fAt), .int .i64 ((ptrOf (m : Int) 1 0 t).fBirth), .int .i64 ((ptrOf (m : Int) 1 0 t).fSize), .int .i64 ((ptrOf (m : Int) 1 0 t).fSum), .int .i64 ((ptrOf (m : Int) 1 0 t).fLevel)], .string ((joinB X0 X1 X2 t.size (0)).getD ByteArray.empty)]) rfl (v := .bool (PtrD.fits (ptrOf (m : Int) 1 0 t) ((joinB X0 X1 X2 t.size (0)).getD ByteArray.empty))) ((implFits_any (ptrOf (m : Int) 1 0 t) ((joinB X0 X1 X2 t.size (0)).getD ByteArray.empty) _ (by have := joinB_le X0 X1 X2 t.size (0) (by omega); omega))) rfl rfl HS.out ?_; clear HF HS a; intro w39 a HS HF; replace HS := Bx.mk HS
         refine wl_y rfl HF rfl rfl (yl_pick_t rfl (HF.ev rfl) (HF.ev rfl)) ?_; clear HF a; intro a HF
         refine wl_ne ?_
         refine HF.cases 175 rfl (fun cc9 HF1 => ?_) (fun cc9 HF1 => ?_)
         ·clear HF; have HF := HF1; clear HF1
          refine wc_true HF rfl ?_
          refine wp_sr ?_
          refine wl_as HF rfl rfl rfl rfl rfl ?_; clear HF a; intro a HF
          refine wl_ne ?_
          refine wp_ret ?_
          refine ex_block_ret ?_
          refine onr_ret ?_
          refine ex_then_ret ?_
          refine ex_then_ret ?_
          refine ex_block_ret ?_
          refine ex_then_ret ?_
          refine bp_ret1 HF Try.results4 (HF.res rfl) ?_
          exact ⟨rfl, HS.out.bel⟩
         ·clear HF; have HF := HF1; clear HF1
          refine wc_false HF rfl ?_
          refine wp_skip ?_
          refine ex_block ?_
          replace HS : Bx (St w0 ([rowA encS 1 9 (.slice (some ⟨b17, 0, none⟩) 3 3) ([X0, X1, X2]), boxA b16 5 33 (.agg #[.int .i64 ((ptrOf (m : Int) 1 0 t).fAt), .int .i64 ((ptrOf (m : Int) 1 0 t).fBirth), .int .i64 ((ptrOf (m : Int) 1 0 t).fSize), .int .i64 ((ptrOf (m : Int) 1 0 t).fSum), .int .i64 ((ptrOf (m : Int) 1 0 t).fLevel)]), holdsA (rdsP (some ⟨g13, 0, none⟩) zs), boxA b14 1 25 (.agg #[.slice (some ⟨g13, 0, none⟩) 3 cp3]), boxA b12 3 44 (.agg #[.slice q5.a0 q5.d.fCells.length q5.c0, .slice q5.a1 q5.d.fWaits.length q5.c1, .bool q5.d.fGone]), boxA b11 1 25 (.agg #[.slice (some ⟨gA, oA, none⟩) qs2.length cp2]), holdsA (rdsP (some ⟨gA, oA, none⟩) qs2), boxA b9 1 25 (.agg #[.slice ao9 qs9.length cp9]), holdsA (rdsP ao9 qs9), boxA b7 1 25 (.agg #[.slice ao1 qs1.length cp1]), holdsA (rdsP ao1 qs1), boxA b2 1 25 (.agg #[.slice ao ps.length co]), holdsA (rdsP ao ps)]) _) := ⟨(((((((((((((HS.out).pick 12 rfl).pick 12 rfl).pick 12 rfl).pick 12 rfl).pick 12 rfl).pick 12 rfl).pick 12 rfl).pick 12 rfl).pick 12 rfl).pick 12 rfl).pick 12 rfl).pick 12 rfl).pick 12 rfl⟩
          exact onr_mk ⟨fun _ _ => cc9, HF.less _ ⟨rfl, rfl, rfl, rfl, rfl, rfl, rfl, rfl, rfl, rfl, rfl, rfl, rfl, rfl, rfl, rfl, rfl, rfl, rfl, rfl, rfl, trivial⟩, HS.out⟩
        ·clear HF; have HF := HF1; clear HF1
         refine wl_skip HF rfl rfl rfl rfl rfl rfl ?_; clear HF a; intro a HF
         refine wl_skip HF rfl rfl rfl rfl rfl rfl ?_; clear HF a; intro a HF
         refine wl_skip HF rfl rfl rfl rfl rfl rfl ?_; clear HF a; intro a HF
         refine wl_y rfl HF rfl rfl (yl_pick_f rfl (HF.ev rfl) (HF.ev rfl)) ?_; clear HF a; intro a HF
         refine wl_ne ?_
         refine wc_false HF rfl ?_
         refine wp_skip ?_
         refine ex_block ?_
         replace HS : Bx (St w0 ([rowA encS 1 9 (.slice (some ⟨b17, 0, none⟩) 3 3) ([X0, X1, X2]), boxA b16 5 33 (.agg #[.int .i64 ((ptrOf (m : Int) 1 0 t).fAt), .int .i64 ((ptrOf (m : Int) 1 0 t).fBirth), .int .i64 ((ptrOf (m : Int) 1 0 t).fSize), .int .i64 ((ptrOf (m : Int) 1 0 t).fSum), .int .i64 ((ptrOf (m : Int) 1 0 t).fLevel)]), holdsA (rdsP (some ⟨g13, 0, none⟩) zs), boxA b14 1 25 (.agg #[.slice (some ⟨g13, 0, none⟩) 3 cp3]), boxA b12 3 44 (.agg #[.slice q5.a0 q5.d.fCells.length q5.c0, .slice q5.a1 q5.d.fWaits.length q5.c1, .bool q5.d.fGone]), boxA b11 1 25 (.agg #[.slice (some ⟨gA, oA, none⟩) qs2.length cp2]), holdsA (rdsP (some ⟨gA, oA, none⟩) qs2), boxA b9 1 25 (.agg #[.slice ao9 qs9.length cp9]), holdsA (rdsP ao9 qs9), boxA b7 1 25 (.agg #[.slice ao1 qs1.length cp1]), holdsA (rdsP ao1 qs1), boxA b2 1 25 (.agg #[.slice ao ps.length co]), holdsA (rdsP ao ps)]) _) := ⟨(((((((((((((HS.out).pick 12 rfl).pick 12 rfl).pick 12 rfl).pick 12 rfl).pick 12 rfl).pick 12 rfl).pick 12 rfl).pick 12 rfl).pick 12 rfl).pick 12 rfl).pick 12 rfl).pick 12 rfl).pick 12 rfl⟩
         exact onr_mk ⟨fun _ h => absurd (bytes_toList (by simpa using cc8)) h, HF.less _ ⟨rfl, rfl, rfl, rfl, rfl, rfl, rfl, rfl, rfl, rfl, rfl, rfl, rfl, rfl, rfl, rfl, rfl, rfl, rfl, rfl, rfl, trivial⟩, HS.out⟩
       ·clear HF; have HF := HF1; clear HF1
        refine wl_skip HF rfl rfl rfl rfl rfl rfl ?_; clear HF a; intro a HF
        refine wl_skip HF rfl rfl rfl rfl rfl rfl ?_; clear HF a; intro a HF
        refine wl_skip HF rfl rfl rfl rfl rfl rfl ?_; clear HF a; intro a HF
        refine wl_y rfl HF rfl rfl (yl_pick_f rfl (HF.ev rfl) (HF.ev rfl)) ?_; clear HF a; intro a HF
        refine wl_mv HF rfl rfl rfl rfl rfl ?_; clear HF a; intro a HF
        refine wl_skip HF rfl rfl rfl rfl rfl rfl ?_; clear HF a; intro a HF
        refine wl_skip HF rfl rfl rfl rfl rfl rfl ?_; clear HF a; intro a HF
        refine wl_skip HF rfl rfl rfl rfl rfl rfl ?_; clear HF a; intro a HF
        refine wl_y rfl HF rfl rfl (yl_pick_f rfl (HF.ev rfl) (HF.ev rfl)) ?_; clear HF a; intro a HF
        refine wl_ne ?_
        refine wc_false HF rfl ?_
        refine wp_skip ?_
        refine ex_block ?_
        replace HS : Bx (St w0 ([rowA encS 1 9 (.slice (some ⟨b17, 0, none⟩) 3 3) ([X0, X1, X2]), boxA b16 5 33 (.agg #[.int .i64 ((ptrOf (m : Int) 1 0 t).fAt), .int .i64 ((ptrOf (m : Int) 1 0 t).fBirth), .int .i64 ((ptrOf (m : Int) 1 0 t).fSize), .int .i64 ((ptrOf (m : Int) 1 0 t).fSum), .int .i64 ((ptrOf (m : Int) 1 0 t).fLevel)]), holdsA (rdsP (some ⟨g13, 0, none⟩) zs), boxA b14 1 25 (.agg #[.slice (some ⟨g13, 0, none⟩) 3 cp3]), boxA b12 3 44 (.agg #[.slice q5.a0 q5.d.fCells.length q5.c0, .slice q5.a1 q5.d.fWaits.length q5.c1, .bool q5.d.fGone]), boxA b11 1 25 (.agg #[.slice (some ⟨gA, oA, none⟩) qs2.length cp2]), holdsA (rdsP (some ⟨gA, oA, none⟩) qs2), boxA b9 1 25 (.agg #[.slice ao9 qs9.length cp9]), holdsA (rdsP ao9 qs9), boxA b7 1 25 (.agg #[.slice ao1 qs1.length cp1]), holdsA (rdsP ao1 qs1), boxA b2 1 25 (.agg #[.slice ao ps.length co]), holdsA (rdsP ao ps)]) _) := ⟨(((((((((((((HS.out).pick 12 rfl).pick 12 rfl).pick 12 rfl).pick 12 rfl).pick 12 rfl).pick 12 rfl).pick 12 rfl).pick 12 rfl).pick 12 rfl).pick 12 rfl).pick 12 rfl).pick 12 rfl).pick 12 rfl⟩
        exact onr_mk ⟨fun h => absurd (h.symm.trans cc7) (by simp), HF.less _ ⟨rfl, rfl, rfl, rfl, rfl, rfl, rfl, rfl, rfl, rfl, rfl, rfl, rfl, rfl, rfl, rfl, rfl, rfl, rfl, rfl, rfl, trivial⟩, HS.out⟩
      clear HF HS a; rintro a w40 ⟨hnf1, HF, HS⟩; replace HS := Bx.mk HS
      refine ex_then ?_
      refine wp_region_lit ?_
      refine wl_mv HF rfl rfl rfl rfl rfl ?_; clear HF a; intro a HF
      refine wl_y rfl HF rfl rfl (yl_addI (r := 1) rfl (HF.ev rfl) (HF.ev rfl) (by decide)) ?_; clear HF a; intro a HF
      refine wl_as HF rfl rfl rfl rfl rfl ?_; clear HF a; intro a HF
      refine wl_ne ?_
      refine wc_round 2 ?_
      refine wp_seq ?_
      refine wp_sr ?_
      refine wl_mv HF rfl rfl rfl rfl rfl ?_; clear HF a; intro a HF
      refine wl_y rfl HF rfl rfl (yl_leqI rfl (HF.ev rfl) (HF.ev rfl)) ?_; clear HF a; intro a HF
      refine wl_ne ?_
      replace HF := HF.know (k := 154) (c := true) rfl (by decide)
      refine wc_true HF rfl ?_
      refine wp_skip ?_
      refine ex_then ?_
      refine wp_seq ?_
      refine wp_joinR (R := fun a w => noFalse X0 X1 X2 t (ptrOf (m : Int) 1 0 t) (1) ∧ Fr 219 a [(0, .slice ab n0 cb), (1, .slice am n1 cm), (4, .bool false), (5, .pointer (some ⟨b2, 0, none⟩)), (6, .int .i64 (m : Int)), (7, .string t), (8, .pointer (some ⟨b7, 0, none⟩)), (9, .bool true), (10, .pointer (some ⟨b9, 0, none⟩)), (11, .bool true), (12, .pointer (some ⟨b11, 0, none⟩)), (13, .int .i64 (K : Int)), (14, .string j), (15, .string ((qs2.getD K default).d.fCells.getD m ByteArray.empty)), (16, .pointer (some ⟨b12, 0, none⟩)), (17, .bool true), (18, .pointer (some ⟨b14, 0, none⟩)), (19, .pointer (some ⟨b16, 0, none⟩)), (20, .bool (ptrOk (m : Int) 1 0 t)), (21, .slice (some ⟨b17, 0, none⟩) 3 3), (22, .int .i64 1)] ∧ St w0 ([rowA encS 1 9 (.slice (some ⟨b17, 0, none⟩) 3 3) ([X0, X1, X2]), boxA b16 5 33 (.agg #[.int .i64 ((ptrOf (m : Int) 1 0 t).fAt), .int .i64 ((ptrOf (m : Int) 1 0 t).fBirth), .int .i64 ((ptrOf (m : Int) 1 0 t).fSize), .int .i64 ((ptrOf (m : Int) 1 0 t).fSum), .int .i64 ((ptrOf (m : Int) 1 0 t).fLevel)]), holdsA (rdsP (some ⟨g13, 0, none⟩) zs), boxA b14 1 25 (.agg #[.slice (some ⟨g13, 0, none⟩) 3 cp3]), boxA b12 3 44 (.agg #[.slice q5.a0 q5.d.fCells.length q5.c0, .slice q5.a1 q5.d.fWaits.length q5.c1, .bool q5.d.fGone]), boxA b11 1 25 (.agg #[.slice (some ⟨gA, oA, none⟩) qs2.length cp2]), holdsA (rdsP (some ⟨gA, oA, none⟩) qs2), boxA b9 1 25 (.agg #[.slice ao9 qs9.length cp9]), holdsA (rdsP ao9 qs9), boxA b7 1 25 (.agg #[.slice ao1 qs1.length cp1]), holdsA (rdsP ao1 qs1), boxA b2 1 25 (.agg #[.slice ao ps.length co]), holdsA (rdsP ao ps)]) w) ?_ ?_
      ·skip
       refine wp_block ?_
       refine wp_sr ?_
       refine wl_mv HF rfl rfl rfl rfl rfl ?_; clear HF a; intro a HF
       refine wl_mv HF rfl rfl rfl rfl rfl ?_; clear HF a; intro a HF
       refine wl_y rfl HF rfl rfl (yl_lenS rfl (HF.ev rfl) (by kernel_rfl)) ?_; clear HF a; intro a HF
       refine wl_mv HF rfl rfl rfl rfl rfl ?_; clear HF a; intro a HF
       refine wl_callB rfl HF rfl (enter_of Try.func19 (by kernel_rfl) rfl) (args := #[.slice (some ⟨b17, 0, none⟩) 3 3, .int .i64 (t.size : Int), .int .i64 1]) rfl (v := .tuple #[.string ((joinB X0 X1 X2 t.size (1)).getD ByteArray.empty), .bool ((joinB X0 X1 X2 t.size (1)).isSome)]) ((joinO_any (some ⟨b17, 0, none⟩) 3 X0 X1 X2 t.size _ (by omega) (by omega) hx0 hx1 hx2 (St.rdN HS.out encS_len 0 rfl))) rfl rfl HS.out ?_; clear HF HS a; intro w41 a HS HF; replace HS := Bx.mk HS
       refine wl_mv HF rfl rfl rfl rfl rfl ?_; clear HF a; intro a HF
       refine wl_y rfl HF rfl rfl (yl_extract rfl (HF.ev rfl) rfl) ?_; clear HF a; intro a HF
       refine wl_y rfl HF rfl rfl (yl_extract rfl (HF.ev rfl) rfl) ?_; clear HF a; intro a HF
       refine wl_as HF rfl rfl rfl rfl rfl ?_; clear HF a; intro a HF
       refine wl_as HF rfl rfl rfl rfl rfl ?_; clear HF a; intro a HF
       refine wl_ne ?_
       refine wp_sr ?_
       refine wl_mv HF rfl rfl rfl rfl rfl ?_; clear HF a; intro a HF
       refine wl_mv HF rfl rfl rfl rfl rfl ?_; clear HF a; intro a HF
       refine HF.cases 166 rfl (fun cc10 HF1 => ?_) (fun cc10 HF1 => ?_)
       ·clear HF; have HF := HF1; clear HF1
        refine wl_yg HF rfl rfl rfl rfl rfl (yl_move rfl (HF.ev rfl)) ?_; clear HF a; intro a HF
        refine wl_yg HF rfl rfl rfl rfl rfl (yl_move rfl (HF.ev rfl)) ?_; clear HF a; intro a HF
        refine wl_yg HF rfl rfl rfl rfl rfl (yl_neqS rfl (HF.ev rfl) (HF.ev rfl)) ?_; clear HF a; intro a HF
        refine wl_y rfl HF rfl rfl (yl_pick_t rfl (HF.ev rfl) (HF.ev rfl)) ?_; clear HF a; intro a HF
        refine wl_mv HF rfl rfl rfl rfl rfl ?_; clear HF a; intro a HF
        refine HF.cases 171 rfl (fun cc11 HF1 => ?_) (fun cc11 HF1 => ?_)
        ·clear HF; have HF := HF1; clear HF1
         refine wl_yg HF rfl rfl rfl rfl rfl (yl_loadR (cs := [.int .i64 ((ptrOf (m : Int) 1 0 t).fAt), .int .i64 ((ptrOf (m : Int) 1 0 t).fBirth), .int .i64 ((ptrOf (m : Int) 1 0 t).fSize), .int .i64 ((ptrOf (m : Int) 1 0 t).fSum), .int .i64 ((ptrOf (m : Int) 1 0 t).fLevel)]) rfl (HF.ev rfl) ((HS.out.box 1 rfl).sub 0 5) (by kernel_rfl)) ?_; clear HF a; intro a HF
         refine wl_yg HF rfl rfl rfl rfl rfl (yl_move rfl (HF.ev rfl)) ?_; clear HF a; intro a HF
         refine wl_callBg HF rfl rfl rfl rfl (enter_of Try.func20 (by kernel_rfl) rfl) (args := #[.agg #[.int .i64 ((ptrOf (m : Int) 1 0 t).fAt), .int .i64 ((ptrOf (m : Int) 1 0 t).fBirth), .int .i64 ((ptrOf (m : Int) 1 0 t).fSize), .int .i64 ((ptrOf (m : Int) 1 0 t).fSum), .int .i64 ((ptrOf (m : Int) 1 0 t).fLevel)], .string ((joinB X0 X1 X2 t.size (1)).getD ByteArray.empty)]) rfl (v := .bool (PtrD.fits (ptrOf (m : Int) 1 0 t) ((joinB X0 X1 X2 t.size (1)).getD ByteArray.empty))) ((implFits_any (ptrOf (m : Int) 1 0 t) ((joinB X0 X1 X2 t.size (1)).getD ByteArray.empty) _ (by have := joinB_le X0 X1 X2 t.size (1) (by omega); omega))) rfl rfl HS.out ?_; clear HF HS a; intro w42 a HS HF; replace HS := Bx.mk HS
         refine wl_y rfl HF rfl rfl (yl_pick_t rfl (HF.ev rfl) (HF.ev rfl)) ?_; clear HF a; intro a HF
         refine wl_ne ?_
         refine HF.cases 175 rfl (fun cc12 HF1 => ?_) (fun cc12 HF1 => ?_)
         ·clear HF; have HF := HF1; clear HF1
          refine wc_true HF rfl ?_
          refine wp_sr ?_
          refine wl_as HF rfl rfl rfl rfl rfl ?_; clear HF a; intro a HF
          refine wl_ne ?_
          refine wp_ret ?_
          refine ex_block_ret ?_
          refine onr_ret ?_
          refine ex_then_ret ?_
          refine ex_then_ret ?_
          refine ex_block_ret ?_
          refine ex_then_ret ?_
          refine bp_ret1 HF Try.results4 (HF.res rfl) ?_
          exact ⟨rfl, HS.out.bel⟩
         ·clear HF; have HF := HF1; clear HF1
          refine wc_false HF rfl ?_
          refine wp_skip ?_
          refine ex_block ?_
          replace HS : Bx (St w0 ([rowA encS 1 9 (.slice (some ⟨b17, 0, none⟩) 3 3) ([X0, X1, X2]), boxA b16 5 33 (.agg #[.int .i64 ((ptrOf (m : Int) 1 0 t).fAt), .int .i64 ((ptrOf (m : Int) 1 0 t).fBirth), .int .i64 ((ptrOf (m : Int) 1 0 t).fSize), .int .i64 ((ptrOf (m : Int) 1 0 t).fSum), .int .i64 ((ptrOf (m : Int) 1 0 t).fLevel)]), holdsA (rdsP (some ⟨g13, 0, none⟩) zs), boxA b14 1 25 (.agg #[.slice (some ⟨g13, 0, none⟩) 3 cp3]), boxA b12 3 44 (.agg #[.slice q5.a0 q5.d.fCells.length q5.c0, .slice q5.a1 q5.d.fWaits.length q5.c1, .bool q5.d.fGone]), boxA b11 1 25 (.agg #[.slice (some ⟨gA, oA, none⟩) qs2.length cp2]), holdsA (rdsP (some ⟨gA, oA, none⟩) qs2), boxA b9 1 25 (.agg #[.slice ao9 qs9.length cp9]), holdsA (rdsP ao9 qs9), boxA b7 1 25 (.agg #[.slice ao1 qs1.length cp1]), holdsA (rdsP ao1 qs1), boxA b2 1 25 (.agg #[.slice ao ps.length co]), holdsA (rdsP ao ps)]) _) := ⟨(((((((((((((HS.out).pick 12 rfl).pick 12 rfl).pick 12 rfl).pick 12 rfl).pick 12 rfl).pick 12 rfl).pick 12 rfl).pick 12 rfl).pick 12 rfl).pick 12 rfl).pick 12 rfl).pick 12 rfl).pick 12 rfl⟩
          exact onr_mk ⟨fun _ _ => cc12, HF.less _ ⟨rfl, rfl, rfl, rfl, rfl, rfl, rfl, rfl, rfl, rfl, rfl, rfl, rfl, rfl, rfl, rfl, rfl, rfl, rfl, rfl, rfl, trivial⟩, HS.out⟩
        ·clear HF; have HF := HF1; clear HF1
         refine wl_skip HF rfl rfl rfl rfl rfl rfl ?_; clear HF a; intro a HF
         refine wl_skip HF rfl rfl rfl rfl rfl rfl ?_; clear HF a; intro a HF
         refine wl_skip HF rfl rfl rfl rfl rfl rfl ?_; clear HF a; intro a HF
         refine wl_y rfl HF rfl rfl (yl_pick_f rfl (HF.ev rfl) (HF.ev rfl)) ?_; clear HF a; intro a HF
         refine wl_ne ?_
         refine wc_false HF rfl ?_
         refine wp_skip ?_
         refine ex_block ?_
         replace HS : Bx (St w0 ([rowA encS 1 9 (.slice (some ⟨b17, 0, none⟩) 3 3) ([X0, X1, X2]), boxA b16 5 33 (.agg #[.int .i64 ((ptrOf (m : Int) 1 0 t).fAt), .int .i64 ((ptrOf (m : Int) 1 0 t).fBirth), .int .i64 ((ptrOf (m : Int) 1 0 t).fSize), .int .i64 ((ptrOf (m : Int) 1 0 t).fSum), .int .i64 ((ptrOf (m : Int) 1 0 t).fLevel)]), holdsA (rdsP (some ⟨g13, 0, none⟩) zs), boxA b14 1 25 (.agg #[.slice (some ⟨g13, 0, none⟩) 3 cp3]), boxA b12 3 44 (.agg #[.slice q5.a0 q5.d.fCells.length q5.c0, .slice q5.a1 q5.d.fWaits.length q5.c1, .bool q5.d.fGone]), boxA b11 1 25 (.agg #[.slice (some ⟨gA, oA, none⟩) qs2.length cp2]), holdsA (rdsP (some ⟨gA, oA, none⟩) qs2), boxA b9 1 25 (.agg #[.slice ao9 qs9.length cp9]), holdsA (rdsP ao9 qs9), boxA b7 1 25 (.agg #[.slice ao1 qs1.length cp1]), holdsA (rdsP ao1 qs1), boxA b2 1 25 (.agg #[.slice ao ps.length co]), holdsA (rdsP ao ps)]) _) := ⟨(((((((((((((HS.out).pick 12 rfl).pick 12 rfl).pick 12 rfl).pick 12 rfl).pick 12 rfl).pick 12 rfl).pick 12 rfl).pick 12 rfl).pick 12 rfl).pick 12 rfl).pick 12 rfl).pick 12 rfl).pick 12 rfl⟩
         exact onr_mk ⟨fun _ h => absurd (bytes_toList (by simpa using cc11)) h, HF.less _ ⟨rfl, rfl, rfl, rfl, rfl, rfl, rfl, rfl, rfl, rfl, rfl, rfl, rfl, rfl, rfl, rfl, rfl, rfl, rfl, rfl, rfl, trivial⟩, HS.out⟩
       ·clear HF; have HF := HF1; clear HF1
        refine wl_skip HF rfl rfl rfl rfl rfl rfl ?_; clear HF a; intro a HF
        refine wl_skip HF rfl rfl rfl rfl rfl rfl ?_; clear HF a; intro a HF
        refine wl_skip HF rfl rfl rfl rfl rfl rfl ?_; clear HF a; intro a HF
        refine wl_y rfl HF rfl rfl (yl_pick_f rfl (HF.ev rfl) (HF.ev rfl)) ?_; clear HF a; intro a HF
        refine wl_mv HF rfl rfl rfl rfl rfl ?_; clear HF a; intro a HF
        refine wl_skip HF rfl rfl rfl rfl rfl rfl ?_; clear HF a; intro a HF
        refine wl_skip HF rfl rfl rfl rfl rfl rfl ?_; clear HF a; intro a HF
        refine wl_skip HF rfl rfl rfl rfl rfl rfl ?_; clear HF a; intro a HF
        refine wl_y rfl HF rfl rfl (yl_pick_f rfl (HF.ev rfl) (HF.ev rfl)) ?_; clear HF a; intro a HF
        refine wl_ne ?_
        refine wc_false HF rfl ?_
        refine wp_skip ?_
        refine ex_block ?_
        replace HS : Bx (St w0 ([rowA encS 1 9 (.slice (some ⟨b17, 0, none⟩) 3 3) ([X0, X1, X2]), boxA b16 5 33 (.agg #[.int .i64 ((ptrOf (m : Int) 1 0 t).fAt), .int .i64 ((ptrOf (m : Int) 1 0 t).fBirth), .int .i64 ((ptrOf (m : Int) 1 0 t).fSize), .int .i64 ((ptrOf (m : Int) 1 0 t).fSum), .int .i64 ((ptrOf (m : Int) 1 0 t).fLevel)]), holdsA (rdsP (some ⟨g13, 0, none⟩) zs), boxA b14 1 25 (.agg #[.slice (some ⟨g13, 0, none⟩) 3 cp3]), boxA b12 3 44 (.agg #[.slice q5.a0 q5.d.fCells.length q5.c0, .slice q5.a1 q5.d.fWaits.length q5.c1, .bool q5.d.fGone]), boxA b11 1 25 (.agg #[.slice (some ⟨gA, oA, none⟩) qs2.length cp2]), holdsA (rdsP (some ⟨gA, oA, none⟩) qs2), boxA b9 1 25 (.agg #[.slice ao9 qs9.length cp9]), holdsA (rdsP ao9 qs9), boxA b7 1 25 (.agg #[.slice ao1 qs1.length cp1]), holdsA (rdsP ao1 qs1), boxA b2 1 25 (.agg #[.slice ao ps.length co]), holdsA (rdsP ao ps)]) _) := ⟨(((((((((((((HS.out).pick 12 rfl).pick 12 rfl).pick 12 rfl).pick 12 rfl).pick 12 rfl).pick 12 rfl).pick 12 rfl).pick 12 rfl).pick 12 rfl).pick 12 rfl).pick 12 rfl).pick 12 rfl).pick 12 rfl⟩
        exact onr_mk ⟨fun h => absurd (h.symm.trans cc10) (by simp), HF.less _ ⟨rfl, rfl, rfl, rfl, rfl, rfl, rfl, rfl, rfl, rfl, rfl, rfl, rfl, rfl, rfl, rfl, rfl, rfl, rfl, rfl, rfl, trivial⟩, HS.out⟩
      clear HF HS a; rintro a w43 ⟨hnf2, HF, HS⟩; replace HS := Bx.mk HS
      refine ex_then ?_
      refine wp_region_lit ?_
      refine wl_mv HF rfl rfl rfl rfl rfl ?_; clear HF a; intro a HF
      refine wl_y rfl HF rfl rfl (yl_addI (r := 2) rfl (HF.ev rfl) (HF.ev rfl) (by decide)) ?_; clear HF a; intro a HF
      refine wl_as HF rfl rfl rfl rfl rfl ?_; clear HF a; intro a HF
      refine wl_ne ?_
      refine wc_round 1 ?_
      refine wp_seq ?_
      refine wp_sr ?_
      refine wl_mv HF rfl rfl rfl rfl rfl ?_; clear HF a; intro a HF
      refine wl_y rfl HF rfl rfl (yl_leqI rfl (HF.ev rfl) (HF.ev rfl)) ?_; clear HF a; intro a HF
      refine wl_ne ?_
      replace HF := HF.know (k := 154) (c := false) rfl (by decide)
      refine wc_false HF rfl ?_
      refine wp_exit ?_
      refine ex_then_exit ?_
      refine ex_then_exit ?_
      refine ex_block_hit ?_
      refine ex_then ?_
      refine wp_seq ?_
      obtain ⟨_, hzr, hold1, gs, hzh, hgs⟩ := spoil_law (es := dsOf qs1) (t := t) (j := j) (p := (ptrOf (m : Int) 1 0 t)) (m := m) (K := K) k4 p1 p2 p3 p4 k7 (fun i hi => none_gone k9 (by omega) hi) hK3 hjs (by rw [← hzd, dsOf_get, dsOf_get, dsOf_get, ← hX0, ← hX1, ← hX2]; exact hnf0) (by rw [← hzd, dsOf_get, dsOf_get, dsOf_get, ← hX0, ← hX1, ← hX2]; exact hnf1) (by rw [← hzd, dsOf_get, dsOf_get, dsOf_get, ← hX0, ← hX1, ← hX2]; exact hnf2); rw [← hzd] at hzr hzh
      have holdK : (qs2.getD K default).d.fCells.getD m ByteArray.empty = colOf t K := by rw [hdK]; exact hold1
      refine wp_region_lit ?_
      refine wl_y rfl HF rfl rfl (yl_loadR (cs := [.slice (some ⟨g13, 0, none⟩) 3 cp3]) rfl (HF.ev rfl) ((HS.out.box 3 rfl).sub 0 1) (by kernel_rfl)) ?_; clear HF a; intro a HF
      refine wl_y rfl HF rfl rfl (yl_loadR (cs := [.int .i64 ((ptrOf (m : Int) 1 0 t).fAt), .int .i64 ((ptrOf (m : Int) 1 0 t).fBirth), .int .i64 ((ptrOf (m : Int) 1 0 t).fSize), .int .i64 ((ptrOf (m : Int) 1 0 t).fSum), .int .i64 ((ptrOf (m : Int) 1 0 t).fLevel)]) rfl (HF.ev rfl) ((HS.out.box 1 rfl).sub 0 5) (by kernel_rfl)) ?_; clear HF a; intro a HF
      refine wl_callB rfl HF rfl (enter_of Try.func16 (by kernel_rfl) rfl) (args := #[.agg #[.slice (some ⟨g13, 0, none⟩) 3 cp3], .agg #[.int .i64 ((ptrOf (m : Int) 1 0 t).fAt), .int .i64 ((ptrOf (m : Int) 1 0 t).fBirth), .int .i64 ((ptrOf (m : Int) 1 0 t).fSize), .int .i64 ((ptrOf (m : Int) 1 0 t).fSum), .int .i64 ((ptrOf (m : Int) 1 0 t).fLevel)]]) rfl (v := .tuple #[.string t, .bool true]) ((by have := implRaidRead_any (some ⟨g13, 0, none⟩) cp3 zs _ (by omega) hfz.at (HS.out.holds 2 rfl).1 (HS.out.holds 2 rfl).at (ptrOf (m : Int) 1 0 t); rw [hzr, hzl] at this; exact this)) rfl rfl HS.out ?_; clear HF HS a; intro w44 a HS HF; replace HS := Bx.mk HS
      refine wl_mv HF rfl rfl rfl rfl rfl ?_; clear HF a; intro a HF
      refine wl_y rfl HF rfl rfl (yl_extract rfl (HF.ev rfl) rfl) ?_; clear HF a; intro a HF
      refine wl_y rfl HF rfl rfl (yl_extract rfl (HF.ev rfl) rfl) ?_; clear HF a; intro a HF
      refine wl_as HF rfl rfl rfl rfl rfl ?_; clear HF a; intro a HF
      refine wl_as HF rfl rfl rfl rfl rfl ?_; clear HF a; intro a HF
      refine wl_ne ?_
      refine wp_sr ?_
      refine wl_y rfl HF rfl rfl (yl_loadR (cs := [.slice (some ⟨g13, 0, none⟩) 3 cp3]) rfl (HF.ev rfl) ((HS.out.box 3 rfl).sub 0 1) (by kernel_rfl)) ?_; clear HF a; intro a HF
      refine wl_y rfl HF rfl rfl (yl_loadR (cs := [.int .i64 ((ptrOf (m : Int) 1 0 t).fAt), .int .i64 ((ptrOf (m : Int) 1 0 t).fBirth), .int .i64 ((ptrOf (m : Int) 1 0 t).fSize), .int .i64 ((ptrOf (m : Int) 1 0 t).fSum), .int .i64 ((ptrOf (m : Int) 1 0 t).fLevel)]) rfl (HF.ev rfl) ((HS.out.box 1 rfl).sub 0 5) (by kernel_rfl)) ?_; clear HF a; intro a HF
      refine wl_call rfl HF rfl (enter_of Try.func21 (by kernel_rfl) rfl) (args := #[.agg #[.slice (some ⟨g13, 0, none⟩) 3 cp3], .agg #[.int .i64 ((ptrOf (m : Int) 1 0 t).fAt), .int .i64 ((ptrOf (m : Int) 1 0 t).fBirth), .int .i64 ((ptrOf (m : Int) 1 0 t).fSize), .int .i64 ((ptrOf (m : Int) 1 0 t).fSum), .int .i64 ((ptrOf (m : Int) 1 0 t).fLevel)]]) rfl (by have := implRaidHeal_any (some ⟨g13, 0, none⟩) cp3 zs _ (by omega) hfz.at (HS.out.holds 2 rfl).1 (HS.out.holds 2 rfl).at (ptrOf (m : Int) 1 0 t); rw [hzl] at this; exact this) rfl rfl ?_
      rintro _ w45 (⟨h6, _⟩ | ⟨ao6, cp6, qs6, nn, hev6, rfl, hs⟩)
      ·exact absurd (h6.symm.trans hzh) (by simp)
      obtain ⟨hq6, hn6⟩ := Prod.mk.inj (Option.some.inj (hev6.symm.trans hzh)); obtain ⟨_, _, _, _, _, hok6, hl6, _⟩ := heal_law hev6; rw [dsOf_len] at hl6; have hf6 : fitsL qs6 := okR_fits hok6
      have hnn1 : nn ≤ 1 := by rw [hn6]; split <;> omega
      have hfin : (((nn : Int) == 0) == (j.toList == ((qs2.getD K default).d.fCells.getD m ByteArray.empty).toList)) = true := spoil_fin hn6 holdK
      refine ⟨_, rfl, ?_⟩; replace HS := Bx.mk (HS.out.add (raid_holdG rfl hs)); clear hs HF; clear a; intro a HF
      replace HS : Bx (St w0 ([holdsA (rdsP ao6 qs6), rowA encS 1 9 (.slice (some ⟨b17, 0, none⟩) 3 3) ([X0, X1, X2]), boxA b16 5 33 (.agg #[.int .i64 ((ptrOf (m : Int) 1 0 t).fAt), .int .i64 ((ptrOf (m : Int) 1 0 t).fBirth), .int .i64 ((ptrOf (m : Int) 1 0 t).fSize), .int .i64 ((ptrOf (m : Int) 1 0 t).fSum), .int .i64 ((ptrOf (m : Int) 1 0 t).fLevel)]), holdsA (rdsP (some ⟨g13, 0, none⟩) zs), boxA b14 1 25 (.agg #[.slice (some ⟨g13, 0, none⟩) 3 cp3]), boxA b12 3 44 (.agg #[.slice q5.a0 q5.d.fCells.length q5.c0, .slice q5.a1 q5.d.fWaits.length q5.c1, .bool q5.d.fGone]), boxA b11 1 25 (.agg #[.slice (some ⟨gA, oA, none⟩) qs2.length cp2]), holdsA (rdsP (some ⟨gA, oA, none⟩) qs2), boxA b9 1 25 (.agg #[.slice ao9 qs9.length cp9]), holdsA (rdsP ao9 qs9), boxA b7 1 25 (.agg #[.slice ao1 qs1.length cp1]), holdsA (rdsP ao1 qs1), boxA b2 1 25 (.agg #[.slice ao ps.length co]), holdsA (rdsP ao ps)]) _) := ⟨HS.out⟩
      refine wl_mv HF rfl rfl rfl rfl rfl ?_; clear HF a; intro a HF
      refine wl_y rfl HF rfl rfl (yl_extract rfl (HF.ev rfl) rfl) ?_; clear HF a; intro a HF
      refine wl_y rfl HF rfl rfl (yl_extract rfl (HF.ev rfl) rfl) ?_; clear HF a; intro a HF
      refine wl_y rfl HF rfl rfl (yl_extract rfl (HF.ev rfl) rfl) ?_; clear HF a; intro a HF
      refine wl_alloc rfl HF rfl rfl rfl (Z := [.slice none 0 0]) (by kernel_rfl) rfl HS.out ?_; clear HF HS a; intro a w46 b19 HF HS; replace HS := Bx.mk HS
      refine wl_storeBox rfl HF rfl rfl (HF.ev rfl) (HF.ev rfl) HS.out 0 rfl (cells_lit [.slice ao6 qs6.length cp6] rfl rfl) (by kernel_rfl) ?_; clear HS; intro w47 HS; replace HS := Bx.mk HS
      have HS : Bx (St w0 ([boxA b19 1 25 (.agg #[.slice ao6 qs6.length cp6]), holdsA (rdsP ao6 qs6), rowA encS 1 9 (.slice (some ⟨b17, 0, none⟩) 3 3) ([X0, X1, X2]), boxA b16 5 33 (.agg #[.int .i64 ((ptrOf (m : Int) 1 0 t).fAt), .int .i64 ((ptrOf (m : Int) 1 0 t).fBirth), .int .i64 ((ptrOf (m : Int) 1 0 t).fSize), .int .i64 ((ptrOf (m : Int) 1 0 t).fSum), .int .i64 ((ptrOf (m : Int) 1 0 t).fLevel)]), holdsA (rdsP (some ⟨g13, 0, none⟩) zs), boxA b14 1 25 (.agg #[.slice (some ⟨g13, 0, none⟩) 3 cp3]), boxA b12 3 44 (.agg #[.slice q5.a0 q5.d.fCells.length q5.c0, .slice q5.a1 q5.d.fWaits.length q5.c1, .bool q5.d.fGone]), boxA b11 1 25 (.agg #[.slice (some ⟨gA, oA, none⟩) qs2.length cp2]), holdsA (rdsP (some ⟨gA, oA, none⟩) qs2), boxA b9 1 25 (.agg #[.slice ao9 qs9.length cp9]), holdsA (rdsP ao9 qs9), boxA b7 1 25 (.agg #[.slice ao1 qs1.length cp1]), holdsA (rdsP ao1 qs1), boxA b2 1 25 (.agg #[.slice ao ps.length co]), holdsA (rdsP ao ps)]) _) := HS
      refine wl_as HF rfl rfl rfl rfl rfl ?_; clear HF a; intro a HF
      refine wl_as HF rfl rfl rfl rfl rfl ?_; clear HF a; intro a HF
      refine wl_ne ?_
      refine wp_seq ?_
      refine wr_heldS (s := [boxA b19 1 25 (.agg #[.slice ao6 qs6.length cp6]), holdsA (rdsP ao6 qs6), rowA encS 1 9 (.slice (some ⟨b17, 0, none⟩) 3 3) ([X0, X1, X2]), boxA b16 5 33 (.agg #[.int .i64 ((ptrOf (m : Int) 1 0 t).fAt), .int .i64 ((ptrOf (m : Int) 1 0 t).fBirth), .int .i64 ((ptrOf (m : Int) 1 0 t).fSize), .int .i64 ((ptrOf (m : Int) 1 0 t).fSum), .int .i64 ((ptrOf (m : Int) 1 0 t).fLevel)]), holdsA (rdsP (some ⟨g13, 0, none⟩) zs), boxA b14 1 25 (.agg #[.slice (some ⟨g13, 0, none⟩) 3 cp3]), boxA b12 3 44 (.agg #[.slice q5.a0 q5.d.fCells.length q5.c0, .slice q5.a1 q5.d.fWaits.length q5.c1, .bool q5.d.fGone]), boxA b11 1 25 (.agg #[.slice (some ⟨gA, oA, none⟩) qs2.length cp2]), holdsA (rdsP (some ⟨gA, oA, none⟩) qs2), boxA b9 1 25 (.agg #[.slice ao9 qs9.length cp9]), holdsA (rdsP ao9 qs9), boxA b7 1 25 (.agg #[.slice ao1 qs1.length cp1]), holdsA (rdsP ao1 qs1), boxA b2 1 25 (.agg #[.slice ao ps.length co]), holdsA (rdsP ao ps)]) (by kernel_rfl) (St.drew (HS.out)) ?_
      have HS2 := Bx.mk HS.out.drew; replace HS := Bx.mk (show St w0 ([boxA b19 1 25 (.agg #[.slice ao6 qs6.length cp6]), holdsA (rdsP ao6 qs6), rowA encS 1 9 (.slice (some ⟨b17, 0, none⟩) 3 3) ([X0, X1, X2]), boxA b16 5 33 (.agg #[.int .i64 ((ptrOf (m : Int) 1 0 t).fAt), .int .i64 ((ptrOf (m : Int) 1 0 t).fBirth), .int .i64 ((ptrOf (m : Int) 1 0 t).fSize), .int .i64 ((ptrOf (m : Int) 1 0 t).fSum), .int .i64 ((ptrOf (m : Int) 1 0 t).fLevel)]), holdsA (rdsP (some ⟨g13, 0, none⟩) zs), boxA b14 1 25 (.agg #[.slice (some ⟨g13, 0, none⟩) 3 cp3]), boxA b12 3 44 (.agg #[.slice q5.a0 q5.d.fCells.length q5.c0, .slice q5.a1 q5.d.fWaits.length q5.c1, .bool q5.d.fGone]), boxA b11 1 25 (.agg #[.slice (some ⟨gA, oA, none⟩) qs2.length cp2]), holdsA (rdsP (some ⟨gA, oA, none⟩) qs2), boxA b9 1 25 (.agg #[.slice ao9 qs9.length cp9]), holdsA (rdsP ao9 qs9), boxA b7 1 25 (.agg #[.slice ao1 qs1.length cp1]), holdsA (rdsP ao1 qs1), boxA b2 1 25 (.agg #[.slice ao ps.length co]), holdsA (rdsP ao ps)]) _ from HS.out.drew)
      generalize World.drew _ = w48 at HS HS2 ⊢
      refine wh_y 0 rfl (by kernel_rfl) (by kernel_rfl) (by kernel_rfl) (fun _ _ _ h => h) rfl HF rfl rfl (fun _ HS => (yl_move rfl (HF.ev rfl))) HS.out ?_; clear HF a; intro a HF
      refine wh_y 1 rfl (by kernel_rfl) (by kernel_rfl) (by kernel_rfl) (fun _ _ _ h => h) rfl HF rfl rfl (fun _ HS => (yl_move rfl (HF.ev rfl))) HS.out ?_; clear HF a; intro a HF
      refine wh_yg 2 rfl (by kernel_rfl) (by kernel_rfl) (by kernel_rfl) (fun _ _ _ h => h) HF rfl rfl rfl rfl rfl (fun _ HS => (yl_move rfl (HF.ev rfl))) HS.out ?_; clear HF a; intro a HF
      refine wh_y 3 rfl (by kernel_rfl) (by kernel_rfl) (by kernel_rfl) (fun _ _ _ h => h) rfl HF rfl rfl (fun _ HS => (yl_pick_t rfl (HF.ev rfl) (HF.ev rfl))) HS.out ?_; clear HF a; intro a HF
      refine wh_y 4 rfl (by kernel_rfl) (by kernel_rfl) (by kernel_rfl) (fun _ _ _ h => h) rfl HF rfl rfl (fun _ HS => (yl_move rfl (HF.ev rfl))) HS.out ?_; clear HF a; intro a HF
      refine wh_yg 5 rfl (by kernel_rfl) (by kernel_rfl) (by kernel_rfl) (fun _ _ _ h => h) HF rfl rfl rfl rfl rfl (fun _ HS => (yl_move rfl (HF.ev rfl))) HS.out ?_; clear HF a; intro a HF
      refine wh_yg 6 rfl (by kernel_rfl) (by kernel_rfl) (by kernel_rfl) (fun _ _ _ h => h) HF rfl rfl rfl rfl rfl (fun _ HS => (yl_move rfl (HF.ev rfl))) HS.out ?_; clear HF a; intro a HF
      refine wh_yg 7 rfl (by kernel_rfl) (by kernel_rfl) (by kernel_rfl) (fun _ _ _ h => h) HF rfl rfl rfl rfl rfl (fun _ HS => (yl_eqlS rfl (HF.ev rfl) (HF.ev rfl))) HS.out ?_; clear HF a; intro a HF
      refine wh_y 8 rfl (by kernel_rfl) (by kernel_rfl) (by kernel_rfl) (fun _ _ _ h => h) rfl HF rfl rfl (fun _ HS => (yl_pick_t rfl (HF.ev rfl) (HF.ev rfl))) HS.out ?_; clear HF a; intro a HF
      refine wh_y 9 rfl (by kernel_rfl) (by kernel_rfl) (by kernel_rfl) (fun _ _ _ h => h) rfl HF rfl rfl (fun _ HS => (yl_move rfl (HF.ev rfl))) HS.out ?_; clear HF a; intro a HF
      refine HF.cases 198 rfl (fun cc13 HF1 => ?_) (fun cc13 HF1 => ?_)
      ·clear HF; have HF := HF1; clear HF1
       refine wh_yg 10 rfl (by kernel_rfl) (by kernel_rfl) (by kernel_rfl) (fun _ _ _ h => h) HF rfl rfl rfl rfl rfl (fun _ HS => (yl_move rfl (HF.ev rfl))) HS.out ?_; clear HF a; intro a HF
       refine wh_y 11 rfl (by kernel_rfl) (by kernel_rfl) (by kernel_rfl) (fun _ _ _ h => h) rfl HF rfl rfl (fun _ HS => (yl_pick_t rfl (HF.ev rfl) (HF.ev rfl))) HS.out ?_; clear HF a; intro a HF
       refine wh_y 12 rfl (by kernel_rfl) (by kernel_rfl) (by kernel_rfl) (fun _ _ _ h => h) rfl HF rfl rfl (fun _ HS => (yl_move rfl (HF.ev rfl))) HS.out ?_; clear HF a; intro a HF
       refine wh_yg 13 rfl (by kernel_rfl) (by kernel_rfl) (by kernel_rfl) (fun _ _ _ h => h) HF rfl rfl rfl rfl rfl (fun _ HS => (yl_loadR (cs := [.slice ao6 qs6.length cp6]) rfl (HF.ev rfl) ((HS.box 0 rfl).sub 0 1) (by kernel_rfl))) HS.out ?_; clear HF a; intro a HF
       refine wh_yg 15 rfl (by kernel_rfl) (by kernel_rfl) (by kernel_rfl) (fun _ _ _ h => h) HF rfl rfl rfl rfl rfl (fun _ HS => (yl_loadR (cs := [.slice (some ⟨gA, oA, none⟩) qs2.length cp2]) rfl (HF.ev rfl) ((HS.box 7 rfl).sub 0 1) (by kernel_rfl))) HS.out ?_; clear HF a; intro a HF
       refine wh_one 14 (by kernel_rfl) ?_
       refine wo_callg rfl HF rfl rfl rfl rfl (enter_of Try.func15 (by kernel_rfl) rfl) (args := #[.agg #[.slice ao6 qs6.length cp6]]) rfl (raidFlush_any ao6 cp6 qs6 _ (by omega) hf6 (HS2.out.holds 1 rfl) hok6) rfl rfl ?_
       rintro _ w50 ⟨ao7, cp7, qs7, hq7, rfl, hs⟩
       have hq72 : dsOf qs2 = dsOf qs7 := by rw [hq7, hq6, hgs, hq2]
       have hf7 : fitsL qs7 := okR_fits (by rw [← hq72]; exact hok2); have hl7 : qs7.length = 3 := by rw [← dsOf_len, ← hq72, dsOf_len, hl2]
       refine ⟨_, rfl, ?_⟩; replace HS := Bx.mk (HS.out.later hs.bel); replace HS2 := Bx.mk (HS2.out.add (raid_holdG rfl hs)); clear hs HF; clear a; intro a HF
       replace HS2 : Bx (St w0 ([holdsA (rdsP ao7 qs7), boxA b19 1 25 (.agg #[.slice ao6 qs6.length cp6]), holdsA (rdsP ao6 qs6), rowA encS 1 9 (.slice (some ⟨b17, 0, none⟩) 3 3) ([X0, X1, X2]), boxA b16 5 33 (.agg #[.int .i64 ((ptrOf (m : Int) 1 0 t).fAt), .int .i64 ((ptrOf (m : Int) 1 0 t).fBirth), .int .i64 ((ptrOf (m : Int) 1 0 t).fSize), .int .i64 ((ptrOf (m : Int) 1 0 t).fSum), .int .i64 ((ptrOf (m : Int) 1 0 t).fLevel)]), holdsA (rdsP (some ⟨g13, 0, none⟩) zs), boxA b14 1 25 (.agg #[.slice (some ⟨g13, 0, none⟩) 3 cp3]), boxA b12 3 44 (.agg #[.slice q5.a0 q5.d.fCells.length q5.c0, .slice q5.a1 q5.d.fWaits.length q5.c1, .bool q5.d.fGone]), boxA b11 1 25 (.agg #[.slice (some ⟨gA, oA, none⟩) qs2.length cp2]), holdsA (rdsP (some ⟨gA, oA, none⟩) qs2), boxA b9 1 25 (.agg #[.slice ao9 qs9.length cp9]), holdsA (rdsP ao9 qs9), boxA b7 1 25 (.agg #[.slice ao1 qs1.length cp1]), holdsA (rdsP ao1 qs1), boxA b2 1 25 (.agg #[.slice ao ps.length co]), holdsA (rdsP ao ps)]) _) := ⟨HS2.out⟩; refine ⟨HS.out, ?_⟩
       refine wh_one 16 (by kernel_rfl) ?_
       refine wo_callgB rfl HF rfl rfl rfl rfl (enter_of Try.func12 (by kernel_rfl) rfl) (args := #[.agg #[.slice ao7 qs7.length cp7], .agg #[.slice (some ⟨gA, oA, none⟩) qs2.length cp2]]) rfl (v := .bool true) ((pfRaid_yes ao7 (some ⟨gA, oA, none⟩) cp7 cp2 _ qs7 qs2 rfl hq72 _ (by omega) hf7 (HS2.out.holds 0 rfl) (HS2.out.holds 9 rfl))) rfl rfl ?_
       intro w51 hb; replace HS := Bx.mk (HS.out.later hb); replace HS2 := Bx.mk (HS2.out.later hb); clear hb HF; clear a; intro a HF; refine ⟨HS.out, ?_⟩
       refine wh_y 17 rfl (by kernel_rfl) (by kernel_rfl) (by kernel_rfl) (fun _ _ _ h => h) rfl HF rfl rfl (fun _ HS => (yl_pick_t rfl (HF.ev rfl) (HF.ev rfl))) HS.out ?_; clear HF a; intro a HF
       refine wh_y 18 rfl (by kernel_rfl) (by kernel_rfl) (by kernel_rfl) (fun _ _ _ h => h) rfl HF rfl rfl (fun _ HS => (yl_move rfl (HF.ev rfl))) HS.out ?_; clear HF a; intro a HF
       refine wh_yg 19 rfl (by kernel_rfl) (by kernel_rfl) (by kernel_rfl) (fun _ _ _ h => h) HF rfl rfl rfl rfl rfl (fun _ HS => (yl_move rfl (HF.ev rfl))) HS.out ?_; clear HF a; intro a HF
       refine wh_yg 20 rfl (by kernel_rfl) (by kernel_rfl) (by kernel_rfl) (fun _ _ _ h => h) HF rfl rfl rfl rfl rfl (fun _ HS => (yl_eqlI rfl (HF.ev rfl) (HF.ev rfl))) HS.out ?_; clear HF a; intro a HF
       refine wh_yg 21 rfl (by kernel_rfl) (by kernel_rfl) (by kernel_rfl) (fun _ _ _ h => h) HF rfl rfl rfl rfl rfl (fun _ HS => (yl_move rfl (HF.ev rfl))) HS.out ?_; clear HF a; intro a HF
       refine wh_yg 22 rfl (by kernel_rfl) (by kernel_rfl) (by kernel_rfl) (fun _ _ _ h => h) HF rfl rfl rfl rfl rfl (fun _ HS => (yl_move rfl (HF.ev rfl))) HS.out ?_; clear HF a; intro a HF
       refine wh_yg 23 rfl (by kernel_rfl) (by kernel_rfl) (by kernel_rfl) (fun _ _ _ h => h) HF rfl rfl rfl rfl rfl (fun _ HS => (yl_eqlS rfl (HF.ev rfl) (HF.ev rfl))) HS.out ?_; clear HF a; intro a HF
       refine wh_yg 24 rfl (by kernel_rfl) (by kernel_rfl) (by kernel_rfl) (fun _ _ _ h => h) HF rfl rfl rfl rfl rfl (fun _ HS => (yl_eqlB rfl (HF.ev rfl) (HF.ev rfl) (by kernel_rfl))) HS.out ?_; clear HF a; intro a HF
       refine wh_y 25 rfl (by kernel_rfl) (by kernel_rfl) (by kernel_rfl) (fun _ _ _ h => h) rfl HF rfl rfl (fun _ HS => (yl_pick_t rfl (HF.ev rfl) (HF.ev rfl))) HS.out ?_; clear HF a; intro a HF
       refine wh_y 26 rfl (by kernel_rfl) (by kernel_rfl) (by kernel_rfl) (fun _ _ _ h => h) rfl HF rfl rfl (fun _ HS => (yl_move rfl (HF.ev rfl))) HS.out ?_; clear HF a; intro a HF
       refine HF.cases 215 rfl (fun cc14 HF1 => ?_) (fun cc14 HF1 => ?_)
       ·clear HF; have HF := HF1; clear HF1
        refine wh_yg 27 rfl (by kernel_rfl) (by kernel_rfl) (by kernel_rfl) (fun _ _ _ h => h) HF rfl rfl rfl rfl rfl (fun _ HS => (yl_move rfl (HF.ev rfl))) HS.out ?_; clear HF a; intro a HF
        refine wh_yg 28 rfl (by kernel_rfl) (by kernel_rfl) (by kernel_rfl) (fun _ _ _ h => h) HF rfl rfl rfl rfl rfl (fun _ HS => (yl_leqI rfl (HF.ev rfl) (HF.ev rfl))) HS.out ?_; clear HF a; intro a HF
        refine wh_y 29 rfl (by kernel_rfl) (by kernel_rfl) (by kernel_rfl) (fun _ _ _ h => h) rfl HF rfl rfl (fun _ HS => (yl_pick_t rfl (HF.ev rfl) (HF.ev rfl))) HS.out ?_; clear HF a; intro a HF
        refine wh_y 30 rfl (by kernel_rfl) (by kernel_rfl) (by kernel_rfl) (fun _ _ _ h => h) rfl HF rfl rfl (fun _ HS => (yl_assign rfl (HF.ev rfl))) HS.out ?_; clear HF a; intro a HF
        refine wh_done (by kernel_rfl) ?_
        replace HS := HS2; clear HS2
        refine ex_then ?_
        refine wp_ret ?_
        refine bp_ret1 HF Try.results4 (HF.res rfl) ?_
        exact ⟨by rw [decide_eq_true (show (nn : Int) ≤ 1 by omega)], HS.out.bel⟩
       ·clear HF; have HF := HF1; clear HF1
        rw [hfin] at cc14; cases cc14
      ·clear HF; have HF := HF1; clear HF1
       exact absurd cc13 (by simp)

end Go.Proofs.Ytfijfjjleelphaa
