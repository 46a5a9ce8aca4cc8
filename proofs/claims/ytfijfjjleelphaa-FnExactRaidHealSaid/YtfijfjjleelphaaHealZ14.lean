/- A part of the proof in YtfijfjjleelphaaHealZ16. -/
import Derived.ArgAppend
import Derived.BigQuiet
import Derived.BigRegion
import Derived.Deep.AppendLies
import Derived.Deep.MidRow
import Derived.Deep.Quiet
import Derived.Deep.QuietTactic
import Derived.Deep.RegionHeld3
import Derived.Deep.RegionWith
import Derived.IntWalk
import Derived.Laws.BytesArg
import Derived.Lib.Hide
import Derived.Lib.LazyBuf
import Derived.LoopIn
import Derived.LoopN
import Derived.LoopNIn
import Derived.Orders
import Derived.OrdersHeld
import Derived.OwnWalkIn
import Derived.RangeFuncLeaves
import Derived.RangeFuncNested
import Derived.Shelf.Abstract
import Derived.Still
import Derived.StillTail
import Derived.StillTailTactics
import Derived.TacticsInMore
import Derived.Test.YtfijfjjleelphaaRows
import Derived.WalkKit
import Derived.WalkLawsBesides
import Derived.WalkSpells
import Derived.Test.YtfijfjjleelphaaHealZ13
/- Healing a set of disks, by the reference. -/
namespace Go.Proofs.Ytfijfjjleelphaa
open Go.RowKit

theorem lookW_mem (ws : List WaitD) (m : Nat) : ∀ t, lookW ws m = some t → ∃ k, k < ws.length ∧ t = (ws.getD k default).fText := by
  induction ws with
  | nil => intro t h; cases h
  | cons w ws ih =>
    intro t h
    rw [lookW_cons] at h
    cases h1 : lookW ws m with
    | some u =>
      rw [h1] at h
      obtain ⟨k, hk, e⟩ := ih u h1
      have : u = t := by simpa using h
      subst this
      exact ⟨k + 1, by simp; omega, by rw [e]; simp [List.getD]⟩
    | none =>
      rw [h1] at h
      simp only at h
      split at h
      · have : w.fText = t := by simpa using h
        exact ⟨0, by simp, by rw [← this]; simp [List.getD]⟩
      · cases h
theorem ok_parts {d : DiskD} (h : d.ok = true) : (∀ k, k < 64 → cellB d k = true) ∧ (∀ k, k < d.fWaits.length → waitB d k = true) := by
  have h2 := ok_waits h
  unfold DiskD.ok at h
  simp only [Bool.and_eq_true, decide_eq_true_eq] at h
  exact ⟨fun k hk => allB_at h.2.2.2.1 (by omega), fun k hk => allB_at h.2.2.2.2 hk⟩
theorem look_le {d : DiskD} (h : d.ok = true) (m : Nat) (hm : m < 64) : (d.look m).size ≤ 200 := by
  obtain ⟨h1, h2⟩ := ok_parts h
  unfold DiskD.look
  cases hl : lookW d.fWaits m with
  | none =>
    have := h1 m hm
    unfold cellB at this
    simp only [Bool.and_eq_true, decide_eq_true_eq] at this
    exact this.1
  | some t =>
    obtain ⟨k, hk, e⟩ := lookW_mem _ _ _ hl
    have := h2 k hk
    unfold waitB at this
    simp only [Bool.and_eq_true, decide_eq_true_eq] at this
    rw [Option.getD_some, e]; exact this.2
theorem goneX_size : goneX.size = 200 := by unfold goneX; rw [manyB_size]; rfl
theorem colS_le {d : DiskD} (h : d.ok = true) (m : Nat) (hm : m < 64) : (colS d m).size ≤ 200 := by
  unfold colS
  cases d.fGone with
  | true => show goneX.size ≤ 200; rw [goneX_size]; exact Nat.le_refl _
  | false => exact look_le h m hm
/-- What is read where a pointer leads. -/
def readD (ds : List DiskD) (p : PtrD) : ByteArray × Bool := readF (colS (ds.getD 0 default) p.fAt.toNat) (colS (ds.getD 1 default) p.fAt.toNat) (colS (ds.getD 2 default) p.fAt.toNat) p p.fSize.toNat
def healF (ds : List DiskD) (p : PtrD) : Option (List DiskD × Nat) :=
  bif okR ds && (p.ok && !p.hole) then (bif (readD ds p).2 then (healD ds (readD ds p).1 p.fAt.toNat).map (fun x => (x, cntH ds (readD ds p).1 p.fAt.toNat 3)) else none) else none
theorem colsS_three (ps : List HD) (m : Nat) (hl : ps.length = 3) : colsS ps m = [colS ((dsOf ps).getD 0 default) m, colS ((dsOf ps).getD 1 default) m, colS ((dsOf ps).getD 2 default) m] := by
  match ps, hl with
  | [p0, p1, p2], _ => rfl
theorem okR_three {ps : List HD} (h : okR (dsOf ps) = true) : ps.length = 3 ∧ ∀ k, k < ps.length → (ps.getD k default).d.ok = true := by
  rw [okR_ps] at h
  simp only [Bool.and_eq_true, decide_eq_true_eq] at h
  exact ⟨h.1, fun k hk => allB_at (p := fun k => (ps.getD k default).d.ok) h.2 hk⟩
theorem default_waits (qs ps : List HD) (h : dsOf qs = dsOf ps) (hok : ∀ k, k < ps.length → (ps.getD k default).d.ok = true) (k : Nat) : (qs.getD k default).d.fWaits.length ≤ 1000 := by
  rw [← dsOf_get, h, dsOf_get]
  by_cases hk : k < ps.length
  · have := ok_waits (hok k hk); omega
  · rw [List.getD_eq_getElem?_getD, List.getElem?_eq_none (by omega)]; exact Nat.zero_le _

set_option maxHeartbeats 1000000 in
set_option maxRecDepth 100000 in
theorem specRaidHeal_any (a0 : Option Addr) (c0 : Nat) (ps : List HD) (w0 : World) (hl : ps.length ≤ 1048576) (hf : ∀ k, (ps.getD k default).d.fits) (hR : Rd HD.cells 3 w0 a0 ps.length ps) (hP : ∀ k, k < ps.length → (ps.getD k default).reads w0) (p : PtrD) : Calls Try.prog 33 #[.agg #[.slice a0 ps.length c0], .agg #[.int .i64 p.fAt, .int .i64 p.fBirth, .int .i64 p.fSize, .int .i64 p.fSum, .int .i64 p.fLevel]] w0 fun e w' => (healF (dsOf ps) p = none ∧ e = .returned (.tuple #[.agg #[.slice none 0 0], .int .i64 0, .bool false]) ∧ St w0 [] w') ∨ (∃ ao cp qs nn, healF (dsOf ps) p = some (dsOf qs, nn) ∧ e = .returned (.tuple #[.agg #[.slice ao qs.length cp], .int .i64 (nn : Nat), .bool true]) ∧ St w0 [rowA HD.cells 3 44 (.slice ao qs.length cp) qs, sepA (qs.map HD.asr)] w') := by
  have HR := Bx.mk hR; have HP := Bx.mk hP; clear hR hP
  have HS := Bx.mk (St.start w0)
  refine wc_enter Try.func33 rfl Try.ntmps33 [(0, .agg #[.slice a0 ps.length c0]), (1, .agg #[.int .i64 p.fAt, .int .i64 p.fBirth, .int .i64 p.fSize, .int .i64 p.fSum, .int .i64 p.fLevel])] ⟨rfl, rfl, trivial⟩ rfl ?_; intro a HF
  refine wp_seq ?_
  refine wp_region_lit ?_
  refine wl_box rfl HF rfl (HF.ev rfl) (Z := [.slice a0 ps.length c0]) rfl rfl rfl rfl HS.out ?_; clear HF HS; clear a; intro a w1 b1 HF HS; replace HS := Bx.mk HS
  refine wl_box rfl HF rfl (HF.ev rfl) (Z := [.int .i64 p.fAt, .int .i64 p.fBirth, .int .i64 p.fSize, .int .i64 p.fSum, .int .i64 p.fLevel]) rfl rfl rfl rfl HS.out ?_; clear HF HS; clear a; intro a w2 b2 HF HS; replace HS := Bx.mk HS
  refine wl_alloc rfl HF rfl rfl rfl (Z := [.slice none 0 0]) (by kernel_rfl) rfl HS.out ?_; clear HF HS; clear a; intro a w3 b3 HF HS; replace HS := Bx.mk HS
  refine wl_y rfl HF rfl rfl (yl_assign rfl (HF.ev rfl)) ?_; clear HF; clear a; intro a HF
  refine wl_y rfl HF rfl rfl (yl_assign rfl (HF.ev rfl)) ?_; clear HF; clear a; intro a HF
  refine wpList_nil ?_
  refine ex_then ?_
  refine wp_seq ?_
  refine wp_seq ?_
  refine wp_region_lit ?_
  refine wl_y rfl HF rfl rfl (yl_loadR (cs := [.slice a0 ps.length c0]) rfl (HF.ev rfl) ((HS.out.box 2 rfl).sub 0 1) (by kernel_rfl)) ?_; clear HF; clear a; intro a HF
  refine wl_callB rfl HF rfl (enter_of Try.func51 (by kernel_rfl) rfl) (args := #[.agg #[.slice a0 ps.length c0]]) rfl (v := .bool (okR (dsOf ps))) (specRaidOk_any a0 c0 ps _ hl hf (HR.out.below HS.out.bel) (fun k hk => (HP.out k hk).below HS.out.bel)) rfl rfl HS.out ?_; clear HF HS; clear a; intro w4 a HS HF; replace HS := Bx.mk HS
  refine wl_y rfl HF rfl rfl (yl_not rfl (HF.ev rfl)) ?_; clear HF; clear a; intro a HF
  refine wl_y rfl HF rfl rfl (yl_move rfl (HF.ev rfl)) ?_; clear HF; clear a; intro a HF
  refine HF.cases 10 rfl (fun cc1 HF1 => ?_) (fun cc1 HF1 => ?_)
  · clear HF; have HF := HF1; clear HF1
    have q1 : okR (dsOf ps) = false := by simpa using cc1
    refine wl_skip HF rfl rfl rfl rfl rfl rfl ?_; clear HF; clear a; intro a HF
    refine wl_skip HF rfl rfl rfl rfl rfl rfl ?_; clear HF; clear a; intro a HF
    refine wl_skip HF rfl rfl rfl rfl rfl rfl ?_; clear HF; clear a; intro a HF
    refine wl_y rfl HF rfl rfl (yl_pick_t rfl (HF.ev rfl) (HF.ev rfl)) ?_; clear HF; clear a; intro a HF
    refine wl_y rfl HF rfl rfl (yl_move rfl (HF.ev rfl)) ?_; clear HF; clear a; intro a HF
    refine wl_skip HF rfl rfl rfl rfl rfl rfl ?_; clear HF; clear a; intro a HF
    refine wl_skip HF rfl rfl rfl rfl rfl rfl ?_; clear HF; clear a; intro a HF
    refine wl_y rfl HF rfl rfl (yl_pick_t rfl (HF.ev rfl) (HF.ev rfl)) ?_; clear HF; clear a; intro a HF
    refine wpList_nil ?_
    refine ex_then ?_
    refine wc_true HF rfl ?_
    refine wp_seq ?_
    refine wp_region_lit ?_
    refine wl_y rfl HF rfl rfl (yl_build HF rfl (ps := []) rfl (cs := #[.slice none 0 0]) (by kernel_rfl)) ?_; clear HF; clear a; intro a HF
    refine wl_storeBox rfl HF rfl rfl (HF.ev rfl) (HF.ev rfl) HS.out 0 rfl (cells_lit [.slice none 0 0] rfl rfl) (by kernel_rfl) ?_; clear HS; intro w5 HS; replace HS := Bx.mk HS
    have HS : Bx (St w0 ([boxA b3 1 25 (.agg #[.slice none 0 0]), boxA b2 5 33 (.agg #[.int .i64 p.fAt, .int .i64 p.fBirth, .int .i64 p.fSize, .int .i64 p.fSum, .int .i64 p.fLevel]), boxA b1 1 25 (.agg #[.slice a0 ps.length c0])]) _) := HS
    refine wl_y rfl HF rfl rfl (yl_assign rfl (HF.ev rfl)) ?_; clear HF; clear a; intro a HF
    refine wl_y rfl HF rfl rfl (yl_assign rfl (HF.ev rfl)) ?_; clear HF; clear a; intro a HF
    refine wpList_nil ?_
    refine ex_then ?_
    refine wp_ret ?_
    refine ex_then_ret ?_
    refine bp_ret3 HF Try.results33 (HF.resBox rfl (HS.out.box 0 rfl) (by kernel_rfl)) (HF.res rfl) (HF.res rfl) ?_
    exact .inl ⟨by unfold healF; rw [q1]; simp, rfl, (((HS.out.erase 2).erase 1).erase 0)⟩
  · clear HF; have HF := HF1; clear HF1
    have q1 : okR (dsOf ps) = true := by simpa using cc1
    refine wl_yg HF rfl rfl rfl rfl rfl (yl_loadR (cs := [.int .i64 p.fAt, .int .i64 p.fBirth, .int .i64 p.fSize, .int .i64 p.fSum, .int .i64 p.fLevel]) rfl (HF.ev rfl) ((HS.out.box 1 rfl).sub 0 5) (by kernel_rfl)) ?_; clear HF; clear a; intro a HF
    refine wl_callBg HF rfl rfl rfl rfl (enter_of Try.func101 (by kernel_rfl) rfl) (args := #[.agg #[.int .i64 p.fAt, .int .i64 p.fBirth, .int .i64 p.fSize, .int .i64 p.fSum, .int .i64 p.fLevel]]) rfl (v := .bool p.ok) (specPtrOk_any p _) rfl rfl HS.out ?_; clear HF HS; clear a; intro w6 a HS HF; replace HS := Bx.mk HS
    refine wl_yg HF rfl rfl rfl rfl rfl (yl_not rfl (HF.ev rfl)) ?_; clear HF; clear a; intro a HF
    refine wl_y rfl HF rfl rfl (yl_pick_f rfl (HF.ev rfl) (HF.ev rfl)) ?_; clear HF; clear a; intro a HF
    refine wl_y rfl HF rfl rfl (yl_move rfl (HF.ev rfl)) ?_; clear HF; clear a; intro a HF
    refine HF.cases 15 rfl (fun cc2 HF1 => ?_) (fun cc2 HF1 => ?_)
    · clear HF; have HF := HF1; clear HF1
      have q2 : p.ok = false := by simpa using cc2
      refine wl_skip HF rfl rfl rfl rfl rfl rfl ?_; clear HF; clear a; intro a HF
      refine wl_skip HF rfl rfl rfl rfl rfl rfl ?_; clear HF; clear a; intro a HF
      refine wl_y rfl HF rfl rfl (yl_pick_t rfl (HF.ev rfl) (HF.ev rfl)) ?_; clear HF; clear a; intro a HF
      refine wpList_nil ?_
      refine ex_then ?_
      refine wc_true HF rfl ?_
      refine wp_seq ?_
      refine wp_region_lit ?_
      refine wl_y rfl HF rfl rfl (yl_build HF rfl (ps := []) rfl (cs := #[.slice none 0 0]) (by kernel_rfl)) ?_; clear HF; clear a; intro a HF
      refine wl_storeBox rfl HF rfl rfl (HF.ev rfl) (HF.ev rfl) HS.out 0 rfl (cells_lit [.slice none 0 0] rfl rfl) (by kernel_rfl) ?_; clear HS; intro w7 HS; replace HS := Bx.mk HS
      have HS : Bx (St w0 ([boxA b3 1 25 (.agg #[.slice none 0 0]), boxA b2 5 33 (.agg #[.int .i64 p.fAt, .int .i64 p.fBirth, .int .i64 p.fSize, .int .i64 p.fSum, .int .i64 p.fLevel]), boxA b1 1 25 (.agg #[.slice a0 ps.length c0])]) _) := HS
      refine wl_y rfl HF rfl rfl (yl_assign rfl (HF.ev rfl)) ?_; clear HF; clear a; intro a HF
      refine wl_y rfl HF rfl rfl (yl_assign rfl (HF.ev rfl)) ?_; clear HF; clear a; intro a HF
      refine wpList_nil ?_
      refine ex_then ?_
      refine wp_ret ?_
      refine ex_then_ret ?_
      refine bp_ret3 HF Try.results33 (HF.resBox rfl (HS.out.box 0 rfl) (by kernel_rfl)) (HF.res rfl) (HF.res rfl) ?_
      exact .inl ⟨by unfold healF; rw [q1, q2]; simp, rfl, (((HS.out.erase 2).erase 1).erase 0)⟩
    · clear HF; have HF := HF1; clear HF1
      have q2 : p.ok = true := by simpa using cc2
      refine wl_yg HF rfl rfl rfl rfl rfl (yl_loadR (cs := [.int .i64 p.fAt, .int .i64 p.fBirth, .int .i64 p.fSize, .int .i64 p.fSum, .int .i64 p.fLevel]) rfl (HF.ev rfl) ((HS.out.box 1 rfl).sub 0 5) (by kernel_rfl)) ?_; clear HF; clear a; intro a HF
      refine wl_callBg HF rfl rfl rfl rfl (enter_of Try.func102 (by kernel_rfl) rfl) (args := #[.agg #[.int .i64 p.fAt, .int .i64 p.fBirth, .int .i64 p.fSize, .int .i64 p.fSum, .int .i64 p.fLevel]]) rfl (v := .bool p.hole) (specHole_any p _) rfl rfl HS.out ?_; clear HF HS; clear a; intro w8 a HS HF; replace HS := Bx.mk HS
      refine wl_y rfl HF rfl rfl (yl_pick_f rfl (HF.ev rfl) (HF.ev rfl)) ?_; clear HF; clear a; intro a HF
      refine wpList_nil ?_
      refine ex_then ?_
      refine HF.cases 18 rfl (fun cc3 HF1 => ?_) (fun cc3 HF1 => ?_)
      · clear HF; have HF := HF1; clear HF1
        have q3 : p.hole = true := by simpa using cc3
        refine wc_true HF rfl ?_
        refine wp_seq ?_
        refine wp_region_lit ?_
        refine wl_y rfl HF rfl rfl (yl_build HF rfl (ps := []) rfl (cs := #[.slice none 0 0]) (by kernel_rfl)) ?_; clear HF; clear a; intro a HF
        refine wl_storeBox rfl HF rfl rfl (HF.ev rfl) (HF.ev rfl) HS.out 0 rfl (cells_lit [.slice none 0 0] rfl rfl) (by kernel_rfl) ?_; clear HS; intro w9 HS; replace HS := Bx.mk HS
        have HS : Bx (St w0 ([boxA b3 1 25 (.agg #[.slice none 0 0]), boxA b2 5 33 (.agg #[.int .i64 p.fAt, .int .i64 p.fBirth, .int .i64 p.fSize, .int .i64 p.fSum, .int .i64 p.fLevel]), boxA b1 1 25 (.agg #[.slice a0 ps.length c0])]) _) := HS
        refine wl_y rfl HF rfl rfl (yl_assign rfl (HF.ev rfl)) ?_; clear HF; clear a; intro a HF
        refine wl_y rfl HF rfl rfl (yl_assign rfl (HF.ev rfl)) ?_; clear HF; clear a; intro a HF
        refine wpList_nil ?_
        refine ex_then ?_
        refine wp_ret ?_
        refine ex_then_ret ?_
        refine bp_ret3 HF Try.results33 (HF.resBox rfl (HS.out.box 0 rfl) (by kernel_rfl)) (HF.res rfl) (HF.res rfl) ?_
        exact .inl ⟨by unfold healF; rw [q1, q2, q3]; simp, rfl, (((HS.out.erase 2).erase 1).erase 0)⟩
      · clear HF; have HF := HF1; clear HF1
        have q3 : p.hole = false := by simpa using cc3
        refine wc_false HF rfl ?_
        refine wp_skip ?_
        refine ex_then ?_
        refine wp_seq ?_
        have h3 := okR_three q1; have hbd := PtrD.ok_bounds q2 q3
        obtain ⟨m, hpa⟩ : ∃ m : Nat, p.fAt = (m : Int) := ⟨p.fAt.toNat, by omega⟩; obtain ⟨n, hps⟩ : ∃ n : Nat, p.fSize = (n : Int) := ⟨p.fSize.toNat, by omega⟩
        have hokd : ∀ k, k < 3 → (colS ((dsOf ps).getD k default) m).size ≤ 1048576 := fun k hk => by rw [dsOf_get]; exact Nat.le_trans (colS_le (h3.2 k (by omega)) m (by omega)) (by decide)
        have hz0 := hokd 0 (by omega); have hz1 := hokd 1 (by omega); have hz2 := hokd 2 (by omega)
        have hm1 : p.fAt.toNat = m := by omega
        have hn1 : p.fSize.toNat = n := by omega
        refine wr_heldS (s := [boxA b2 5 33 (.agg #[.int .i64 p.fAt, .int .i64 p.fBirth, .int .i64 p.fSize, .int .i64 p.fSum, .int .i64 p.fLevel]), boxA b1 1 25 (.agg #[.slice a0 ps.length c0])]) (by kernel_rfl) (St.drew ((HS.out.erase 0))) ?_
        have HS2 := Bx.mk HS.out.drew; replace HS := Bx.mk (show St w0 ([boxA b2 5 33 (.agg #[.int .i64 p.fAt, .int .i64 p.fBirth, .int .i64 p.fSize, .int .i64 p.fSum, .int .i64 p.fLevel]), boxA b1 1 25 (.agg #[.slice a0 ps.length c0])]) _ from (HS.out.drew.erase 0))
        generalize World.drew _ = w10 at HS HS2 ⊢
        refine wh_y 0 rfl (by kernel_rfl) (by kernel_rfl) (by kernel_rfl) (fun _ _ _ h => h) rfl HF rfl rfl (fun _ HS => (yl_loadR (cs := [.slice a0 ps.length c0]) rfl (HF.ev rfl) ((HS.box 1 rfl).sub 0 1) (by kernel_rfl))) HS.out ?_; clear HF; clear a; intro a HF
        refine wh_y 2 rfl (by kernel_rfl) (by kernel_rfl) (by kernel_rfl) (fun _ _ _ h => h) rfl HF rfl rfl (fun _ HS => (yl_loadR (cs := [.int .i64 p.fAt, .int .i64 p.fBirth, .int .i64 p.fSize, .int .i64 p.fSum, .int .i64 p.fLevel]) rfl (HF.ev rfl) ((HS.box 0 rfl).sub 0 5) (by kernel_rfl))) HS.out ?_; clear HF; clear a; intro a HF
        refine wh_one 1 (by kernel_rfl) ?_
        refine wo_call rfl rfl HF rfl (enter_of Try.func55 (by kernel_rfl) rfl) (args := #[.agg #[.slice a0 ps.length c0]]) rfl (l4Copy_any a0 c0 ps _ hl hf (HR.out.below HS2.out.bel) (fun k hk => (HP.out k hk).below HS2.out.bel)) rfl rfl ?_
        rintro _ w11 ⟨ao, cp, qs, rfl, hqs, hs⟩; refine ⟨_, rfl, ?_⟩; replace HS := Bx.mk (HS.out.later hs.bel); replace HS2 := Bx.mk (HS2.out.add hs); clear hs HF; clear a; intro a HF
        replace HS2 : Bx (St w0 ([rowA HD.cells 3 44 (.slice ao qs.length cp) qs, sepA (qs.map HD.asr), boxA b3 1 25 (.agg #[.slice none 0 0]), boxA b2 5 33 (.agg #[.int .i64 p.fAt, .int .i64 p.fBirth, .int .i64 p.fSize, .int .i64 p.fSum, .int .i64 p.fLevel]), boxA b1 1 25 (.agg #[.slice a0 ps.length c0])]) _) := ⟨HS2.out⟩
        have hql : qs.length = 3 := by rw [← dsOf_len, hqs, dsOf_len]; exact h3.1
        obtain ⟨g4, rfl, _, _, _, _⟩ := HS2.out.rowOpen 0 rfl (by omega)
        rw [hql] at HS2 HF
        replace HS2 : Bx (St w0 ([rowA HD.cells 3 44 (.slice (some ⟨g4, 0, none⟩) 3 cp) qs, sepA (qs.map HD.asr), boxA b3 1 25 (.agg #[.slice none 0 0]), boxA b2 5 33 (.agg #[.int .i64 p.fAt, .int .i64 p.fBirth, .int .i64 p.fSize, .int .i64 p.fSum, .int .i64 p.fLevel]), boxA b1 1 25 (.agg #[.slice a0 ps.length c0])]) _) := ⟨HS2.out⟩
        refine ⟨HS.out, ?_⟩
        refine wh_one 3 (by kernel_rfl) ?_
        replace HS2 : Bx (St w0 ([rowA HD.cells 3 44 (.slice (some ⟨g4, 0, none⟩) 3 cp) qs, sepA (qs.map HD.asr), boxA b3 1 25 (.agg #[.slice none 0 0]), boxA b2 5 33 (.agg #[.int .i64 p.fAt, .int .i64 p.fBirth, .int .i64 p.fSize, .int .i64 p.fSum, .int .i64 p.fLevel]), boxA b1 1 25 (.agg #[.slice a0 ps.length c0])]) _) := ⟨((HS2.out).pick 1 rfl).pick 1 rfl⟩
        refine wo_call rfl rfl HF rfl (enter_of Try.func103 (by kernel_rfl) rfl) (args := #[.agg #[.slice (some ⟨g4, 0, none⟩) 3 cp], .agg #[.int .i64 p.fAt, .int .i64 p.fBirth, .int .i64 p.fSize, .int .i64 p.fSum, .int .i64 p.fLevel]]) rfl (l4Heal_any w0 _ g4 cp qs _ hql (fun k hk => by rw [← dsOf_get, hqs, dsOf_get]; exact h3.2 k (by omega)) (default_waits qs ps hqs h3.2) p m n hpa hps (by omega) (by omega) (by omega) _ _ _ hz0 hz1 hz2 (by rw [colsS_three qs m hql, hqs]) HS2.out) rfl rfl ?_
        rintro _ w12 (⟨hbad, rfl, hs⟩ | ⟨hrd, us, hev, rfl, hs⟩)
        · skip
          refine ⟨_, rfl, ?_⟩; replace HS2 := Bx.mk hs; clear hs HF; clear a; intro a HF
          replace HS2 : Bx (St w0 ([boxA b3 1 25 (.agg #[.slice none 0 0]), boxA b2 5 33 (.agg #[.int .i64 p.fAt, .int .i64 p.fBirth, .int .i64 p.fSize, .int .i64 p.fSum, .int .i64 p.fLevel]), boxA b1 1 25 (.agg #[.slice a0 ps.length c0])]) _) := ⟨HS2.out⟩
          clear HS; have HS : Bx (St w0 ([boxA b2 5 33 (.agg #[.int .i64 p.fAt, .int .i64 p.fBirth, .int .i64 p.fSize, .int .i64 p.fSum, .int .i64 p.fLevel]), boxA b1 1 25 (.agg #[.slice a0 ps.length c0])]) _) := ⟨(HS2.out.erase 0)⟩; refine ⟨HS.out, ?_⟩
          refine wh_y 4 rfl (by kernel_rfl) (by kernel_rfl) (by kernel_rfl) (fun _ _ _ h => h) rfl HF rfl rfl (fun _ HS => (yl_extract rfl (HF.ev rfl) rfl)) HS.out ?_; clear HF; clear a; intro a HF
          refine wh_y 5 rfl (by kernel_rfl) (by kernel_rfl) (by kernel_rfl) (fun _ _ _ h => h) rfl HF rfl rfl (fun _ HS => (yl_extract rfl (HF.ev rfl) rfl)) HS.out ?_; clear HF; clear a; intro a HF
          refine wh_y 6 rfl (by kernel_rfl) (by kernel_rfl) (by kernel_rfl) (fun _ _ _ h => h) rfl HF rfl rfl (fun _ HS => (yl_extract rfl (HF.ev rfl) rfl)) HS.out ?_; clear HF; clear a; intro a HF
          refine wh_one 7 (by kernel_rfl) ?_
          refine wo_storeBox rfl rfl rfl rfl (HF.ev rfl) (HF.ev rfl) HS2.out 0 rfl (cells_lit [.slice none 0 0] rfl rfl) (by kernel_rfl) ?_
          clear HS HS2; intro w13 HS2; replace HS2 : Bx (St w0 ([boxA b3 1 25 (.agg #[.slice none 0 0]), boxA b2 5 33 (.agg #[.int .i64 p.fAt, .int .i64 p.fBirth, .int .i64 p.fSize, .int .i64 p.fSum, .int .i64 p.fLevel]), boxA b1 1 25 (.agg #[.slice a0 ps.length c0])]) _) := ⟨HS2⟩
          have HS : Bx (St w0 ([boxA b2 5 33 (.agg #[.int .i64 p.fAt, .int .i64 p.fBirth, .int .i64 p.fSize, .int .i64 p.fSum, .int .i64 p.fLevel]), boxA b1 1 25 (.agg #[.slice a0 ps.length c0])]) _) := ⟨(HS2.out.erase 0)⟩; refine ⟨HS.out, ?_⟩
          refine wh_y 8 rfl (by kernel_rfl) (by kernel_rfl) (by kernel_rfl) (fun _ _ _ h => h) rfl HF rfl rfl (fun _ HS => (yl_assign rfl (HF.ev rfl))) HS.out ?_; clear HF; clear a; intro a HF
          refine wh_y 9 rfl (by kernel_rfl) (by kernel_rfl) (by kernel_rfl) (fun _ _ _ h => h) rfl HF rfl rfl (fun _ HS => (yl_assign rfl (HF.ev rfl))) HS.out ?_; clear HF; clear a; intro a HF
          refine wh_done (by kernel_rfl) ?_
          replace HS := HS2; clear HS2
          refine ex_then ?_
          refine wp_ret ?_
          refine bp_ret3 HF Try.results33 (HF.resBox rfl (HS.out.box 0 rfl) (by kernel_rfl)) (HF.res rfl) (HF.res rfl) ?_
          refine .inl ⟨?_, rfl, (((HS.out.erase 2).erase 1).erase 0)⟩
          unfold healF; rw [q1, q2, q3]; unfold readD; rw [hm1, hn1]
          rcases hbad with hbad | ⟨hrd, hev⟩
          · rw [hbad]; rfl
          · rw [hrd]; rw [hqs] at hev; rw [hev]; rfl
        · skip
          refine ⟨_, rfl, ?_⟩; replace HS2 := Bx.mk hs; clear hs HF; clear a; intro a HF
          replace HS2 : Bx (St w0 ([rowA HD.cells 3 44 (.slice (some ⟨g4, 0, none⟩) 3 cp) us, sepA (us.map HD.asr), boxA b3 1 25 (.agg #[.slice none 0 0]), boxA b2 5 33 (.agg #[.int .i64 p.fAt, .int .i64 p.fBirth, .int .i64 p.fSize, .int .i64 p.fSum, .int .i64 p.fLevel]), boxA b1 1 25 (.agg #[.slice a0 ps.length c0])]) _) := ⟨HS2.out⟩
          clear HS; have HS : Bx (St w0 ([boxA b2 5 33 (.agg #[.int .i64 p.fAt, .int .i64 p.fBirth, .int .i64 p.fSize, .int .i64 p.fSum, .int .i64 p.fLevel]), boxA b1 1 25 (.agg #[.slice a0 ps.length c0])]) _) := ⟨(((HS2.out.erase 2).erase 1).erase 0)⟩; refine ⟨HS.out, ?_⟩
          refine wh_y 4 rfl (by kernel_rfl) (by kernel_rfl) (by kernel_rfl) (fun _ _ _ h => h) rfl HF rfl rfl (fun _ HS => (yl_extract rfl (HF.ev rfl) rfl)) HS.out ?_; clear HF; clear a; intro a HF
          refine wh_y 5 rfl (by kernel_rfl) (by kernel_rfl) (by kernel_rfl) (fun _ _ _ h => h) rfl HF rfl rfl (fun _ HS => (yl_extract rfl (HF.ev rfl) rfl)) HS.out ?_; clear HF; clear a; intro a HF
          refine wh_y 6 rfl (by kernel_rfl) (by kernel_rfl) (by kernel_rfl) (fun _ _ _ h => h) rfl HF rfl rfl (fun _ HS => (yl_extract rfl (HF.ev rfl) rfl)) HS.out ?_; clear HF; clear a; intro a HF
          refine wh_one 7 (by kernel_rfl) ?_
          refine wo_storeBox rfl rfl rfl rfl (HF.ev rfl) (HF.ev rfl) HS2.out 2 rfl (cells_lit [.slice (some ⟨g4, 0, none⟩) 3 cp] rfl rfl) (by kernel_rfl) ?_
          clear HS HS2; intro w14 HS2; replace HS2 : Bx (St w0 ([rowA HD.cells 3 44 (.slice (some ⟨g4, 0, none⟩) 3 cp) us, sepA (us.map HD.asr), boxA b3 1 25 (.agg #[.slice (some ⟨g4, 0, none⟩) 3 cp]), boxA b2 5 33 (.agg #[.int .i64 p.fAt, .int .i64 p.fBirth, .int .i64 p.fSize, .int .i64 p.fSum, .int .i64 p.fLevel]), boxA b1 1 25 (.agg #[.slice a0 ps.length c0])]) _) := ⟨HS2⟩
          have HS : Bx (St w0 ([boxA b2 5 33 (.agg #[.int .i64 p.fAt, .int .i64 p.fBirth, .int .i64 p.fSize, .int .i64 p.fSum, .int .i64 p.fLevel]), boxA b1 1 25 (.agg #[.slice a0 ps.length c0])]) _) := ⟨(((HS2.out.erase 2).erase 1).erase 0)⟩; refine ⟨HS.out, ?_⟩
          refine wh_y 8 rfl (by kernel_rfl) (by kernel_rfl) (by kernel_rfl) (fun _ _ _ h => h) rfl HF rfl rfl (fun _ HS => (yl_assign rfl (HF.ev rfl))) HS.out ?_; clear HF; clear a; intro a HF
          refine wh_y 9 rfl (by kernel_rfl) (by kernel_rfl) (by kernel_rfl) (fun _ _ _ h => h) rfl HF rfl rfl (fun _ HS => (yl_assign rfl (HF.ev rfl))) HS.out ?_; clear HF; clear a; intro a HF
          refine wh_done (by kernel_rfl) ?_
          replace HS := HS2; clear HS2
          refine ex_then ?_
          refine wp_ret ?_
          refine bp_ret3 HF Try.results33 (HF.resBox rfl (HS.out.box 2 rfl) (by kernel_rfl)) (HF.res rfl) (HF.res rfl) ?_
          replace HS : Bx (St w0 ([rowA HD.cells 3 44 (.slice (some ⟨g4, 0, none⟩) 3 cp) us, sepA (us.map HD.asr), boxA b3 1 25 (.agg #[.slice (some ⟨g4, 0, none⟩) 3 cp]), boxA b2 5 33 (.agg #[.int .i64 p.fAt, .int .i64 p.fBirth, .int .i64 p.fSize, .int .i64 p.fSum, .int .i64 p.fLevel]), boxA b1 1 25 (.agg #[.slice a0 ps.length c0])]) _) := ⟨((HS.out).pick 1 rfl).pick 1 rfl⟩
          have hul : us.length = 3 := by rw [← dsOf_len]; exact eachTo_len hev
          have HT := (((HS.out.erase 4).erase 3).erase 2)
          refine .inr ⟨_, _, us, cntH (dsOf ps) (readD (dsOf ps) p).1 m 3, ?_, ?_, by rw [hul]; exact HT⟩
          · unfold healF; rw [q1, q2, q3]; unfold readD; rw [hm1, hn1, hrd]; rw [hqs] at hev; rw [hev]; rfl
          · rw [hul]; unfold readD; rw [hm1, hn1, hqs]; rfl

end Go.Proofs.Ytfijfjjleelphaa

/- Reading a set of disks, by the program. -/
namespace Go.Proofs.Ytfijfjjleelphaa
open Go.RowKit

def colP (d : DiskD) (m : Nat) : ByteArray := bif d.fGone then ByteArray.empty else d.look m
def colsPTo (ps : List HD) (m k : Nat) : List ByteArray := ((ps.take k).map fun p => colP p.d m) ++ List.replicate (ps.length - k) ByteArray.empty
theorem colsPTo_len (ps : List HD) (m k : Nat) (hk : k ≤ ps.length) : (colsPTo ps m k).length = ps.length := by
  unfold colsPTo; simp; omega
theorem colsPTo_succ (ps : List HD) (m k : Nat) (hk : k < ps.length) (t : ByteArray) (ht : colP (ps.getD k default).d m = t) : (colsPTo ps m k).set k t = colsPTo ps m (k + 1) := by
  unfold colsPTo
  rw [List.take_succ_eq_append_getElem hk, List.map_append, List.map_cons, List.map_nil, ← getD_get hk, ht]
  rw [show ps.length - k = (ps.length - (k + 1)) + 1 by omega, List.replicate_succ]
  rw [List.set_append_right _ _ (by simp; omega)]
  have : k - ((ps.take k).map fun p => colP p.d m).length = 0 := by simp; omega
  rw [this]
  simp
theorem colsPTo_gone (ps : List HD) (m k : Nat) (hk : k < ps.length) (ht : colP (ps.getD k default).d m = ByteArray.empty) : colsPTo ps m k = colsPTo ps m (k + 1) := by
  unfold colsPTo
  rw [List.take_succ_eq_append_getElem hk, List.map_append, List.map_cons, List.map_nil, ← getD_get hk, ht]
  rw [show ps.length - k = (ps.length - (k + 1)) + 1 by omega, List.replicate_succ]
  simp
/-- Some disk that this way uses is gone. -/
def goneT (ps : List HD) (lost : Int) : Nat → Bool
  | 0 => false
  | k + 1 => goneT ps lost k || ((ps.getD k default).d.fGone && (((k : Int) != lost) && (decide ((k : Int) < 2) || decide (0 ≤ lost))))

theorem colsPTo_three (ps : List HD) (m : Nat) (hl : ps.length = 3) : colsPTo ps m ps.length = [colP (ps.getD 0 default).d m, colP (ps.getD 1 default).d m, colP (ps.getD 2 default).d m] := by
  match ps, hl with
  | [p0, p1, p2], _ => rfl
theorem joinJ_any (ao : Option Addr) (cap : Nat) (c0 c1 c2 : ByteArray) (n j : Nat) (hj : j < 3) (w0 : World) (hn : 1 ≤ n) (hl : n ≤ 128) (h0 : c0.size ≤ 1048576) (h1 : c1.size ≤ 1048576) (h2 : c2.size ≤ 1048576) (hr : Rd encS 1 w0 ao 3 [c0, c1, c2]) : Calls Try.prog 19 #[.slice ao 3 cap, .int .i64 (n : Int), .int .i64 ((j : Int) - 1)] w0 fun e w' => e = .returned (.tuple #[.string ((joinB c0 c1 c2 n ((j : Int) - 1)).getD ByteArray.empty), .bool (joinB c0 c1 c2 n ((j : Int) - 1)).isSome]) ∧ Below w0.heap.size w0 w' := by
  match j, hj with
  | 0, _ => exact joinN_any ao cap c0 c1 c2 n w0 hn hl h0 h1 h2 hr
  | 1, _ => exact joinZ_any ao cap c0 c1 c2 n w0 hn hl h0 h1 h2 hr
  | 2, _ => exact joinO_any ao cap c0 c1 c2 n w0 hn hl h0 h1 h2 hr
/-- Does this way tell a text? -/
def tryP (ps : List HD) (y0 y1 y2 : ByteArray) (p : PtrD) (n j : Nat) : Bool := !goneT ps ((j : Int) - 1) ps.length && ((joinB y0 y1 y2 n ((j : Int) - 1)).isSome && p.fits ((joinB y0 y1 y2 n ((j : Int) - 1)).getD ByteArray.empty))
def readPF (ps : List HD) (y0 y1 y2 : ByteArray) (p : PtrD) (n : Nat) : ByteArray × Bool :=
  bif tryP ps y0 y1 y2 p n 0 then ((joinB y0 y1 y2 n (-1)).getD ByteArray.empty, true)
  else bif tryP ps y0 y1 y2 p n 1 then ((joinB y0 y1 y2 n 0).getD ByteArray.empty, true)
  else bif tryP ps y0 y1 y2 p n 2 then ((joinB y0 y1 y2 n 1).getD ByteArray.empty, true) else (ByteArray.empty, false)
theorem readPF_at {ps : List HD} {y0 y1 y2 : ByteArray} {p : PtrD} {n j : Nat} (hj : j < 3) (hb : ∀ i, i < j → tryP ps y0 y1 y2 p n i = false) (h : tryP ps y0 y1 y2 p n j = true) : readPF ps y0 y1 y2 p n = ((joinB y0 y1 y2 n ((j : Int) - 1)).getD ByteArray.empty, true) := by
  match j, hj with
  | 0, _ => unfold readPF; rw [h]; rfl
  | 1, _ => unfold readPF; rw [hb 0 (by omega), h]; rfl
  | 2, _ => unfold readPF; rw [hb 0 (by omega), hb 1 (by omega), h]; rfl
theorem readPF_none {ps : List HD} {y0 y1 y2 : ByteArray} {p : PtrD} {n : Nat} (hb : ∀ i, i < 3 → tryP ps y0 y1 y2 p n i = false) : readPF ps y0 y1 y2 p n = (ByteArray.empty, false) := by
  unfold readPF; rw [hb 0 (by omega), hb 1 (by omega), hb 2 (by omega)]; rfl

set_option maxHeartbeats 1000000 in
set_option maxRecDepth 100000 in
theorem read_any (a0 : Option Addr) (c0 : Nat) (ps : List HD) (w0 : World) (hl : ps.length = 3) (hok : ∀ k, k < ps.length → (ps.getD k default).d.ok = true) (hR : Rd HD.cells 3 w0 a0 ps.length ps) (hP : ∀ k, k < ps.length → (ps.getD k default).reads w0) (p : PtrD) (m n : Nat) (hpa : p.fAt = (m : Int)) (hps : p.fSize = (n : Int)) (hm : m < 64) (hn1 : 1 ≤ n) (hn2 : n ≤ 128) (hcz : ∀ k, k < 3 → (colP (ps.getD k default).d m).size ≤ 1048576) : Calls Try.prog 64 #[.agg #[.slice a0 ps.length c0], .agg #[.int .i64 p.fAt, .int .i64 p.fBirth, .int .i64 p.fSize, .int .i64 p.fSum, .int .i64 p.fLevel]] w0 fun e w' => e = .returned (.tuple #[.string (readPF ps (colP (ps.getD 0 default).d m) (colP (ps.getD 1 default).d m) (colP (ps.getD 2 default).d m) p n).1, .bool (readPF ps (colP (ps.getD 0 default).d m) (colP (ps.getD 1 default).d m) (colP (ps.getD 2 default).d m) p n).2]) ∧ Below w0.heap.size w0 w' := by
  have HR := Bx.mk hR; have HP := Bx.mk hP; clear hR hP
  have HS := Bx.mk (St.start w0)
  refine wc_enter Try.func64 rfl Try.ntmps64 [(0, .agg #[.slice a0 ps.length c0]), (1, .agg #[.int .i64 p.fAt, .int .i64 p.fBirth, .int .i64 p.fSize, .int .i64 p.fSum, .int .i64 p.fLevel])] ⟨rfl, rfl, trivial⟩ rfl ?_; intro a HF
  refine wp_seq ?_
  refine wp_region_lit ?_
  refine wl_box rfl HF rfl (HF.ev rfl) (Z := [.slice a0 ps.length c0]) rfl rfl rfl rfl HS.out ?_; clear HF HS; clear a; intro a w1 b1 HF HS; replace HS := Bx.mk HS
  refine wl_box rfl HF rfl (HF.ev rfl) (Z := [.int .i64 p.fAt, .int .i64 p.fBirth, .int .i64 p.fSize, .int .i64 p.fSum, .int .i64 p.fLevel]) rfl rfl rfl rfl HS.out ?_; clear HF HS; clear a; intro a w2 b2 HF HS; replace HS := Bx.mk HS
  refine wl_y rfl HF rfl rfl (yl_assign rfl (HF.ev rfl)) ?_; clear HF; clear a; intro a HF
  refine wl_y rfl HF rfl rfl (yl_assign rfl (HF.ev rfl)) ?_; clear HF; clear a; intro a HF
  refine wpList_nil ?_
  refine ex_then ?_
  refine wp_seq ?_
  refine wp_region_lit ?_
  refine wl_makeS (enc := encS) (n := 3) rfl HF rfl rfl rfl elemS (HF.ev rfl) (HF.ev rfl) (by omega) (by omega) (by omega) (by unfold maxLen; omega) ByteArray.empty (by kernel_rfl) rfl rfl HS.out ?_; clear HF HS; clear a; intro b3 a w3 HF HS; replace HS := Bx.mk HS
  refine wl_y rfl HF rfl rfl (yl_assign rfl (HF.ev rfl)) ?_; clear HF; clear a; intro a HF
  refine wpList_nil ?_
  refine ex_then ?_
  refine wp_seq ?_
  refine wp_seq ?_
  refine wp_region_lit ?_
  refine wl_y rfl HF rfl rfl (yl_fieldAddr (j := 0) rfl (HF.ev rfl) (by kernel_rfl)) ?_; clear HF; clear a; intro a HF
  refine wl_y rfl HF rfl rfl (yl_load (v := .slice a0 ps.length c0) rfl (HF.ev rfl) (((HS.out.box 2 rfl).cell 0).trans rfl) (by kernel_rfl)) ?_; clear HF; clear a; intro a HF
  refine wl_y rfl HF rfl rfl (yl_lenL (e := 44) (size := 3) rfl (HF.ev rfl) (by kernel_rfl)) ?_; clear HF; clear a; intro a HF
  refine wl_y rfl HF rfl rfl (yl_move rfl (HF.ev rfl)) ?_; clear HF; clear a; intro a HF
  refine wpList_nil ?_
  refine ex_then ?_
  refine wp_block ?_
  rw [show List.replicate 3 ByteArray.empty = colsPTo ps m 0 by unfold colsPTo; rw [hl]; rfl] at HS
  refine wc_loop (ι := Nat) (fun k a w => (k ≤ ps.length) ∧ Fr 82 a [(2, .pointer (some ⟨b1, 0, none⟩)), (3, .pointer (some ⟨b2, 0, none⟩)), (4, .string (⟨#[]⟩ : ByteArray)), (5, .bool false), (6, .slice (some ⟨b3, 0, none⟩) 3 3), (17, .slice a0 ps.length c0), (18, .int .i64 (ps.length : Int)), (19, .int .i64 (k : Int))] ∧ St w0 ([rowA encS 1 9 (.slice (some ⟨b3, 0, none⟩) 3 3) (colsPTo ps m k), boxA b2 5 33 (.agg #[.int .i64 p.fAt, .int .i64 p.fBirth, .int .i64 p.fSize, .int .i64 p.fSum, .int .i64 p.fLevel]), boxA b1 1 25 (.agg #[.slice a0 ps.length c0])]) w) (fun k => ps.length - k) 0 ⟨Nat.zero_le _, HF.less _ ⟨rfl, rfl, rfl, rfl, rfl, rfl, rfl, rfl, trivial⟩, HS.out⟩ ?_
  clear HF HS; clear a
  rintro k a w4 ⟨hk, HF, HS⟩
  replace HS := Bx.mk HS
  refine wp_seq ?_
  refine wp_region_lit ?_
  refine wl_y rfl HF rfl rfl (yl_lssI rfl (HF.ev rfl) (HF.ev rfl)) ?_; clear HF; clear a; intro a HF
  refine wpList_nil ?_
  refine ex_then ?_
  refine wp_seq ?_
  refine HF.cases 20 rfl (fun cc1 HF1 => ?_) (fun cc1 HF1 => ?_)
  · clear HF; have HF := HF1; clear HF1
    have dcc1 := of_decide_eq_true cc1
    refine wc_true HF rfl ?_
    refine wp_skip ?_
    refine ex_then ?_
    refine wp_seq ?_
    refine wp_block ?_
    refine wp_seq ?_
    obtain ⟨g0, o0, r0⟩ := HR.out.opn; have R0 := Bx.mk r0; clear r0
    have hok2 := ok_waits (hok k (by omega)); have hcl := colsPTo_len ps m k (by omega)
    refine wp_region_lit ?_
    refine wl_y rfl HF rfl rfl (yl_move rfl (HF.ev rfl)) ?_; clear HF; clear a; intro a HF
    refine wl_y rfl HF rfl rfl (yl_indexAddrR (e := 44) (i := k) (size := 3) rfl (HF.ev rfl) (HF.ev rfl) (by kernel_rfl) rfl (by omega) (R0.out.ao k (by omega))) ?_; clear HF; clear a; intro a HF
    refine wl_y rfl HF rfl rfl (yl_loadR (cs := [.slice ((ps.getD k default).a0) ((ps.getD k default).d.fCells.length) ((ps.getD k default).c0), .slice ((ps.getD k default).a1) ((ps.getD k default).d.fWaits.length) ((ps.getD k default).c1), .bool ((ps.getD k default).d.fGone)]) rfl (HF.ev rfl) (R0.out.elem HS.out (get_getD (xs := ps) (j := k) (d := default) (by omega))) (by kernel_rfl)) ?_; clear HF; clear a; intro a HF
    refine wl_alloc rfl HF rfl rfl rfl (Z := [.slice none 0 0, .slice none 0 0, .bool false]) (by kernel_rfl) rfl HS.out ?_; clear HF HS; clear a; intro a w5 b4 HF HS; replace HS := Bx.mk HS
    refine wl_y rfl HF rfl rfl (yl_assign rfl (HF.ev rfl)) ?_; clear HF; clear a; intro a HF
    refine wl_storeBox rfl HF rfl rfl (HF.ev rfl) (HF.ev rfl) HS.out 0 rfl (cells_lit [.slice ((ps.getD k default).a0) ((ps.getD k default).d.fCells.length) ((ps.getD k default).c0), .slice ((ps.getD k default).a1) ((ps.getD k default).d.fWaits.length) ((ps.getD k default).c1), .bool ((ps.getD k default).d.fGone)] rfl rfl) (by kernel_rfl) ?_; clear HS; intro w6 HS; replace HS := Bx.mk HS
    have HS : Bx (St w0 ([boxA b4 3 44 (.agg #[.slice ((ps.getD k default).a0) ((ps.getD k default).d.fCells.length) ((ps.getD k default).c0), .slice ((ps.getD k default).a1) ((ps.getD k default).d.fWaits.length) ((ps.getD k default).c1), .bool ((ps.getD k default).d.fGone)]), rowA encS 1 9 (.slice (some ⟨b3, 0, none⟩) 3 3) (colsPTo ps m k), boxA b2 5 33 (.agg #[.int .i64 p.fAt, .int .i64 p.fBirth, .int .i64 p.fSize, .int .i64 p.fSum, .int .i64 p.fLevel]), boxA b1 1 25 (.agg #[.slice a0 ps.length c0])]) _) := HS
    refine wpList_nil ?_
    refine ex_then ?_
    refine wp_seq ?_
    refine wp_region_lit ?_
    refine wl_y rfl HF rfl rfl (yl_fieldAddr (j := 2) rfl (HF.ev rfl) (by kernel_rfl)) ?_; clear HF; clear a; intro a HF
    refine wl_y rfl HF rfl rfl (yl_load (v := .bool ((ps.getD k default).d.fGone)) rfl (HF.ev rfl) (((HS.out.box 0 rfl).cell 2).trans rfl) (by kernel_rfl)) ?_; clear HF; clear a; intro a HF
    refine wl_y rfl HF rfl rfl (yl_not rfl (HF.ev rfl)) ?_; clear HF; clear a; intro a HF
    refine wpList_nil ?_
    refine ex_then ?_
    refine HF.cases 26 rfl (fun cc2 HF1 => ?_) (fun cc2 HF1 => ?_)
    · clear HF; have HF := HF1; clear HF1
      refine wc_true HF rfl ?_
      refine wp_region_lit ?_
      refine wl_y rfl HF rfl rfl (yl_move rfl (HF.ev rfl)) ?_; clear HF; clear a; intro a HF
      refine wl_y rfl HF rfl rfl (yl_move rfl (HF.ev rfl)) ?_; clear HF; clear a; intro a HF
      refine wl_y rfl HF rfl rfl (yl_loadR (cs := [.slice ((ps.getD k default).a0) ((ps.getD k default).d.fCells.length) ((ps.getD k default).c0), .slice ((ps.getD k default).a1) ((ps.getD k default).d.fWaits.length) ((ps.getD k default).c1), .bool ((ps.getD k default).d.fGone)]) rfl (HF.ev rfl) ((HS.out.box 0 rfl).sub 0 3) (by kernel_rfl)) ?_; clear HF; clear a; intro a HF
      refine wl_y rfl HF rfl rfl (yl_fieldAddr (j := 0) rfl (HF.ev rfl) (by kernel_rfl)) ?_; clear HF; clear a; intro a HF
      refine wl_y rfl HF rfl rfl (yl_load (v := .int .i64 p.fAt) rfl (HF.ev rfl) (((HS.out.box 2 rfl).cell 0).trans rfl) (by kernel_rfl)) ?_; clear HF; clear a; intro a HF
      refine wl_callB rfl HF rfl (enter_of Try.func73 (by kernel_rfl) rfl) (args := #[.agg #[.slice ((ps.getD k default).a0) ((ps.getD k default).d.fCells.length) ((ps.getD k default).c0), .slice ((ps.getD k default).a1) ((ps.getD k default).d.fWaits.length) ((ps.getD k default).c1), .bool ((ps.getD k default).d.fGone)], .int .i64 p.fAt]) rfl (v := .string ((ps.getD k default).d.look m)) ((by have := look_any (ps.getD k default).a0 (ps.getD k default).c0 (ps.getD k default).a1 (ps.getD k default).c1 (ps.getD k default).d m _ (by rw [hok2.1]; exact hm) (by omega) ((HP.out k (by omega)).below HS.out.bel).rc ((HP.out k (by omega)).below HS.out.bel).rw; rw [← hpa] at this; exact this)) rfl rfl HS.out ?_; clear HF HS; clear a; intro w7 a HS HF; replace HS := Bx.mk HS
      refine wl_y rfl HF rfl rfl (yl_indexAddr (e := 9) (i := k) (size := 1) rfl (HF.ev rfl) (HF.ev rfl) (by kernel_rfl) rfl (by omega)) ?_; clear HF; clear a; intro a HF
      refine wl_storeE encS_len rfl rfl rfl (HF.ev rfl) (HF.ev rfl) (by kernel_rfl) HS.out 1 rfl (by omega) (z := ((ps.getD k default).d.look m)) rfl rfl ?_; clear HS; intro w8 HS; replace HS := Bx.mk HS
      refine wpList_nil ?_
      refine ex_block ?_
      refine ex_then ?_
      refine wp_region_lit ?_
      refine wl_y rfl HF rfl rfl (yl_addI rfl (HF.ev rfl) (HF.ev rfl) (i64w (by omega))) ?_; clear HF; clear a; intro a HF
      refine wl_y rfl HF rfl rfl (yl_move rfl (HF.ev rfl)) ?_; clear HF; clear a; intro a HF
      refine wpList_nil ?_
      refine ex_then ?_
      have hgn : (ps.getD k default).d.fGone = false := by simpa using cc2
      have hcp : colP (ps.getD k default).d m = (ps.getD k default).d.look m := by unfold colP; rw [hgn]; rfl
      rw [colsPTo_succ ps m k (by omega) _ hcp] at HS
      replace HS : Bx (St w0 ([rowA encS 1 9 (.slice (some ⟨b3, 0, none⟩) 3 3) (colsPTo ps m (k + 1)), boxA b2 5 33 (.agg #[.int .i64 p.fAt, .int .i64 p.fBirth, .int .i64 p.fSize, .int .i64 p.fSum, .int .i64 p.fLevel]), boxA b1 1 25 (.agg #[.slice a0 ps.length c0]), boxA b4 3 44 (.agg #[.slice ((ps.getD k default).a0) ((ps.getD k default).d.fCells.length) ((ps.getD k default).c0), .slice ((ps.getD k default).a1) ((ps.getD k default).d.fWaits.length) ((ps.getD k default).c1), .bool ((ps.getD k default).d.fGone)])]) _) := ⟨(((HS.out).pick 3 rfl).pick 3 rfl).pick 3 rfl⟩
      exact ⟨k + 1, ⟨(by omega), HF.less _ ⟨rfl, rfl, rfl, rfl, rfl, rfl, rfl, rfl, trivial⟩, (HS.out.erase 3)⟩, (by omega)⟩
    · clear HF; have HF := HF1; clear HF1
      refine wc_false HF rfl ?_
      refine wp_skip ?_
      refine ex_block ?_
      refine ex_then ?_
      refine wp_region_lit ?_
      refine wl_y rfl HF rfl rfl (yl_addI rfl (HF.ev rfl) (HF.ev rfl) (i64w (by omega))) ?_; clear HF; clear a; intro a HF
      refine wl_y rfl HF rfl rfl (yl_move rfl (HF.ev rfl)) ?_; clear HF; clear a; intro a HF
      refine wpList_nil ?_
      refine ex_then ?_
      have hgn : (ps.getD k default).d.fGone = true := by simpa using cc2
      have hcp : colP (ps.getD k default).d m = ByteArray.empty := by unfold colP; rw [hgn]; rfl
      rw [colsPTo_gone ps m k (by omega) hcp] at HS
      replace HS : Bx (St w0 ([rowA encS 1 9 (.slice (some ⟨b3, 0, none⟩) 3 3) (colsPTo ps m (k + 1)), boxA b2 5 33 (.agg #[.int .i64 p.fAt, .int .i64 p.fBirth, .int .i64 p.fSize, .int .i64 p.fSum, .int .i64 p.fLevel]), boxA b1 1 25 (.agg #[.slice a0 ps.length c0]), boxA b4 3 44 (.agg #[.slice ((ps.getD k default).a0) ((ps.getD k default).d.fCells.length) ((ps.getD k default).c0), .slice ((ps.getD k default).a1) ((ps.getD k default).d.fWaits.length) ((ps.getD k default).c1), .bool ((ps.getD k default).d.fGone)])]) _) := ⟨(((HS.out).pick 3 rfl).pick 3 rfl).pick 3 rfl⟩
      exact ⟨k + 1, ⟨(by omega), HF.less _ ⟨rfl, rfl, rfl, rfl, rfl, rfl, rfl, rfl, trivial⟩, (HS.out.erase 3)⟩, (by omega)⟩
  · clear HF; have HF := HF1; clear HF1
    have dcc1 := of_decide_eq_false cc1
    refine wc_false HF rfl ?_
    refine wp_exit ?_
    refine ex_then_exit ?_
    refine ex_then_exit ?_
    refine ex_block_hit ?_
    refine ex_then ?_
    refine wp_seq ?_
    refine wp_seq ?_
    refine wp_region_lit ?_
    refine wl_y rfl HF rfl rfl (yl_assign rfl (HF.ev rfl)) ?_; clear HF; clear a; intro a HF
    refine wpList_nil ?_
    refine ex_then ?_
    refine wp_block ?_
    obtain rfl : k = ps.length := by omega
    obtain ⟨y0, hy0⟩ : ∃ y, y = colP (ps.getD 0 default).d m := ⟨_, rfl⟩; obtain ⟨y1, hy1⟩ : ∃ y, y = colP (ps.getD 1 default).d m := ⟨_, rfl⟩; obtain ⟨y2, hy2⟩ : ∃ y, y = colP (ps.getD 2 default).d m := ⟨_, rfl⟩
    rw [colsPTo_three ps m hl, ← hy0, ← hy1, ← hy2] at HS; have hz0 : y0.size ≤ 1048576 := by rw [hy0]; exact hcz 0 (by omega)
    have hz1 : y1.size ≤ 1048576 := by rw [hy1]; exact hcz 1 (by omega)
    have hz2 : y2.size ≤ 1048576 := by rw [hy2]; exact hcz 2 (by omega)
    replace HS : Bx (St w0 ([rowA encS 1 9 (.slice (some ⟨b3, 0, none⟩) 3 3) ([y0, y1, y2]), boxA b2 5 33 (.agg #[.int .i64 p.fAt, .int .i64 p.fBirth, .int .i64 p.fSize, .int .i64 p.fSum, .int .i64 p.fLevel]), boxA b1 1 25 (.agg #[.slice a0 ps.length c0])]) _) := ⟨HS.out⟩
    refine wc_loop (ι := Nat) (fun j a w => (j ≤ 3 ∧ ∀ i, i < j → tryP ps y0 y1 y2 p n i = false) ∧ Fr 82 a [(2, .pointer (some ⟨b1, 0, none⟩)), (3, .pointer (some ⟨b2, 0, none⟩)), (6, .slice (some ⟨b3, 0, none⟩) 3 3), (9, .int .i64 ((j : Int) - 1))] ∧ St w0 ([rowA encS 1 9 (.slice (some ⟨b3, 0, none⟩) 3 3) ([y0, y1, y2]), boxA b2 5 33 (.agg #[.int .i64 p.fAt, .int .i64 p.fBirth, .int .i64 p.fSize, .int .i64 p.fSum, .int .i64 p.fLevel]), boxA b1 1 25 (.agg #[.slice a0 ps.length c0])]) w) (fun j => 3 - j) 0 ⟨⟨by omega, fun i hi => absurd hi (by omega)⟩, HF.less _ ⟨rfl, rfl, rfl, rfl, trivial⟩, HS.out⟩ ?_
    clear HF HS; clear a
    rintro j a w9 ⟨⟨hj, hb⟩, HF, HS⟩
    replace HS := Bx.mk HS
    refine wp_seq ?_
    refine wp_seq ?_
    refine wp_region_lit ?_
    refine wl_y rfl HF rfl rfl (yl_move rfl (HF.ev rfl)) ?_; clear HF; clear a; intro a HF
    refine wl_y rfl HF rfl rfl (yl_lssI rfl (HF.ev rfl) (HF.ev rfl)) ?_; clear HF; clear a; intro a HF
    refine wpList_nil ?_
    refine ex_then ?_
    refine HF.cases 36 rfl (fun cc3 HF1 => ?_) (fun cc3 HF1 => ?_)
    · clear HF; have HF := HF1; clear HF1
      have dcc3 := of_decide_eq_true cc3
      refine wc_true HF rfl ?_
      refine wp_skip ?_
      refine ex_then ?_
      refine wp_seq ?_
      refine wp_block ?_
      refine wp_seq ?_
      refine wp_region_lit ?_
      refine wl_y rfl HF rfl rfl (yl_assign rfl (HF.ev rfl)) ?_; clear HF; clear a; intro a HF
      refine wpList_nil ?_
      refine ex_then ?_
      refine wp_seq ?_
      refine wp_seq ?_
      refine wp_region_lit ?_
      refine wl_y rfl HF rfl rfl (yl_fieldAddr (j := 0) rfl (HF.ev rfl) (by kernel_rfl)) ?_; clear HF; clear a; intro a HF
      refine wl_y rfl HF rfl rfl (yl_load (v := .slice a0 ps.length c0) rfl (HF.ev rfl) (((HS.out.box 2 rfl).cell 0).trans rfl) (by kernel_rfl)) ?_; clear HF; clear a; intro a HF
      refine wl_y rfl HF rfl rfl (yl_lenL (e := 44) (size := 3) rfl (HF.ev rfl) (by kernel_rfl)) ?_; clear HF; clear a; intro a HF
      refine wl_y rfl HF rfl rfl (yl_move rfl (HF.ev rfl)) ?_; clear HF; clear a; intro a HF
      refine wpList_nil ?_
      refine ex_then ?_
      refine wp_block ?_
      refine wc_loop (ι := Nat) (fun k a w => (k ≤ ps.length) ∧ Fr 82 a [(2, .pointer (some ⟨b1, 0, none⟩)), (3, .pointer (some ⟨b2, 0, none⟩)), (6, .slice (some ⟨b3, 0, none⟩) 3 3), (9, .int .i64 ((j : Int) - 1)), (40, .slice a0 ps.length c0), (41, .int .i64 (ps.length : Int)), (10, .bool (goneT ps ((j : Int) - 1) k)), (42, .int .i64 (k : Int))] ∧ St w0 ([rowA encS 1 9 (.slice (some ⟨b3, 0, none⟩) 3 3) ([y0, y1, y2]), boxA b2 5 33 (.agg #[.int .i64 p.fAt, .int .i64 p.fBirth, .int .i64 p.fSize, .int .i64 p.fSum, .int .i64 p.fLevel]), boxA b1 1 25 (.agg #[.slice a0 ps.length c0])]) w) (fun k => ps.length - k) 0 ⟨Nat.zero_le _, HF.less _ ⟨rfl, rfl, rfl, rfl, rfl, rfl, rfl, rfl, trivial⟩, HS.out⟩ ?_
      clear HF HS; clear a
      rintro k a w10 ⟨hk, HF, HS⟩
      replace HS := Bx.mk HS
      refine wp_seq ?_
      refine wp_region_lit ?_
      refine wl_y rfl HF rfl rfl (yl_lssI rfl (HF.ev rfl) (HF.ev rfl)) ?_; clear HF; clear a; intro a HF
      refine wpList_nil ?_
      refine ex_then ?_
      refine wp_seq ?_
      refine HF.cases 43 rfl (fun cc4 HF1 => ?_) (fun cc4 HF1 => ?_)
      · clear HF; have HF := HF1; clear HF1
        have dcc4 := of_decide_eq_true cc4
        refine wc_true HF rfl ?_
        refine wp_skip ?_
        refine ex_then ?_
        refine wp_seq ?_
        refine wp_block ?_
        refine wp_seq ?_
        obtain ⟨g0, o0, r0⟩ := HR.out.opn; have R0 := Bx.mk r0; clear r0
        refine wp_region_lit ?_
        refine wl_y rfl HF rfl rfl (yl_move rfl (HF.ev rfl)) ?_; clear HF; clear a; intro a HF
        refine wl_y rfl HF rfl rfl (yl_indexAddrR (e := 44) (i := k) (size := 3) rfl (HF.ev rfl) (HF.ev rfl) (by kernel_rfl) rfl (by omega) (R0.out.ao k (by omega))) ?_; clear HF; clear a; intro a HF
        refine wl_y rfl HF rfl rfl (yl_loadR (cs := [.slice ((ps.getD k default).a0) ((ps.getD k default).d.fCells.length) ((ps.getD k default).c0), .slice ((ps.getD k default).a1) ((ps.getD k default).d.fWaits.length) ((ps.getD k default).c1), .bool ((ps.getD k default).d.fGone)]) rfl (HF.ev rfl) (R0.out.elem HS.out (get_getD (xs := ps) (j := k) (d := default) (by omega))) (by kernel_rfl)) ?_; clear HF; clear a; intro a HF
        refine wl_alloc rfl HF rfl rfl rfl (Z := [.slice none 0 0, .slice none 0 0, .bool false]) (by kernel_rfl) rfl HS.out ?_; clear HF HS; clear a; intro a w11 b5 HF HS; replace HS := Bx.mk HS
        refine wl_y rfl HF rfl rfl (yl_assign rfl (HF.ev rfl)) ?_; clear HF; clear a; intro a HF
        refine wl_storeBox rfl HF rfl rfl (HF.ev rfl) (HF.ev rfl) HS.out 0 rfl (cells_lit [.slice ((ps.getD k default).a0) ((ps.getD k default).d.fCells.length) ((ps.getD k default).c0), .slice ((ps.getD k default).a1) ((ps.getD k default).d.fWaits.length) ((ps.getD k default).c1), .bool ((ps.getD k default).d.fGone)] rfl rfl) (by kernel_rfl) ?_; clear HS; intro w12 HS; replace HS := Bx.mk HS
        have HS : Bx (St w0 ([boxA b5 3 44 (.agg #[.slice ((ps.getD k default).a0) ((ps.getD k default).d.fCells.length) ((ps.getD k default).c0), .slice ((ps.getD k default).a1) ((ps.getD k default).d.fWaits.length) ((ps.getD k default).c1), .bool ((ps.getD k default).d.fGone)]), rowA encS 1 9 (.slice (some ⟨b3, 0, none⟩) 3 3) ([y0, y1, y2]), boxA b2 5 33 (.agg #[.int .i64 p.fAt, .int .i64 p.fBirth, .int .i64 p.fSize, .int .i64 p.fSum, .int .i64 p.fLevel]), boxA b1 1 25 (.agg #[.slice a0 ps.length c0])]) _) := HS
        refine wpList_nil ?_
        refine ex_then ?_
        refine wp_region_lit ?_
        refine wl_y rfl HF rfl rfl (yl_move rfl (HF.ev rfl)) ?_; clear HF; clear a; intro a HF
        refine wl_y rfl HF rfl rfl (yl_move rfl (HF.ev rfl)) ?_; clear HF; clear a; intro a HF
        refine HF.cases 48 rfl (fun cc5 HF1 => ?_) (fun cc5 HF1 => ?_)
        · clear HF; have HF := HF1; clear HF1
          refine wl_skip HF rfl rfl rfl rfl rfl rfl ?_; clear HF; clear a; intro a HF
          refine wl_skip HF rfl rfl rfl rfl rfl rfl ?_; clear HF; clear a; intro a HF
          refine wl_skip HF rfl rfl rfl rfl rfl rfl ?_; clear HF; clear a; intro a HF
          refine wl_skipU HF rfl rfl rfl rfl rfl ?_; clear HF; clear a; intro a HF
          refine wl_skipU HF rfl rfl rfl rfl rfl ?_; clear HF; clear a; intro a HF
          refine wl_skipU HF rfl rfl rfl rfl rfl ?_; clear HF; clear a; intro a HF
          refine wl_skip HF rfl rfl rfl rfl rfl rfl ?_; clear HF; clear a; intro a HF
          refine wl_skip HF rfl rfl rfl rfl rfl rfl ?_; clear HF; clear a; intro a HF
          refine wl_skipU HF rfl rfl rfl rfl rfl ?_; clear HF; clear a; intro a HF
          refine wl_skipU HF rfl rfl rfl rfl rfl ?_; clear HF; clear a; intro a HF
          refine wl_skipU HF rfl rfl rfl rfl rfl ?_; clear HF; clear a; intro a HF
          refine wl_skipU HF rfl rfl rfl rfl rfl ?_; clear HF; clear a; intro a HF
          refine wl_skipU HF rfl rfl rfl rfl rfl ?_; clear HF; clear a; intro a HF
          refine wl_skipU HF rfl rfl rfl rfl rfl ?_; clear HF; clear a; intro a HF
          refine wl_skip HF rfl rfl rfl rfl rfl rfl ?_; clear HF; clear a; intro a HF
          refine wl_y rfl HF rfl rfl (yl_pick_t rfl (HF.ev rfl) (HF.ev rfl)) ?_; clear HF; clear a; intro a HF
          refine wl_y rfl HF rfl rfl (yl_assign rfl (HF.ev rfl)) ?_; clear HF; clear a; intro a HF
          refine wpList_nil ?_
          refine ex_block ?_
          refine ex_then ?_
          refine wp_region_lit ?_
          refine wl_y rfl HF rfl rfl (yl_addI rfl (HF.ev rfl) (HF.ev rfl) (i64w (by omega))) ?_; clear HF; clear a; intro a HF
          refine wl_y rfl HF rfl rfl (yl_move rfl (HF.ev rfl)) ?_; clear HF; clear a; intro a HF
          refine wpList_nil ?_
          refine ex_then ?_
          have hnext : goneT ps ((j : Int) - 1) (k + 1) = true := by unfold goneT; simp only [cc5] <;> rfl
          replace HS : Bx (St w0 ([rowA encS 1 9 (.slice (some ⟨b3, 0, none⟩) 3 3) ([y0, y1, y2]), boxA b2 5 33 (.agg #[.int .i64 p.fAt, .int .i64 p.fBirth, .int .i64 p.fSize, .int .i64 p.fSum, .int .i64 p.fLevel]), boxA b1 1 25 (.agg #[.slice a0 ps.length c0]), boxA b5 3 44 (.agg #[.slice ((ps.getD k default).a0) ((ps.getD k default).d.fCells.length) ((ps.getD k default).c0), .slice ((ps.getD k default).a1) ((ps.getD k default).d.fWaits.length) ((ps.getD k default).c1), .bool ((ps.getD k default).d.fGone)])]) _) := ⟨(((HS.out).pick 3 rfl).pick 3 rfl).pick 3 rfl⟩
          exact ⟨k + 1, ⟨(by omega), HF.less _ ⟨rfl, rfl, rfl, rfl, rfl, rfl, (by show _ = some (Value.bool (goneT ps ((j : Int) - 1) (k + 1))); rw [hnext]; rfl), rfl, trivial⟩, (HS.out.erase 3)⟩, (by omega)⟩
        · clear HF; have HF := HF1; clear HF1
          refine wl_yg HF rfl rfl rfl rfl rfl (yl_fieldAddr (j := 2) rfl (HF.ev rfl) (by kernel_rfl)) ?_; clear HF; clear a; intro a HF
          refine wl_yg HF rfl rfl rfl rfl rfl (yl_load (v := .bool ((ps.getD k default).d.fGone)) rfl (HF.ev rfl) (((HS.out.box 0 rfl).cell 2).trans rfl) (by kernel_rfl)) ?_; clear HF; clear a; intro a HF
          refine wl_yg HF rfl rfl rfl rfl rfl (yl_move rfl (HF.ev rfl)) ?_; clear HF; clear a; intro a HF
          refine HF.cases 51 rfl (fun cc6 HF1 => ?_) (fun cc6 HF1 => ?_)
          · clear HF; have HF := HF1; clear HF1
            refine wl_yg HF rfl rfl rfl rfl rfl (yl_move rfl (HF.ev rfl)) ?_; clear HF; clear a; intro a HF
            refine wl_yg HF rfl rfl rfl rfl rfl (yl_move rfl (HF.ev rfl)) ?_; clear HF; clear a; intro a HF
            refine wl_yg HF rfl rfl rfl rfl rfl (yl_neqI rfl (HF.ev rfl) (HF.ev rfl)) ?_; clear HF; clear a; intro a HF
            refine wl_yg HF rfl rfl rfl rfl rfl (yl_pick_t rfl (HF.ev rfl) (HF.ev rfl)) ?_; clear HF; clear a; intro a HF
            refine wl_yg HF rfl rfl rfl rfl rfl (yl_move rfl (HF.ev rfl)) ?_; clear HF; clear a; intro a HF
            refine HF.cases 56 rfl (fun cc7 HF1 => ?_) (fun cc7 HF1 => ?_)
            · clear HF; have HF := HF1; clear HF1
              have dcc7 := bne_iff_ne.1 cc7
              refine wl_yg HF rfl rfl rfl rfl rfl (yl_move rfl (HF.ev rfl)) ?_; clear HF; clear a; intro a HF
              refine wl_yg HF rfl rfl rfl rfl rfl (yl_lssI rfl (HF.ev rfl) (HF.ev rfl)) ?_; clear HF; clear a; intro a HF
              refine wl_yg HF rfl rfl rfl rfl rfl (yl_move rfl (HF.ev rfl)) ?_; clear HF; clear a; intro a HF
              refine HF.cases 59 rfl (fun cc8 HF1 => ?_) (fun cc8 HF1 => ?_)
              · clear HF; have HF := HF1; clear HF1
                have dcc8 := of_decide_eq_true cc8
                refine wl_skip HF rfl rfl rfl rfl rfl rfl ?_; clear HF; clear a; intro a HF
                refine wl_skip HF rfl rfl rfl rfl rfl rfl ?_; clear HF; clear a; intro a HF
                refine wl_yg HF rfl rfl rfl rfl rfl (yl_pick_t rfl (HF.ev rfl) (HF.ev rfl)) ?_; clear HF; clear a; intro a HF
                refine wl_yg HF rfl rfl rfl rfl rfl (yl_pick_t rfl (HF.ev rfl) (HF.ev rfl)) ?_; clear HF; clear a; intro a HF
                refine wl_y rfl HF rfl rfl (yl_pick_f rfl (HF.ev rfl) (HF.ev rfl)) ?_; clear HF; clear a; intro a HF
                refine wl_y rfl HF rfl rfl (yl_assign rfl (HF.ev rfl)) ?_; clear HF; clear a; intro a HF
                refine wpList_nil ?_
                refine ex_block ?_
                refine ex_then ?_
                refine wp_region_lit ?_
                refine wl_y rfl HF rfl rfl (yl_addI rfl (HF.ev rfl) (HF.ev rfl) (i64w (by omega))) ?_; clear HF; clear a; intro a HF
                refine wl_y rfl HF rfl rfl (yl_move rfl (HF.ev rfl)) ?_; clear HF; clear a; intro a HF
                refine wpList_nil ?_
                refine ex_then ?_
                have hnext : goneT ps ((j : Int) - 1) (k + 1) = true := by unfold goneT; simp only [cc5, cc6, cc7, cc8] <;> rfl
                replace HS : Bx (St w0 ([rowA encS 1 9 (.slice (some ⟨b3, 0, none⟩) 3 3) ([y0, y1, y2]), boxA b2 5 33 (.agg #[.int .i64 p.fAt, .int .i64 p.fBirth, .int .i64 p.fSize, .int .i64 p.fSum, .int .i64 p.fLevel]), boxA b1 1 25 (.agg #[.slice a0 ps.length c0]), boxA b5 3 44 (.agg #[.slice ((ps.getD k default).a0) ((ps.getD k default).d.fCells.length) ((ps.getD k default).c0), .slice ((ps.getD k default).a1) ((ps.getD k default).d.fWaits.length) ((ps.getD k default).c1), .bool ((ps.getD k default).d.fGone)])]) _) := ⟨(((HS.out).pick 3 rfl).pick 3 rfl).pick 3 rfl⟩
                exact ⟨k + 1, ⟨(by omega), HF.less _ ⟨rfl, rfl, rfl, rfl, rfl, rfl, (by show _ = some (Value.bool (goneT ps ((j : Int) - 1) (k + 1))); rw [hnext]; rfl), rfl, trivial⟩, (HS.out.erase 3)⟩, (by omega)⟩
              · clear HF; have HF := HF1; clear HF1
                have dcc8 := of_decide_eq_false cc8
                refine wl_yg HF rfl rfl rfl rfl rfl (yl_move rfl (HF.ev rfl)) ?_; clear HF; clear a; intro a HF
                refine wl_yg HF rfl rfl rfl rfl rfl (yl_geqI rfl (HF.ev rfl) (HF.ev rfl)) ?_; clear HF; clear a; intro a HF
                refine wl_yg HF rfl rfl rfl rfl rfl (yl_pick_f rfl (HF.ev rfl) (HF.ev rfl)) ?_; clear HF; clear a; intro a HF
                refine wl_yg HF rfl rfl rfl rfl rfl (yl_pick_t rfl (HF.ev rfl) (HF.ev rfl)) ?_; clear HF; clear a; intro a HF
                refine wl_y rfl HF rfl rfl (yl_pick_f rfl (HF.ev rfl) (HF.ev rfl)) ?_; clear HF; clear a; intro a HF
                refine wl_y rfl HF rfl rfl (yl_assign rfl (HF.ev rfl)) ?_; clear HF; clear a; intro a HF
                refine wpList_nil ?_
                refine ex_block ?_
                refine ex_then ?_
                refine wp_region_lit ?_
                refine wl_y rfl HF rfl rfl (yl_addI rfl (HF.ev rfl) (HF.ev rfl) (i64w (by omega))) ?_; clear HF; clear a; intro a HF
                refine wl_y rfl HF rfl rfl (yl_move rfl (HF.ev rfl)) ?_; clear HF; clear a; intro a HF
                refine wpList_nil ?_
                refine ex_then ?_
                have hnext : goneT ps ((j : Int) - 1) (k + 1) = (decide ((0 : Int) ≤ ((j : Int) - 1))) := by unfold goneT; simp only [cc5, cc6, cc7, cc8] <;> rfl
                replace HS : Bx (St w0 ([rowA encS 1 9 (.slice (some ⟨b3, 0, none⟩) 3 3) ([y0, y1, y2]), boxA b2 5 33 (.agg #[.int .i64 p.fAt, .int .i64 p.fBirth, .int .i64 p.fSize, .int .i64 p.fSum, .int .i64 p.fLevel]), boxA b1 1 25 (.agg #[.slice a0 ps.length c0]), boxA b5 3 44 (.agg #[.slice ((ps.getD k default).a0) ((ps.getD k default).d.fCells.length) ((ps.getD k default).c0), .slice ((ps.getD k default).a1) ((ps.getD k default).d.fWaits.length) ((ps.getD k default).c1), .bool ((ps.getD k default).d.fGone)])]) _) := ⟨(((HS.out).pick 3 rfl).pick 3 rfl).pick 3 rfl⟩
                exact ⟨k + 1, ⟨(by omega), HF.less _ ⟨rfl, rfl, rfl, rfl, rfl, rfl, (by show _ = some (Value.bool (goneT ps ((j : Int) - 1) (k + 1))); rw [hnext]; rfl), rfl, trivial⟩, (HS.out.erase 3)⟩, (by omega)⟩
            · clear HF; have HF := HF1; clear HF1
              have dcc7 := bne_eq_false_iff_eq.1 cc7
              refine wl_skip HF rfl rfl rfl rfl rfl rfl ?_; clear HF; clear a; intro a HF
              refine wl_skip HF rfl rfl rfl rfl rfl rfl ?_; clear HF; clear a; intro a HF
              refine wl_skip HF rfl rfl rfl rfl rfl rfl ?_; clear HF; clear a; intro a HF
              refine wl_skipU HF rfl rfl rfl rfl rfl ?_; clear HF; clear a; intro a HF
              refine wl_skipU HF rfl rfl rfl rfl rfl ?_; clear HF; clear a; intro a HF
              refine wl_skip HF rfl rfl rfl rfl rfl rfl ?_; clear HF; clear a; intro a HF
              refine wl_yg HF rfl rfl rfl rfl rfl (yl_pick_f rfl (HF.ev rfl) (HF.ev rfl)) ?_; clear HF; clear a; intro a HF
              refine wl_y rfl HF rfl rfl (yl_pick_f rfl (HF.ev rfl) (HF.ev rfl)) ?_; clear HF; clear a; intro a HF
              refine wl_y rfl HF rfl rfl (yl_assign rfl (HF.ev rfl)) ?_; clear HF; clear a; intro a HF
              refine wpList_nil ?_
              refine ex_block ?_
              refine ex_then ?_
              refine wp_region_lit ?_
              refine wl_y rfl HF rfl rfl (yl_addI rfl (HF.ev rfl) (HF.ev rfl) (i64w (by omega))) ?_; clear HF; clear a; intro a HF
              refine wl_y rfl HF rfl rfl (yl_move rfl (HF.ev rfl)) ?_; clear HF; clear a; intro a HF
              refine wpList_nil ?_
              refine ex_then ?_
              have hnext : goneT ps ((j : Int) - 1) (k + 1) = false := by unfold goneT; simp only [cc5, cc6, cc7] <;> rfl
              replace HS : Bx (St w0 ([rowA encS 1 9 (.slice (some ⟨b3, 0, none⟩) 3 3) ([y0, y1, y2]), boxA b2 5 33 (.agg #[.int .i64 p.fAt, .int .i64 p.fBirth, .int .i64 p.fSize, .int .i64 p.fSum, .int .i64 p.fLevel]), boxA b1 1 25 (.agg #[.slice a0 ps.length c0]), boxA b5 3 44 (.agg #[.slice ((ps.getD k default).a0) ((ps.getD k default).d.fCells.length) ((ps.getD k default).c0), .slice ((ps.getD k default).a1) ((ps.getD k default).d.fWaits.length) ((ps.getD k default).c1), .bool ((ps.getD k default).d.fGone)])]) _) := ⟨(((HS.out).pick 3 rfl).pick 3 rfl).pick 3 rfl⟩
              exact ⟨k + 1, ⟨(by omega), HF.less _ ⟨rfl, rfl, rfl, rfl, rfl, rfl, (by show _ = some (Value.bool (goneT ps ((j : Int) - 1) (k + 1))); rw [hnext]; rfl), rfl, trivial⟩, (HS.out.erase 3)⟩, (by omega)⟩
          · clear HF; have HF := HF1; clear HF1
            refine wl_skip HF rfl rfl rfl rfl rfl rfl ?_; clear HF; clear a; intro a HF
            refine wl_skip HF rfl rfl rfl rfl rfl rfl ?_; clear HF; clear a; intro a HF
            refine wl_skip HF rfl rfl rfl rfl rfl rfl ?_; clear HF; clear a; intro a HF
            refine wl_yg HF rfl rfl rfl rfl rfl (yl_pick_f rfl (HF.ev rfl) (HF.ev rfl)) ?_; clear HF; clear a; intro a HF
            refine wl_yg HF rfl rfl rfl rfl rfl (yl_move rfl (HF.ev rfl)) ?_; clear HF; clear a; intro a HF
            refine wl_skip HF rfl rfl rfl rfl rfl rfl ?_; clear HF; clear a; intro a HF
            refine wl_skip HF rfl rfl rfl rfl rfl rfl ?_; clear HF; clear a; intro a HF
            refine wl_skip HF rfl rfl rfl rfl rfl rfl ?_; clear HF; clear a; intro a HF
            refine wl_skipU HF rfl rfl rfl rfl rfl ?_; clear HF; clear a; intro a HF
            refine wl_skipU HF rfl rfl rfl rfl rfl ?_; clear HF; clear a; intro a HF
            refine wl_skip HF rfl rfl rfl rfl rfl rfl ?_; clear HF; clear a; intro a HF
            refine wl_yg HF rfl rfl rfl rfl rfl (yl_pick_f rfl (HF.ev rfl) (HF.ev rfl)) ?_; clear HF; clear a; intro a HF
            refine wl_y rfl HF rfl rfl (yl_pick_f rfl (HF.ev rfl) (HF.ev rfl)) ?_; clear HF; clear a; intro a HF
            refine wl_y rfl HF rfl rfl (yl_assign rfl (HF.ev rfl)) ?_; clear HF; clear a; intro a HF
            refine wpList_nil ?_
            refine ex_block ?_
            refine ex_then ?_
            refine wp_region_lit ?_
            refine wl_y rfl HF rfl rfl (yl_addI rfl (HF.ev rfl) (HF.ev rfl) (i64w (by omega))) ?_; clear HF; clear a; intro a HF
            refine wl_y rfl HF rfl rfl (yl_move rfl (HF.ev rfl)) ?_; clear HF; clear a; intro a HF
            refine wpList_nil ?_
            refine ex_then ?_
            have hnext : goneT ps ((j : Int) - 1) (k + 1) = false := by unfold goneT; simp only [cc5, cc6] <;> rfl
            replace HS : Bx (St w0 ([rowA encS 1 9 (.slice (some ⟨b3, 0, none⟩) 3 3) ([y0, y1, y2]), boxA b2 5 33 (.agg #[.int .i64 p.fAt, .int .i64 p.fBirth, .int .i64 p.fSize, .int .i64 p.fSum, .int .i64 p.fLevel]), boxA b1 1 25 (.agg #[.slice a0 ps.length c0]), boxA b5 3 44 (.agg #[.slice ((ps.getD k default).a0) ((ps.getD k default).d.fCells.length) ((ps.getD k default).c0), .slice ((ps.getD k default).a1) ((ps.getD k default).d.fWaits.length) ((ps.getD k default).c1), .bool ((ps.getD k default).d.fGone)])]) _) := ⟨(((HS.out).pick 3 rfl).pick 3 rfl).pick 3 rfl⟩
            exact ⟨k + 1, ⟨(by omega), HF.less _ ⟨rfl, rfl, rfl, rfl, rfl, rfl, (by show _ = some (Value.bool (goneT ps ((j : Int) - 1) (k + 1))); rw [hnext]; rfl), rfl, trivial⟩, (HS.out.erase 3)⟩, (by omega)⟩
      · clear HF; have HF := HF1; clear HF1
        have dcc4 := of_decide_eq_false cc4
        refine wc_false HF rfl ?_
        refine wp_exit ?_
        refine ex_then_exit ?_
        refine ex_then_exit ?_
        refine ex_block_hit ?_
        refine ex_then ?_
        refine wp_seq ?_
        refine wp_seq ?_
        obtain rfl : k = ps.length := by omega
        refine wp_region_lit ?_
        refine wl_y rfl HF rfl rfl (yl_move rfl (HF.ev rfl)) ?_; clear HF; clear a; intro a HF
        refine wpList_nil ?_
        refine ex_then ?_
        refine HF.cases 66 rfl (fun cc9 HF1 => ?_) (fun cc9 HF1 => ?_)
        · clear HF; have HF := HF1; clear HF1
          refine wc_true HF rfl ?_
          refine wp_exit ?_
          refine ex_then_exit ?_
          refine ex_block_hit ?_
          refine ex_then ?_
          refine wp_region_lit ?_
          refine wl_y rfl HF rfl rfl (yl_move rfl (HF.ev rfl)) ?_; clear HF; clear a; intro a HF
          refine wl_y rfl HF rfl rfl (yl_addI rfl (HF.ev rfl) (HF.ev rfl) (i64w (by omega))) ?_; clear HF; clear a; intro a HF
          refine wl_y rfl HF rfl rfl (yl_assign rfl (HF.ev rfl)) ?_; clear HF; clear a; intro a HF
          refine wpList_nil ?_
          refine ex_then ?_
          have hfail : tryP ps y0 y1 y2 p n j = false := by unfold tryP; simp only [cc9] <;> rfl
          have hnext : ∀ i, i < j + 1 → tryP ps y0 y1 y2 p n i = false := fun i hi => by
            by_cases h : i < j
            · exact hb i h
            · obtain rfl : i = j := by omega
              exact hfail
          exact ⟨j + 1, ⟨⟨by omega, hnext⟩, HF.less _ ⟨rfl, rfl, rfl, (by show _ = some (Value.int .i64 (((j + 1 : Nat) : Int) - 1)); rw [show (((j + 1 : Nat) : Int) - 1) = (j : Int) - 1 + 1 by omega]; rfl), trivial⟩, HS.out⟩, (by omega)⟩
        · clear HF; have HF := HF1; clear HF1
          refine wc_false HF rfl ?_
          refine wp_skip ?_
          refine ex_then ?_
          refine wp_seq ?_
          refine wp_region_lit ?_
          refine wl_y rfl HF rfl rfl (yl_move rfl (HF.ev rfl)) ?_; clear HF; clear a; intro a HF
          refine wl_y rfl HF rfl rfl (yl_fieldAddr (j := 2) rfl (HF.ev rfl) (by kernel_rfl)) ?_; clear HF; clear a; intro a HF
          refine wl_y rfl HF rfl rfl (yl_load (v := .int .i64 p.fSize) rfl (HF.ev rfl) (((HS.out.box 1 rfl).cell 2).trans rfl) (by kernel_rfl)) ?_; clear HF; clear a; intro a HF
          refine wl_y rfl HF rfl rfl (yl_move rfl (HF.ev rfl)) ?_; clear HF; clear a; intro a HF
          refine wl_callB rfl HF rfl (enter_of Try.func19 (by kernel_rfl) rfl) (args := #[.slice (some ⟨b3, 0, none⟩) 3 3, .int .i64 p.fSize, .int .i64 ((j : Int) - 1)]) rfl (v := .tuple #[.string ((joinB y0 y1 y2 n ((j : Int) - 1)).getD ByteArray.empty), .bool ((joinB y0 y1 y2 n ((j : Int) - 1)).isSome)]) ((by have := joinJ_any (some ⟨b3, 0, none⟩) 3 y0 y1 y2 n j (by omega) _ hn1 hn2 hz0 hz1 hz2 (St.rdN HS.out encS_len 0 rfl); rw [← hps] at this; exact this)) rfl rfl HS.out ?_; clear HF HS; clear a; intro w13 a HS HF; replace HS := Bx.mk HS
          refine wl_y rfl HF rfl rfl (yl_move rfl (HF.ev rfl)) ?_; clear HF; clear a; intro a HF
          refine wl_y rfl HF rfl rfl (yl_extract rfl (HF.ev rfl) rfl) ?_; clear HF; clear a; intro a HF
          refine wl_y rfl HF rfl rfl (yl_extract rfl (HF.ev rfl) rfl) ?_; clear HF; clear a; intro a HF
          refine wl_y rfl HF rfl rfl (yl_assign rfl (HF.ev rfl)) ?_; clear HF; clear a; intro a HF
          refine wl_y rfl HF rfl rfl (yl_assign rfl (HF.ev rfl)) ?_; clear HF; clear a; intro a HF
          refine wpList_nil ?_
          refine ex_then ?_
          refine wp_seq ?_
          refine wp_region_lit ?_
          refine wl_y rfl HF rfl rfl (yl_move rfl (HF.ev rfl)) ?_; clear HF; clear a; intro a HF
          refine wl_y rfl HF rfl rfl (yl_move rfl (HF.ev rfl)) ?_; clear HF; clear a; intro a HF
          refine HF.cases 76 rfl (fun cc10 HF1 => ?_) (fun cc10 HF1 => ?_)
          · clear HF; have HF := HF1; clear HF1
            refine wl_yg HF rfl rfl rfl rfl rfl (yl_loadR (cs := [.int .i64 p.fAt, .int .i64 p.fBirth, .int .i64 p.fSize, .int .i64 p.fSum, .int .i64 p.fLevel]) rfl (HF.ev rfl) ((HS.out.box 1 rfl).sub 0 5) (by kernel_rfl)) ?_; clear HF; clear a; intro a HF
            refine wl_yg HF rfl rfl rfl rfl rfl (yl_move rfl (HF.ev rfl)) ?_; clear HF; clear a; intro a HF
            refine wl_callBg HF rfl rfl rfl rfl (enter_of Try.func20 (by kernel_rfl) rfl) (args := #[.agg #[.int .i64 p.fAt, .int .i64 p.fBirth, .int .i64 p.fSize, .int .i64 p.fSum, .int .i64 p.fLevel], .string ((joinB y0 y1 y2 n ((j : Int) - 1)).getD ByteArray.empty)]) rfl (v := .bool (p.fits ((joinB y0 y1 y2 n ((j : Int) - 1)).getD ByteArray.empty))) (implFits_any p ((joinB y0 y1 y2 n ((j : Int) - 1)).getD ByteArray.empty) _ (by have := joinB_le y0 y1 y2 n ((j : Int) - 1) hn1; omega)) rfl rfl HS.out ?_; clear HF HS; clear a; intro w14 a HS HF; replace HS := Bx.mk HS
            refine wl_y rfl HF rfl rfl (yl_pick_t rfl (HF.ev rfl) (HF.ev rfl)) ?_; clear HF; clear a; intro a HF
            refine wpList_nil ?_
            refine ex_then ?_
            refine HF.cases 80 rfl (fun cc11 HF1 => ?_) (fun cc11 HF1 => ?_)
            · clear HF; have HF := HF1; clear HF1
              refine wc_true HF rfl ?_
              refine wp_seq ?_
              refine wp_region_lit ?_
              refine wl_y rfl HF rfl rfl (yl_move rfl (HF.ev rfl)) ?_; clear HF; clear a; intro a HF
              refine wl_y rfl HF rfl rfl (yl_assign rfl (HF.ev rfl)) ?_; clear HF; clear a; intro a HF
              refine wl_y rfl HF rfl rfl (yl_assign rfl (HF.ev rfl)) ?_; clear HF; clear a; intro a HF
              refine wpList_nil ?_
              refine ex_then ?_
              refine wp_ret ?_
              refine ex_block_ret ?_
              refine ex_then_ret ?_
              refine ex_then_ret ?_
              refine ex_block_ret ?_
              refine ex_then_ret ?_
              refine bp_ret2 HF Try.results64 (HF.res rfl) (HF.res rfl) ?_
              have hwin : tryP ps y0 y1 y2 p n j = true := by unfold tryP; simp only [cc9, cc10, cc11] <;> rfl
              exact ⟨by rw [← hy0, ← hy1, ← hy2, readPF_at (by omega) hb hwin] <;> rfl, HS.out.bel⟩
            · clear HF; have HF := HF1; clear HF1
              refine wc_false HF rfl ?_
              refine wp_skip ?_
              refine ex_block ?_
              refine ex_then ?_
              refine wp_region_lit ?_
              refine wl_y rfl HF rfl rfl (yl_move rfl (HF.ev rfl)) ?_; clear HF; clear a; intro a HF
              refine wl_y rfl HF rfl rfl (yl_addI rfl (HF.ev rfl) (HF.ev rfl) (i64w (by omega))) ?_; clear HF; clear a; intro a HF
              refine wl_y rfl HF rfl rfl (yl_assign rfl (HF.ev rfl)) ?_; clear HF; clear a; intro a HF
              refine wpList_nil ?_
              refine ex_then ?_
              have hfail : tryP ps y0 y1 y2 p n j = false := by unfold tryP; simp only [cc9, cc10, cc11] <;> rfl
              have hnext : ∀ i, i < j + 1 → tryP ps y0 y1 y2 p n i = false := fun i hi => by
                by_cases h : i < j
                · exact hb i h
                · obtain rfl : i = j := by omega
                  exact hfail
              exact ⟨j + 1, ⟨⟨by omega, hnext⟩, HF.less _ ⟨rfl, rfl, rfl, (by show _ = some (Value.int .i64 (((j + 1 : Nat) : Int) - 1)); rw [show (((j + 1 : Nat) : Int) - 1) = (j : Int) - 1 + 1 by omega]; rfl), trivial⟩, HS.out⟩, (by omega)⟩
          · clear HF; have HF := HF1; clear HF1
            refine wl_skip HF rfl rfl rfl rfl rfl rfl ?_; clear HF; clear a; intro a HF
            refine wl_skip HF rfl rfl rfl rfl rfl rfl ?_; clear HF; clear a; intro a HF
            refine wl_skip HF rfl rfl rfl rfl rfl rfl ?_; clear HF; clear a; intro a HF
            refine wl_y rfl HF rfl rfl (yl_pick_f rfl (HF.ev rfl) (HF.ev rfl)) ?_; clear HF; clear a; intro a HF
            refine wpList_nil ?_
            refine ex_then ?_
            refine wc_false HF rfl ?_
            refine wp_skip ?_
            refine ex_block ?_
            refine ex_then ?_
            refine wp_region_lit ?_
            refine wl_y rfl HF rfl rfl (yl_move rfl (HF.ev rfl)) ?_; clear HF; clear a; intro a HF
            refine wl_y rfl HF rfl rfl (yl_addI rfl (HF.ev rfl) (HF.ev rfl) (i64w (by omega))) ?_; clear HF; clear a; intro a HF
            refine wl_y rfl HF rfl rfl (yl_assign rfl (HF.ev rfl)) ?_; clear HF; clear a; intro a HF
            refine wpList_nil ?_
            refine ex_then ?_
            have hfail : tryP ps y0 y1 y2 p n j = false := by unfold tryP; simp only [cc9, cc10] <;> rfl
            have hnext : ∀ i, i < j + 1 → tryP ps y0 y1 y2 p n i = false := fun i hi => by
              by_cases h : i < j
              · exact hb i h
              · obtain rfl : i = j := by omega
                exact hfail
            exact ⟨j + 1, ⟨⟨by omega, hnext⟩, HF.less _ ⟨rfl, rfl, rfl, (by show _ = some (Value.int .i64 (((j + 1 : Nat) : Int) - 1)); rw [show (((j + 1 : Nat) : Int) - 1) = (j : Int) - 1 + 1 by omega]; rfl), trivial⟩, HS.out⟩, (by omega)⟩
    · clear HF; have HF := HF1; clear HF1
      have dcc3 := of_decide_eq_false cc3
      refine wc_false HF rfl ?_
      refine wp_exit ?_
      refine ex_then_exit ?_
      refine ex_then_exit ?_
      refine ex_block_hit ?_
      refine ex_then ?_
      refine wp_seq ?_
      refine wp_region_lit ?_
      refine wl_y rfl HF rfl rfl (yl_assign rfl (HF.ev rfl)) ?_; clear HF; clear a; intro a HF
      refine wl_y rfl HF rfl rfl (yl_assign rfl (HF.ev rfl)) ?_; clear HF; clear a; intro a HF
      refine wpList_nil ?_
      refine ex_then ?_
      refine wp_ret ?_
      refine bp_ret2 HF Try.results64 (HF.res rfl) (HF.res rfl) ?_
      obtain rfl : j = 3 := by omega
      exact ⟨by rw [← hy0, ← hy1, ← hy2, readPF_none hb] <;> rfl, HS.out.bel⟩

end Go.Proofs.Ytfijfjjleelphaa

/- The two readings agree. -/
namespace Go.Proofs.Ytfijfjjleelphaa
open Go.RowKit

def tryS (x0 x1 x2 : ByteArray) (p : PtrD) (n j : Nat) : Bool := (joinB x0 x1 x2 n ((j : Int) - 1)).isSome && p.fits ((joinB x0 x1 x2 n ((j : Int) - 1)).getD ByteArray.empty)
theorem readF_eq (x0 x1 x2 : ByteArray) (p : PtrD) (n : Nat) : readF x0 x1 x2 p n = bif tryS x0 x1 x2 p n 0 then ((joinB x0 x1 x2 n (-1)).getD ByteArray.empty, true)
  else bif tryS x0 x1 x2 p n 1 then ((joinB x0 x1 x2 n 0).getD ByteArray.empty, true)
  else bif tryS x0 x1 x2 p n 2 then ((joinB x0 x1 x2 n 1).getD ByteArray.empty, true) else (ByteArray.empty, false) := by
  unfold readF tryS
  have e0 : ((0 : Nat) : Int) - 1 = -1 := rfl
  have e1 : ((1 : Nat) : Int) - 1 = 0 := rfl
  have e2 : ((2 : Nat) : Int) - 1 = 1 := rfl
  rw [e0, e1, e2]
  cases (joinB x0 x1 x2 n (-1)).isSome <;> cases p.fits ((joinB x0 x1 x2 n (-1)).getD ByteArray.empty) <;> cases (joinB x0 x1 x2 n 0).isSome <;> cases p.fits ((joinB x0 x1 x2 n 0).getD ByteArray.empty) <;> cases (joinB x0 x1 x2 n 1).isSome <;> cases p.fits ((joinB x0 x1 x2 n 1).getD ByteArray.empty) <;> rfl
theorem joinN_of (c0 c1 c2 c2' : ByteArray) (n : Nat) : joinB c0 c1 c2 n (-1) = joinB c0 c1 c2' n (-1) := by
  unfold joinB
  simp
theorem joinZ_of (c0 c0' c1 c2 : ByteArray) (n : Nat) : joinB c0 c1 c2 n 0 = joinB c0' c1 c2 n 0 := by
  unfold joinB
  simp
theorem joinO_of (c0 c1 c1' c2 : ByteArray) (n : Nat) : joinB c0 c1 c2 n 1 = joinB c0 c1' c2 n 1 := by
  unfold joinB
  simp
theorem joinN_no (c0 c1 c2 : ByteArray) (n : Nat) (h1 : 1 ≤ n) (h2 : n ≤ 128) (h : c0.size = 200 ∨ c1.size = 200) : joinB c0 c1 c2 n (-1) = none := by
  have hb := half_bounds n h1
  have hh : half n ≤ 64 := by unfold half; omega
  unfold joinB
  rw [if_neg (by omega), if_neg (by omega), if_neg (by omega)]
theorem joinZ_no (c0 c1 c2 : ByteArray) (n : Nat) (h1 : 1 ≤ n) (h2 : n ≤ 128) (h : c1.size = 200 ∨ c2.size = 200) : joinB c0 c1 c2 n 0 = none := by
  have hb := half_bounds n h1
  have hh : half n ≤ 64 := by unfold half; omega
  unfold joinB
  rw [if_neg (by omega), if_neg (by omega), if_neg (by omega)]
theorem joinO_no (c0 c1 c2 : ByteArray) (n : Nat) (h1 : 1 ≤ n) (h2 : n ≤ 128) (h : c0.size = 200 ∨ c2.size = 200) : joinB c0 c1 c2 n 1 = none := by
  have hb := half_bounds n h1
  have hh : half n ≤ 64 := by unfold half; omega
  unfold joinB
  rw [if_neg (by omega), if_neg (by omega), if_neg (by omega)]
theorem colS_gone {d : DiskD} {m : Nat} (h : d.fGone = true) : (colS d m).size = 200 := by unfold colS; rw [h]; exact goneX_size
theorem colS_there {d : DiskD} {m : Nat} (h : d.fGone = false) : colP d m = colS d m := by unfold colS colP; rw [h]; rfl
/-- One way, both readings. -/
theorem try_eq (p0 p1 p2 : HD) (p : PtrD) (n m : Nat) (h1 : 1 ≤ n) (h2 : n ≤ 128) :
    (tryP [p0, p1, p2] (colP p0.d m) (colP p1.d m) (colP p2.d m) p n 0 = tryS (colS p0.d m) (colS p1.d m) (colS p2.d m) p n 0 ∧ (tryS (colS p0.d m) (colS p1.d m) (colS p2.d m) p n 0 = true → joinB (colP p0.d m) (colP p1.d m) (colP p2.d m) n (-1) = joinB (colS p0.d m) (colS p1.d m) (colS p2.d m) n (-1))) ∧
    (tryP [p0, p1, p2] (colP p0.d m) (colP p1.d m) (colP p2.d m) p n 1 = tryS (colS p0.d m) (colS p1.d m) (colS p2.d m) p n 1 ∧ (tryS (colS p0.d m) (colS p1.d m) (colS p2.d m) p n 1 = true → joinB (colP p0.d m) (colP p1.d m) (colP p2.d m) n 0 = joinB (colS p0.d m) (colS p1.d m) (colS p2.d m) n 0)) ∧
    (tryP [p0, p1, p2] (colP p0.d m) (colP p1.d m) (colP p2.d m) p n 2 = tryS (colS p0.d m) (colS p1.d m) (colS p2.d m) p n 2 ∧ (tryS (colS p0.d m) (colS p1.d m) (colS p2.d m) p n 2 = true → joinB (colP p0.d m) (colP p1.d m) (colP p2.d m) n 1 = joinB (colS p0.d m) (colS p1.d m) (colS p2.d m) n 1)) := by
  have e0 : ((0 : Nat) : Int) - 1 = -1 := rfl
  have e1 : ((1 : Nat) : Int) - 1 = 0 := rfl
  have e2 : ((2 : Nat) : Int) - 1 = 1 := rfl
  unfold tryP tryS
  rw [e0, e1, e2]
  have g0 : goneT [p0, p1, p2] (-1) [p0, p1, p2].length = (p0.d.fGone || p1.d.fGone) := by simp [goneT]
  have g1 : goneT [p0, p1, p2] 0 [p0, p1, p2].length = (p1.d.fGone || p2.d.fGone) := by simp [goneT]
  have g2 : goneT [p0, p1, p2] 1 [p0, p1, p2].length = (p0.d.fGone || p2.d.fGone) := by simp [goneT]
  rw [g0, g1, g2]
  refine ⟨?_, ?_, ?_⟩
  · cases h3 : p0.d.fGone with
    | true => rw [joinN_no _ _ _ n h1 h2 (.inl (colS_gone h3))]; exact ⟨rfl, fun h => by cases h⟩
    | false =>
      cases h4 : p1.d.fGone with
      | true => rw [joinN_no _ _ _ n h1 h2 (.inr (colS_gone h4))]; exact ⟨rfl, fun h => by cases h⟩
      | false => rw [colS_there h3, colS_there h4, joinN_of _ _ (colP p2.d m) (colS p2.d m)]; exact ⟨rfl, fun _ => rfl⟩
  · cases h3 : p1.d.fGone with
    | true => rw [joinZ_no _ _ _ n h1 h2 (.inl (colS_gone h3))]; exact ⟨rfl, fun h => by cases h⟩
    | false =>
      cases h4 : p2.d.fGone with
      | true => rw [joinZ_no _ _ _ n h1 h2 (.inr (colS_gone h4))]; exact ⟨rfl, fun h => by cases h⟩
      | false => rw [colS_there h3, colS_there h4, joinZ_of (colP p0.d m) (colS p0.d m)]; exact ⟨rfl, fun _ => rfl⟩
  · cases h3 : p0.d.fGone with
    | true => rw [joinO_no _ _ _ n h1 h2 (.inl (colS_gone h3))]; exact ⟨rfl, fun h => by cases h⟩
    | false =>
      cases h4 : p2.d.fGone with
      | true => rw [joinO_no _ _ _ n h1 h2 (.inr (colS_gone h4))]; exact ⟨rfl, fun h => by cases h⟩
      | false => rw [colS_there h3, colS_there h4, joinO_of _ (colP p1.d m) (colS p1.d m)]; exact ⟨rfl, fun _ => rfl⟩
theorem readPF_eq (p0 p1 p2 : HD) (p : PtrD) (n m : Nat) (h1 : 1 ≤ n) (h2 : n ≤ 128) : readPF [p0, p1, p2] (colP p0.d m) (colP p1.d m) (colP p2.d m) p n = readF (colS p0.d m) (colS p1.d m) (colS p2.d m) p n := by
  obtain ⟨⟨a0, b0⟩, ⟨a1, b1⟩, ⟨a2, b2⟩⟩ := try_eq p0 p1 p2 p n m h1 h2
  rw [readF_eq]
  unfold readPF
  rw [a0, a1, a2]
  cases h3 : tryS (colS p0.d m) (colS p1.d m) (colS p2.d m) p n 0 with
  | true => rw [b0 h3]; rfl
  | false =>
    cases h4 : tryS (colS p0.d m) (colS p1.d m) (colS p2.d m) p n 1 with
    | true => rw [b1 h4]; rfl
    | false =>
      cases h5 : tryS (colS p0.d m) (colS p1.d m) (colS p2.d m) p n 2 with
      | true => rw [b2 h5]; rfl
      | false => rfl
/-- What RaidRead returns. -/
def readR (ds : List DiskD) (p : PtrD) : ByteArray × Bool := bif okR ds && (p.ok && !p.hole) then readD ds p else (ByteArray.empty, false)
theorem colP_le {d : DiskD} (h : d.ok = true) (m : Nat) (hm : m < 64) : (colP d m).size ≤ 1048576 := by
  unfold colP
  cases d.fGone with
  | true => exact Nat.zero_le _
  | false => exact Nat.le_trans (look_le h m hm) (by decide)
theorem readD_any (a0 : Option Addr) (c0 : Nat) (ps : List HD) (w0 : World) (hk : okR (dsOf ps) = true) (p : PtrD) (h1 : p.ok = true) (h2 : p.hole = false) (hR : Rd HD.cells 3 w0 a0 ps.length ps) (hP : ∀ k, k < ps.length → (ps.getD k default).reads w0) : Calls Try.prog 64 #[.agg #[.slice a0 ps.length c0], .agg #[.int .i64 p.fAt, .int .i64 p.fBirth, .int .i64 p.fSize, .int .i64 p.fSum, .int .i64 p.fLevel]] w0 fun e w' => e = .returned (.tuple #[.string (readD (dsOf ps) p).1, .bool (readD (dsOf ps) p).2]) ∧ Below w0.heap.size w0 w' := by
  obtain ⟨hl, hok⟩ := okR_three hk
  have hbd := PtrD.ok_bounds h1 h2
  have := read_any a0 c0 ps w0 hl hok hR hP p p.fAt.toNat p.fSize.toNat (by omega) (by omega) (by omega) (by omega) (by omega) (fun k hk => colP_le (hok k (by omega)) _ (by omega))
  have e : readPF ps (colP (ps.getD 0 default).d p.fAt.toNat) (colP (ps.getD 1 default).d p.fAt.toNat) (colP (ps.getD 2 default).d p.fAt.toNat) p p.fSize.toNat = readD (dsOf ps) p := by
    match ps, hl with
    | [p0, p1, p2], _ => exact readPF_eq p0 p1 p2 p _ _ (by omega) (by omega)
  rw [e] at this
  exact this

set_option maxHeartbeats 1000000 in
set_option maxRecDepth 100000 in
theorem implRaidRead_any (a0 : Option Addr) (c0 : Nat) (ps : List HD) (w0 : World) (hl : ps.length ≤ 1048576) (hf : ∀ k, (ps.getD k default).d.fits) (hR : Rd HD.cells 3 w0 a0 ps.length ps) (hP : ∀ k, k < ps.length → (ps.getD k default).reads w0) (p : PtrD) : Calls Try.prog 16 #[.agg #[.slice a0 ps.length c0], .agg #[.int .i64 p.fAt, .int .i64 p.fBirth, .int .i64 p.fSize, .int .i64 p.fSum, .int .i64 p.fLevel]] w0 fun e w' => e = .returned (.tuple #[.string (readR (dsOf ps) p).1, .bool (readR (dsOf ps) p).2]) ∧ Below w0.heap.size w0 w' := by
  have HR := Bx.mk hR; have HP := Bx.mk hP; clear hR hP
  have HS := Bx.mk (St.start w0)
  refine wc_enter Try.func16 rfl Try.ntmps16 [(0, .agg #[.slice a0 ps.length c0]), (1, .agg #[.int .i64 p.fAt, .int .i64 p.fBirth, .int .i64 p.fSize, .int .i64 p.fSum, .int .i64 p.fLevel])] ⟨rfl, rfl, trivial⟩ rfl ?_; intro a HF
  refine wp_seq ?_
  refine wp_region_lit ?_
  refine wl_box rfl HF rfl (HF.ev rfl) (Z := [.slice a0 ps.length c0]) rfl rfl rfl rfl HS.out ?_; clear HF HS; clear a; intro a w1 b1 HF HS; replace HS := Bx.mk HS
  refine wl_box rfl HF rfl (HF.ev rfl) (Z := [.int .i64 p.fAt, .int .i64 p.fBirth, .int .i64 p.fSize, .int .i64 p.fSum, .int .i64 p.fLevel]) rfl rfl rfl rfl HS.out ?_; clear HF HS; clear a; intro a w2 b2 HF HS; replace HS := Bx.mk HS
  refine wl_y rfl HF rfl rfl (yl_assign rfl (HF.ev rfl)) ?_; clear HF; clear a; intro a HF
  refine wl_y rfl HF rfl rfl (yl_assign rfl (HF.ev rfl)) ?_; clear HF; clear a; intro a HF
  refine wpList_nil ?_
  refine ex_then ?_
  refine wp_seq ?_
  refine wp_seq ?_
  refine wp_region_lit ?_
  refine wl_y rfl HF rfl rfl (yl_loadR (cs := [.slice a0 ps.length c0]) rfl (HF.ev rfl) ((HS.out.box 1 rfl).sub 0 1) (by kernel_rfl)) ?_; clear HF; clear a; intro a HF
  refine wl_callB rfl HF rfl (enter_of Try.func45 (by kernel_rfl) rfl) (args := #[.agg #[.slice a0 ps.length c0]]) rfl (v := .bool (okR (dsOf ps))) (implRaidOk_any a0 c0 ps _ hl hf (HR.out.below HS.out.bel) (fun k hk => (HP.out k hk).below HS.out.bel)) rfl rfl HS.out ?_; clear HF HS; clear a; intro w3 a HS HF; replace HS := Bx.mk HS
  refine wl_y rfl HF rfl rfl (yl_not rfl (HF.ev rfl)) ?_; clear HF; clear a; intro a HF
  refine wl_y rfl HF rfl rfl (yl_move rfl (HF.ev rfl)) ?_; clear HF; clear a; intro a HF
  refine HF.cases 9 rfl (fun cc1 HF1 => ?_) (fun cc1 HF1 => ?_)
  · clear HF; have HF := HF1; clear HF1
    have q1 : okR (dsOf ps) = false := by simpa using cc1
    refine wl_skip HF rfl rfl rfl rfl rfl rfl ?_; clear HF; clear a; intro a HF
    refine wl_skip HF rfl rfl rfl rfl rfl rfl ?_; clear HF; clear a; intro a HF
    refine wl_skip HF rfl rfl rfl rfl rfl rfl ?_; clear HF; clear a; intro a HF
    refine wl_y rfl HF rfl rfl (yl_pick_t rfl (HF.ev rfl) (HF.ev rfl)) ?_; clear HF; clear a; intro a HF
    refine wl_y rfl HF rfl rfl (yl_move rfl (HF.ev rfl)) ?_; clear HF; clear a; intro a HF
    refine wl_skip HF rfl rfl rfl rfl rfl rfl ?_; clear HF; clear a; intro a HF
    refine wl_skip HF rfl rfl rfl rfl rfl rfl ?_; clear HF; clear a; intro a HF
    refine wl_y rfl HF rfl rfl (yl_pick_t rfl (HF.ev rfl) (HF.ev rfl)) ?_; clear HF; clear a; intro a HF
    refine wpList_nil ?_
    refine ex_then ?_
    refine wc_true HF rfl ?_
    refine wp_seq ?_
    refine wp_region_lit ?_
    refine wl_y rfl HF rfl rfl (yl_assign rfl (HF.ev rfl)) ?_; clear HF; clear a; intro a HF
    refine wl_y rfl HF rfl rfl (yl_assign rfl (HF.ev rfl)) ?_; clear HF; clear a; intro a HF
    refine wpList_nil ?_
    refine ex_then ?_
    refine wp_ret ?_
    refine ex_then_ret ?_
    refine bp_ret2 HF Try.results16 (HF.res rfl) (HF.res rfl) ?_
    have hfn : readR (dsOf ps) p = (ByteArray.empty, false) := by unfold readR; rw [q1]; simp
    exact ⟨by rw [hfn] <;> rfl, HS.out.bel⟩
  · clear HF; have HF := HF1; clear HF1
    have q1 : okR (dsOf ps) = true := by simpa using cc1
    refine wl_yg HF rfl rfl rfl rfl rfl (yl_loadR (cs := [.int .i64 p.fAt, .int .i64 p.fBirth, .int .i64 p.fSize, .int .i64 p.fSum, .int .i64 p.fLevel]) rfl (HF.ev rfl) ((HS.out.box 0 rfl).sub 0 5) (by kernel_rfl)) ?_; clear HF; clear a; intro a HF
    refine wl_callBg HF rfl rfl rfl rfl (enter_of Try.func60 (by kernel_rfl) rfl) (args := #[.agg #[.int .i64 p.fAt, .int .i64 p.fBirth, .int .i64 p.fSize, .int .i64 p.fSum, .int .i64 p.fLevel]]) rfl (v := .bool p.ok) (implPtrOk_any p _) rfl rfl HS.out ?_; clear HF HS; clear a; intro w4 a HS HF; replace HS := Bx.mk HS
    refine wl_yg HF rfl rfl rfl rfl rfl (yl_not rfl (HF.ev rfl)) ?_; clear HF; clear a; intro a HF
    refine wl_y rfl HF rfl rfl (yl_pick_f rfl (HF.ev rfl) (HF.ev rfl)) ?_; clear HF; clear a; intro a HF
    refine wl_y rfl HF rfl rfl (yl_move rfl (HF.ev rfl)) ?_; clear HF; clear a; intro a HF
    refine HF.cases 14 rfl (fun cc2 HF1 => ?_) (fun cc2 HF1 => ?_)
    · clear HF; have HF := HF1; clear HF1
      have q2 : p.ok = false := by simpa using cc2
      refine wl_skip HF rfl rfl rfl rfl rfl rfl ?_; clear HF; clear a; intro a HF
      refine wl_skip HF rfl rfl rfl rfl rfl rfl ?_; clear HF; clear a; intro a HF
      refine wl_y rfl HF rfl rfl (yl_pick_t rfl (HF.ev rfl) (HF.ev rfl)) ?_; clear HF; clear a; intro a HF
      refine wpList_nil ?_
      refine ex_then ?_
      refine wc_true HF rfl ?_
      refine wp_seq ?_
      refine wp_region_lit ?_
      refine wl_y rfl HF rfl rfl (yl_assign rfl (HF.ev rfl)) ?_; clear HF; clear a; intro a HF
      refine wl_y rfl HF rfl rfl (yl_assign rfl (HF.ev rfl)) ?_; clear HF; clear a; intro a HF
      refine wpList_nil ?_
      refine ex_then ?_
      refine wp_ret ?_
      refine ex_then_ret ?_
      refine bp_ret2 HF Try.results16 (HF.res rfl) (HF.res rfl) ?_
      have hfn : readR (dsOf ps) p = (ByteArray.empty, false) := by unfold readR; rw [q1, q2]; simp
      exact ⟨by rw [hfn] <;> rfl, HS.out.bel⟩
    · clear HF; have HF := HF1; clear HF1
      have q2 : p.ok = true := by simpa using cc2
      refine wl_yg HF rfl rfl rfl rfl rfl (yl_loadR (cs := [.int .i64 p.fAt, .int .i64 p.fBirth, .int .i64 p.fSize, .int .i64 p.fSum, .int .i64 p.fLevel]) rfl (HF.ev rfl) ((HS.out.box 0 rfl).sub 0 5) (by kernel_rfl)) ?_; clear HF; clear a; intro a HF
      refine wl_callBg HF rfl rfl rfl rfl (enter_of Try.func63 (by kernel_rfl) rfl) (args := #[.agg #[.int .i64 p.fAt, .int .i64 p.fBirth, .int .i64 p.fSize, .int .i64 p.fSum, .int .i64 p.fLevel]]) rfl (v := .bool p.hole) (implHole_any p _) rfl rfl HS.out ?_; clear HF HS; clear a; intro w5 a HS HF; replace HS := Bx.mk HS
      refine wl_y rfl HF rfl rfl (yl_pick_f rfl (HF.ev rfl) (HF.ev rfl)) ?_; clear HF; clear a; intro a HF
      refine wpList_nil ?_
      refine ex_then ?_
      refine HF.cases 17 rfl (fun cc3 HF1 => ?_) (fun cc3 HF1 => ?_)
      · clear HF; have HF := HF1; clear HF1
        have q3 : p.hole = true := by simpa using cc3
        refine wc_true HF rfl ?_
        refine wp_seq ?_
        refine wp_region_lit ?_
        refine wl_y rfl HF rfl rfl (yl_assign rfl (HF.ev rfl)) ?_; clear HF; clear a; intro a HF
        refine wl_y rfl HF rfl rfl (yl_assign rfl (HF.ev rfl)) ?_; clear HF; clear a; intro a HF
        refine wpList_nil ?_
        refine ex_then ?_
        refine wp_ret ?_
        refine ex_then_ret ?_
        refine bp_ret2 HF Try.results16 (HF.res rfl) (HF.res rfl) ?_
        have hfn : readR (dsOf ps) p = (ByteArray.empty, false) := by unfold readR; rw [q1, q2, q3]; simp
        exact ⟨by rw [hfn] <;> rfl, HS.out.bel⟩
      · clear HF; have HF := HF1; clear HF1
        have q3 : p.hole = false := by simpa using cc3
        refine wc_false HF rfl ?_
        refine wp_skip ?_
        refine ex_then ?_
        refine wp_seq ?_
        refine wp_region_lit ?_
        refine wl_y rfl HF rfl rfl (yl_loadR (cs := [.slice a0 ps.length c0]) rfl (HF.ev rfl) ((HS.out.box 1 rfl).sub 0 1) (by kernel_rfl)) ?_; clear HF; clear a; intro a HF
        refine wl_y rfl HF rfl rfl (yl_loadR (cs := [.int .i64 p.fAt, .int .i64 p.fBirth, .int .i64 p.fSize, .int .i64 p.fSum, .int .i64 p.fLevel]) rfl (HF.ev rfl) ((HS.out.box 0 rfl).sub 0 5) (by kernel_rfl)) ?_; clear HF; clear a; intro a HF
        refine wl_callB rfl HF rfl (enter_of Try.func64 (by kernel_rfl) rfl) (args := #[.agg #[.slice a0 ps.length c0], .agg #[.int .i64 p.fAt, .int .i64 p.fBirth, .int .i64 p.fSize, .int .i64 p.fSum, .int .i64 p.fLevel]]) rfl (v := .tuple #[.string ((readD (dsOf ps) p).1), .bool ((readD (dsOf ps) p).2)]) (readD_any a0 c0 ps _ q1 p q2 q3 (HR.out.below HS.out.bel) (fun k hk => (HP.out k hk).below HS.out.bel)) rfl rfl HS.out ?_; clear HF HS; clear a; intro w6 a HS HF; replace HS := Bx.mk HS
        refine wl_y rfl HF rfl rfl (yl_extract rfl (HF.ev rfl) rfl) ?_; clear HF; clear a; intro a HF
        refine wl_y rfl HF rfl rfl (yl_extract rfl (HF.ev rfl) rfl) ?_; clear HF; clear a; intro a HF
        refine wl_y rfl HF rfl rfl (yl_assign rfl (HF.ev rfl)) ?_; clear HF; clear a; intro a HF
        refine wl_y rfl HF rfl rfl (yl_assign rfl (HF.ev rfl)) ?_; clear HF; clear a; intro a HF
        refine wpList_nil ?_
        refine ex_then ?_
        refine wp_ret ?_
        refine bp_ret2 HF Try.results16 (HF.res rfl) (HF.res rfl) ?_
        have hfn : readR (dsOf ps) p = readD (dsOf ps) p := by unfold readR; rw [q1, q2, q3]; simp
        exact ⟨by rw [hfn] <;> rfl, HS.out.bel⟩

end Go.Proofs.Ytfijfjjleelphaa

/- A round over the disks, by a function value. -/
namespace Go.Proofs.Ytfijfjjleelphaa
open Go.RowKit

set_option maxHeartbeats 1000000 in
set_option maxRecDepth 100000 in
theorem each_any (w0 w : World) (a0 : Option Addr) (c0 : Nat) (ps : List HD) (f : FuncId) (caps : Array Value) (step : Nat → DiskD → Option DiskD) (C : Nat → List Asr) (F : List Asr) (hl : ps.length ≤ 1048576) (HE : ∀ (args : Array Value) (w : World), (callFunc f args).run Try.prog w = .ok (.enter f args) w) (hR : Rd HD.cells 3 w0 a0 ps.length ps) (hf : ∀ k, k < ps.length → ∀ (w : World) (X : List Asr), (∃ xs, eachTo step (dsOf ps) k = some xs) → St w0 (C k ++ X) w → Calls Try.prog f (#[] ++ #[.int .i64 (k : Int), .agg #[.slice ((ps.getD k default).a0) ((ps.getD k default).d.fCells.length) ((ps.getD k default).c0), .slice ((ps.getD k default).a1) ((ps.getD k default).d.fWaits.length) ((ps.getD k default).c1), .bool ((ps.getD k default).d.fGone)]] ++ caps) w fun e w' => (step k (ps.getD k default).d = none ∧ ∃ q : HD, e = .returned (.tuple #[.agg #[.slice q.a0 q.d.fCells.length q.c0, .slice q.a1 q.d.fWaits.length q.c1, .bool q.d.fGone], .bool false]) ∧ St w0 X w') ∨ (∃ q : HD, step k (ps.getD k default).d = some q.d ∧ e = .returned (.tuple #[.agg #[.slice q.a0 q.d.fCells.length q.c0, .slice q.a1 q.d.fWaits.length q.c1, .bool q.d.fGone], .bool true]) ∧ St w0 (q.asr :: (C (k + 1) ++ X)) w')) (hS : St w0 (C 0 ++ F) w) : Calls Try.prog 47 #[.agg #[.slice a0 ps.length c0], .func (.func f) #[] caps] w fun e w' => (eachTo step (dsOf ps) ps.length = none ∧ e = .returned (.tuple #[.agg #[.slice none 0 0], .bool false]) ∧ St w0 F w') ∨ (∃ ao cp qs, eachTo step (dsOf ps) ps.length = some (dsOf qs) ∧ e = .returned (.tuple #[.agg #[.slice ao qs.length cp], .bool true]) ∧ St w0 (rowA HD.cells 3 44 (.slice ao qs.length cp) qs :: sepA (qs.map HD.asr) :: (C ps.length ++ F)) w') := by
  have HR := Bx.mk hR; have HF0 := Bx.mk hf; clear hR hf
  have HS := Bx.mk hS; clear hS
  refine wc_enter Try.func47 rfl Try.ntmps47 [(0, .agg #[.slice a0 ps.length c0]), (1, .func (.func f) #[] caps)] ⟨rfl, rfl, trivial⟩ rfl ?_; intro a HF
  refine wp_seq ?_
  refine wp_region_lit ?_
  refine wl_box rfl HF rfl (HF.ev rfl) (Z := [.slice a0 ps.length c0]) rfl rfl rfl rfl HS.out ?_; clear HF HS; clear a; intro a w1 b1 HF HS; replace HS := Bx.mk HS
  refine wl_alloc rfl HF rfl rfl rfl (Z := [.slice none 0 0]) (by kernel_rfl) rfl HS.out ?_; clear HF HS; clear a; intro a w2 b2 HF HS; replace HS := Bx.mk HS
  refine wl_y rfl HF rfl rfl (yl_assign rfl (HF.ev rfl)) ?_; clear HF; clear a; intro a HF
  refine wpList_nil ?_
  refine ex_then ?_
  refine wp_seq ?_
  refine wp_region_lit ?_
  refine wl_alloc rfl HF rfl rfl rfl (Z := [.slice none 0 0]) (by kernel_rfl) rfl HS.out ?_; clear HF HS; clear a; intro a w3 b3 HF HS; replace HS := Bx.mk HS
  refine wpList_nil ?_
  refine ex_then ?_
  refine wp_seq ?_
  refine wp_seq ?_
  refine wp_region_lit ?_
  refine wl_y rfl HF rfl rfl (yl_fieldAddr (j := 0) rfl (HF.ev rfl) (by kernel_rfl)) ?_; clear HF; clear a; intro a HF
  refine wl_y rfl HF rfl rfl (yl_load (v := .slice a0 ps.length c0) rfl (HF.ev rfl) (((HS.out.box 2 rfl).cell 0).trans rfl) (by kernel_rfl)) ?_; clear HF; clear a; intro a HF
  refine wl_y rfl HF rfl rfl (yl_lenL (e := 44) (size := 3) rfl (HF.ev rfl) (by kernel_rfl)) ?_; clear HF; clear a; intro a HF
  refine wl_y rfl HF rfl rfl (yl_move rfl (HF.ev rfl)) ?_; clear HF; clear a; intro a HF
  refine wpList_nil ?_
  refine ex_then ?_
  refine wp_block ?_
  replace HS := Bx.mk ((HS.out.hdNil).nilRow HD.cells 3 44 none)
  refine wc_loop (ι := Nat) (fun k a w => ∃ (ao : Option Addr) (cp : Nat) (qs : List HD), (k ≤ ps.length ∧ qs.length = k ∧ eachTo step (dsOf ps) k = some (dsOf qs)) ∧ Fr 37 a [(1, .func (.func f) #[] caps), (2, .pointer (some ⟨b1, 0, none⟩)), (4, .pointer (some ⟨b2, 0, none⟩)), (5, .bool false), (6, .pointer (some ⟨b3, 0, none⟩)), (12, .slice a0 ps.length c0), (13, .int .i64 (ps.length : Int)), (14, .int .i64 (k : Int))] ∧ St w0 (rowA HD.cells 3 44 (.slice ao qs.length cp) qs :: sepA (qs.map HD.asr) :: boxA b3 1 25 (.agg #[.slice ao qs.length cp]) :: boxA b2 1 25 (.agg #[.slice none 0 0]) :: boxA b1 1 25 (.agg #[.slice a0 ps.length c0]) :: (C k ++ F)) w) (fun k => ps.length - k) 0 ⟨_, _, [], ⟨Nat.zero_le _, rfl, rfl⟩, HF.less _ ⟨rfl, rfl, rfl, rfl, rfl, rfl, rfl, rfl, trivial⟩, HS.out⟩ ?_
  clear HF HS; clear a
  rintro k a w4 ⟨ao, cp, qs, ⟨hk, hql, hq⟩, HF, HS⟩
  replace HS := Bx.mk HS
  refine wp_seq ?_
  refine wp_region_lit ?_
  refine wl_y rfl HF rfl rfl (yl_lssI rfl (HF.ev rfl) (HF.ev rfl)) ?_; clear HF; clear a; intro a HF
  refine wpList_nil ?_
  refine ex_then ?_
  refine wp_seq ?_
  refine HF.cases 15 rfl (fun cc1 HF1 => ?_) (fun cc1 HF1 => ?_)
  · clear HF; have HF := HF1; clear HF1
    have dcc1 := of_decide_eq_true cc1
    refine wc_true HF rfl ?_
    refine wp_skip ?_
    refine ex_then ?_
    refine wp_seq ?_
    refine wp_block ?_
    refine wp_seq ?_
    obtain ⟨g0, o0, r0⟩ := HR.out.opn; have R0 := Bx.mk r0; clear r0
    refine wp_region_lit ?_
    refine wl_y rfl HF rfl rfl (yl_move rfl (HF.ev rfl)) ?_; clear HF; clear a; intro a HF
    refine wl_y rfl HF rfl rfl (yl_indexAddrR (e := 44) (i := k) (size := 3) rfl (HF.ev rfl) (HF.ev rfl) (by kernel_rfl) rfl (by omega) (R0.out.ao k (by omega))) ?_; clear HF; clear a; intro a HF
    refine wl_y rfl HF rfl rfl (yl_loadR (cs := [.slice ((ps.getD k default).a0) ((ps.getD k default).d.fCells.length) ((ps.getD k default).c0), .slice ((ps.getD k default).a1) ((ps.getD k default).d.fWaits.length) ((ps.getD k default).c1), .bool ((ps.getD k default).d.fGone)]) rfl (HF.ev rfl) (R0.out.elem HS.out (get_getD (xs := ps) (j := k) (d := default) (by omega))) (by kernel_rfl)) ?_; clear HF; clear a; intro a HF
    refine wl_alloc rfl HF rfl rfl rfl (Z := [.slice none 0 0, .slice none 0 0, .bool false]) (by kernel_rfl) rfl HS.out ?_; clear HF HS; clear a; intro a w5 b4 HF HS; replace HS := Bx.mk HS
    refine wl_y rfl HF rfl rfl (yl_assign rfl (HF.ev rfl)) ?_; clear HF; clear a; intro a HF
    refine wl_storeBox rfl HF rfl rfl (HF.ev rfl) (HF.ev rfl) HS.out 0 rfl (cells_lit [.slice ((ps.getD k default).a0) ((ps.getD k default).d.fCells.length) ((ps.getD k default).c0), .slice ((ps.getD k default).a1) ((ps.getD k default).d.fWaits.length) ((ps.getD k default).c1), .bool ((ps.getD k default).d.fGone)] rfl rfl) (by kernel_rfl) ?_; clear HS; intro w6 HS; replace HS := Bx.mk HS
    have HS : Bx (St w0 (boxA b4 3 44 (.agg #[.slice ((ps.getD k default).a0) ((ps.getD k default).d.fCells.length) ((ps.getD k default).c0), .slice ((ps.getD k default).a1) ((ps.getD k default).d.fWaits.length) ((ps.getD k default).c1), .bool ((ps.getD k default).d.fGone)]) :: rowA HD.cells 3 44 (.slice ao qs.length cp) qs :: sepA (qs.map HD.asr) :: boxA b3 1 25 (.agg #[.slice ao qs.length cp]) :: boxA b2 1 25 (.agg #[.slice none 0 0]) :: boxA b1 1 25 (.agg #[.slice a0 ps.length c0]) :: (C k ++ F)) _) := HS
    refine wpList_nil ?_
    refine ex_then ?_
    refine wp_seq ?_
    refine wp_region_lit ?_
    refine wl_y rfl HF rfl rfl (yl_move rfl (HF.ev rfl)) ?_; clear HF; clear a; intro a HF
    refine wl_y rfl HF rfl rfl (yl_move rfl (HF.ev rfl)) ?_; clear HF; clear a; intro a HF
    refine wl_y rfl HF rfl rfl (yl_loadR (cs := [.slice ((ps.getD k default).a0) ((ps.getD k default).d.fCells.length) ((ps.getD k default).c0), .slice ((ps.getD k default).a1) ((ps.getD k default).d.fWaits.length) ((ps.getD k default).c1), .bool ((ps.getD k default).d.fGone)]) rfl (HF.ev rfl) ((HS.out.box 0 rfl).sub 0 3) (by kernel_rfl)) ?_; clear HF; clear a; intro a HF
    refine wl_callv rfl HF rfl (HF.ev rfl) HE (args := #[.int .i64 (k : Int), .agg #[.slice ((ps.getD k default).a0) ((ps.getD k default).d.fCells.length) ((ps.getD k default).c0), .slice ((ps.getD k default).a1) ((ps.getD k default).d.fWaits.length) ((ps.getD k default).c1), .bool ((ps.getD k default).d.fGone)]]) rfl (HF0.out k (by omega) _ ([boxA b4 3 44 (.agg #[.slice ((ps.getD k default).a0) ((ps.getD k default).d.fCells.length) ((ps.getD k default).c0), .slice ((ps.getD k default).a1) ((ps.getD k default).d.fWaits.length) ((ps.getD k default).c1), .bool ((ps.getD k default).d.fGone)]), rowA HD.cells 3 44 (.slice ao qs.length cp) qs, sepA (qs.map HD.asr), boxA b3 1 25 (.agg #[.slice ao qs.length cp]), boxA b2 1 25 (.agg #[.slice none 0 0]), boxA b1 1 25 (.agg #[.slice a0 ps.length c0])] ++ F) ⟨_, hq⟩ (St.midl (L := [boxA b4 3 44 (.agg #[.slice ((ps.getD k default).a0) ((ps.getD k default).d.fCells.length) ((ps.getD k default).c0), .slice ((ps.getD k default).a1) ((ps.getD k default).d.fWaits.length) ((ps.getD k default).c1), .bool ((ps.getD k default).d.fGone)]), rowA HD.cells 3 44 (.slice ao qs.length cp) qs, sepA (qs.map HD.asr), boxA b3 1 25 (.agg #[.slice ao qs.length cp]), boxA b2 1 25 (.agg #[.slice none 0 0]), boxA b1 1 25 (.agg #[.slice a0 ps.length c0])]) HS.out)) rfl rfl ?_
    rintro _ w7 (⟨hev, q, rfl, hs⟩ | ⟨q, hev, rfl, hs⟩)
    · skip
      refine ⟨_, rfl, ?_⟩; replace HS := Bx.mk hs; clear hs HF; clear a; intro a HF
      replace HS : Bx (St w0 (boxA b4 3 44 (.agg #[.slice ((ps.getD k default).a0) ((ps.getD k default).d.fCells.length) ((ps.getD k default).c0), .slice ((ps.getD k default).a1) ((ps.getD k default).d.fWaits.length) ((ps.getD k default).c1), .bool ((ps.getD k default).d.fGone)]) :: rowA HD.cells 3 44 (.slice ao qs.length cp) qs :: sepA (qs.map HD.asr) :: boxA b3 1 25 (.agg #[.slice ao qs.length cp]) :: boxA b2 1 25 (.agg #[.slice none 0 0]) :: boxA b1 1 25 (.agg #[.slice a0 ps.length c0]) :: F) _) := ⟨HS.out⟩
      refine wl_y rfl HF rfl rfl (yl_move rfl (HF.ev rfl)) ?_; clear HF; clear a; intro a HF
      refine wl_y rfl HF rfl rfl (yl_extract rfl (HF.ev rfl) rfl) ?_; clear HF; clear a; intro a HF
      refine wl_y rfl HF rfl rfl (yl_extract rfl (HF.ev rfl) rfl) ?_; clear HF; clear a; intro a HF
      refine wl_alloc rfl HF rfl rfl rfl (Z := [.slice none 0 0, .slice none 0 0, .bool false]) (by kernel_rfl) rfl HS.out ?_; clear HF HS; clear a; intro a w8 b5 HF HS; replace HS := Bx.mk HS
      refine wl_storeBox rfl HF rfl rfl (HF.ev rfl) (HF.ev rfl) HS.out 0 rfl (cells_lit [.slice q.a0 q.d.fCells.length q.c0, .slice q.a1 q.d.fWaits.length q.c1, .bool q.d.fGone] rfl rfl) (by kernel_rfl) ?_; clear HS; intro w9 HS; replace HS := Bx.mk HS
      have HS : Bx (St w0 (boxA b5 3 44 (.agg #[.slice q.a0 q.d.fCells.length q.c0, .slice q.a1 q.d.fWaits.length q.c1, .bool q.d.fGone]) :: boxA b4 3 44 (.agg #[.slice ((ps.getD k default).a0) ((ps.getD k default).d.fCells.length) ((ps.getD k default).c0), .slice ((ps.getD k default).a1) ((ps.getD k default).d.fWaits.length) ((ps.getD k default).c1), .bool ((ps.getD k default).d.fGone)]) :: rowA HD.cells 3 44 (.slice ao qs.length cp) qs :: sepA (qs.map HD.asr) :: boxA b3 1 25 (.agg #[.slice ao qs.length cp]) :: boxA b2 1 25 (.agg #[.slice none 0 0]) :: boxA b1 1 25 (.agg #[.slice a0 ps.length c0]) :: F) _) := HS
      refine wl_y rfl HF rfl rfl (yl_assign rfl (HF.ev rfl)) ?_; clear HF; clear a; intro a HF
      refine wpList_nil ?_
      refine ex_then ?_
      refine wp_seq ?_
      refine wp_seq ?_
      refine wp_region_lit ?_
      refine wl_y rfl HF rfl rfl (yl_move rfl (HF.ev rfl)) ?_; clear HF; clear a; intro a HF
      refine wl_y rfl HF rfl rfl (yl_not rfl (HF.ev rfl)) ?_; clear HF; clear a; intro a HF
      refine wpList_nil ?_
      refine ex_then ?_
      refine wc_true HF rfl ?_
      refine wp_seq ?_
      refine wp_region_lit ?_
      refine wl_y rfl HF rfl rfl (yl_build HF rfl (ps := []) rfl (cs := #[.slice none 0 0]) (by kernel_rfl)) ?_; clear HF; clear a; intro a HF
      refine wl_storeBox rfl HF rfl rfl (HF.ev rfl) (HF.ev rfl) HS.out 5 rfl (cells_lit [.slice none 0 0] rfl rfl) (by kernel_rfl) ?_; clear HS; intro w10 HS; replace HS := Bx.mk HS
      have HS : Bx (St w0 (boxA b5 3 44 (.agg #[.slice q.a0 q.d.fCells.length q.c0, .slice q.a1 q.d.fWaits.length q.c1, .bool q.d.fGone]) :: boxA b4 3 44 (.agg #[.slice ((ps.getD k default).a0) ((ps.getD k default).d.fCells.length) ((ps.getD k default).c0), .slice ((ps.getD k default).a1) ((ps.getD k default).d.fWaits.length) ((ps.getD k default).c1), .bool ((ps.getD k default).d.fGone)]) :: rowA HD.cells 3 44 (.slice ao qs.length cp) qs :: sepA (qs.map HD.asr) :: boxA b3 1 25 (.agg #[.slice ao qs.length cp]) :: boxA b2 1 25 (.agg #[.slice none 0 0]) :: boxA b1 1 25 (.agg #[.slice a0 ps.length c0]) :: F) _) := HS
      refine wl_y rfl HF rfl rfl (yl_assign rfl (HF.ev rfl)) ?_; clear HF; clear a; intro a HF
      refine wpList_nil ?_
      refine ex_then ?_
      refine wp_ret ?_
      refine ex_then_ret ?_
      refine ex_block_ret ?_
      refine ex_then_ret ?_
      refine ex_then_ret ?_
      refine ex_block_ret ?_
      refine ex_then_ret ?_
      refine bp_ret2 HF Try.results47 (HF.resBox rfl (HS.out.box 5 rfl) (by kernel_rfl)) (HF.res rfl) ?_
      exact .inl ⟨eachTo_fail (k := k) (by rw [dsOf_get]; exact hev) (by omega), rfl, (((((((HS.out.erase 6).erase 5).erase 4).erase 3).erase 2).erase 1).erase 0)⟩
    · skip
      refine ⟨_, rfl, ?_⟩; replace HS := Bx.mk (St.midl (L := C (k + 1)) (C := HD.asr q :: [boxA b4 3 44 (.agg #[.slice ((ps.getD k default).a0) ((ps.getD k default).d.fCells.length) ((ps.getD k default).c0), .slice ((ps.getD k default).a1) ((ps.getD k default).d.fWaits.length) ((ps.getD k default).c1), .bool ((ps.getD k default).d.fGone)]), rowA HD.cells 3 44 (.slice ao qs.length cp) qs, sepA (qs.map HD.asr), boxA b3 1 25 (.agg #[.slice ao qs.length cp]), boxA b2 1 25 (.agg #[.slice none 0 0]), boxA b1 1 25 (.agg #[.slice a0 ps.length c0])]) (St.midl (L := [HD.asr q]) hs)); clear hs HF; clear a; intro a HF
      replace HS : Bx (St w0 (HD.asr q :: boxA b4 3 44 (.agg #[.slice ((ps.getD k default).a0) ((ps.getD k default).d.fCells.length) ((ps.getD k default).c0), .slice ((ps.getD k default).a1) ((ps.getD k default).d.fWaits.length) ((ps.getD k default).c1), .bool ((ps.getD k default).d.fGone)]) :: rowA HD.cells 3 44 (.slice ao qs.length cp) qs :: sepA (qs.map HD.asr) :: boxA b3 1 25 (.agg #[.slice ao qs.length cp]) :: boxA b2 1 25 (.agg #[.slice none 0 0]) :: boxA b1 1 25 (.agg #[.slice a0 ps.length c0]) :: (C (k + 1) ++ F)) _) := ⟨HS.out⟩
      refine wl_y rfl HF rfl rfl (yl_move rfl (HF.ev rfl)) ?_; clear HF; clear a; intro a HF
      refine wl_y rfl HF rfl rfl (yl_extract rfl (HF.ev rfl) rfl) ?_; clear HF; clear a; intro a HF
      refine wl_y rfl HF rfl rfl (yl_extract rfl (HF.ev rfl) rfl) ?_; clear HF; clear a; intro a HF
      refine wl_alloc rfl HF rfl rfl rfl (Z := [.slice none 0 0, .slice none 0 0, .bool false]) (by kernel_rfl) rfl HS.out ?_; clear HF HS; clear a; intro a w11 b6 HF HS; replace HS := Bx.mk HS
      refine wl_storeBox rfl HF rfl rfl (HF.ev rfl) (HF.ev rfl) HS.out 0 rfl (cells_lit [.slice q.a0 q.d.fCells.length q.c0, .slice q.a1 q.d.fWaits.length q.c1, .bool q.d.fGone] rfl rfl) (by kernel_rfl) ?_; clear HS; intro w12 HS; replace HS := Bx.mk HS
      have HS : Bx (St w0 (boxA b6 3 44 (.agg #[.slice q.a0 q.d.fCells.length q.c0, .slice q.a1 q.d.fWaits.length q.c1, .bool q.d.fGone]) :: HD.asr q :: boxA b4 3 44 (.agg #[.slice ((ps.getD k default).a0) ((ps.getD k default).d.fCells.length) ((ps.getD k default).c0), .slice ((ps.getD k default).a1) ((ps.getD k default).d.fWaits.length) ((ps.getD k default).c1), .bool ((ps.getD k default).d.fGone)]) :: rowA HD.cells 3 44 (.slice ao qs.length cp) qs :: sepA (qs.map HD.asr) :: boxA b3 1 25 (.agg #[.slice ao qs.length cp]) :: boxA b2 1 25 (.agg #[.slice none 0 0]) :: boxA b1 1 25 (.agg #[.slice a0 ps.length c0]) :: (C (k + 1) ++ F)) _) := HS
      refine wl_y rfl HF rfl rfl (yl_assign rfl (HF.ev rfl)) ?_; clear HF; clear a; intro a HF
      refine wpList_nil ?_
      refine ex_then ?_
      refine wp_seq ?_
      refine wp_seq ?_
      refine wp_region_lit ?_
      refine wl_y rfl HF rfl rfl (yl_move rfl (HF.ev rfl)) ?_; clear HF; clear a; intro a HF
      refine wl_y rfl HF rfl rfl (yl_not rfl (HF.ev rfl)) ?_; clear HF; clear a; intro a HF
      refine wpList_nil ?_
      refine ex_then ?_
      refine wc_false HF rfl ?_
      refine wp_skip ?_
      refine ex_then ?_
      refine wp_region_lit ?_
      refine wl_y rfl HF rfl rfl (yl_fieldAddr (j := 0) rfl (HF.ev rfl) (by kernel_rfl)) ?_; clear HF; clear a; intro a HF
      refine wl_y rfl HF rfl rfl (yl_load (v := .slice ao qs.length cp) rfl (HF.ev rfl) (((HS.out.box 5 rfl).cell 0).trans rfl) (by kernel_rfl)) ?_; clear HF; clear a; intro a HF
      refine wl_y rfl HF rfl rfl (yl_loadR (cs := [.slice q.a0 q.d.fCells.length q.c0, .slice q.a1 q.d.fWaits.length q.c1, .bool q.d.fGone]) rfl (HF.ev rfl) ((HS.out.box 0 rfl).sub 0 3) (by kernel_rfl)) ?_; clear HF; clear a; intro a HF
      refine wl_buildS (enc := HD.cells) (e := 44) (size := 3) rfl HF rfl rfl rfl (ps := [(0, .agg #[.slice q.a0 q.d.fCells.length q.c0, .slice q.a1 q.d.fWaits.length q.c1, .bool q.d.fGone])]) rfl (cells := [.slice q.a0 q.d.fCells.length q.c0, .slice q.a1 q.d.fWaits.length q.c1, .bool q.d.fGone]) (by kernel_rfl) [q] rfl rfl (by unfold maxLen; omega) rfl HS.out ?_; clear HF HS; clear a; intro b7 a w13 HF HS; replace HS := Bx.mk HS
      refine wl_appL rfl HF rfl rfl rfl (HF.ev rfl) (HF.ev rfl) elemD HD.cells_len HS.out 4 (xs := qs) rfl (ys := [q]) (St.rdN HS.out HD.cells_len 0 rfl) (cells_one_D _) (by unfold maxLen; simp only [List.length_cons, List.length_nil]; omega) (by simp only [List.length_cons, List.length_nil]; omega) ?_; clear HF HS; clear a; intro ao8 cp9 w14 a HF HS; replace HS := Bx.mk HS
      replace HS : Bx (St w0 (rowA HD.cells 3 44 (.slice (some ⟨b7, 0, none⟩) 1 1) ([q]) :: boxA b6 3 44 (.agg #[.slice q.a0 q.d.fCells.length q.c0, .slice q.a1 q.d.fWaits.length q.c1, .bool q.d.fGone]) :: HD.asr q :: boxA b4 3 44 (.agg #[.slice ((ps.getD k default).a0) ((ps.getD k default).d.fCells.length) ((ps.getD k default).c0), .slice ((ps.getD k default).a1) ((ps.getD k default).d.fWaits.length) ((ps.getD k default).c1), .bool ((ps.getD k default).d.fGone)]) :: rowA HD.cells 3 44 (.slice ao8 (qs.length + ([q]).length) cp9) (qs ++ ([q])) :: sepA (qs.map HD.asr) :: boxA b3 1 25 (.agg #[.slice ao qs.length cp]) :: boxA b2 1 25 (.agg #[.slice none 0 0]) :: boxA b1 1 25 (.agg #[.slice a0 ps.length c0]) :: (C (k + 1) ++ F)) _) := ⟨HS.out⟩
      refine wl_y rfl HF rfl rfl (yl_fieldAddr (j := 0) rfl (HF.ev rfl) (by kernel_rfl)) ?_; clear HF; clear a; intro a HF
      refine wl_storeF rfl rfl rfl (HF.ev rfl) (HF.ev rfl) (by kernel_rfl) HS.out 6 rfl rfl rfl ?_; clear HS; intro w15 HS; replace HS := Bx.mk HS
      have HS : Bx (St w0 (rowA HD.cells 3 44 (.slice (some ⟨b7, 0, none⟩) 1 1) ([q]) :: boxA b6 3 44 (.agg #[.slice q.a0 q.d.fCells.length q.c0, .slice q.a1 q.d.fWaits.length q.c1, .bool q.d.fGone]) :: HD.asr q :: boxA b4 3 44 (.agg #[.slice ((ps.getD k default).a0) ((ps.getD k default).d.fCells.length) ((ps.getD k default).c0), .slice ((ps.getD k default).a1) ((ps.getD k default).d.fWaits.length) ((ps.getD k default).c1), .bool ((ps.getD k default).d.fGone)]) :: rowA HD.cells 3 44 (.slice ao8 (qs.length + ([q]).length) cp9) (qs ++ ([q])) :: sepA (qs.map HD.asr) :: boxA b3 1 25 (.agg #[.slice ao8 (qs.length + ([q]).length) cp9]) :: boxA b2 1 25 (.agg #[.slice none 0 0]) :: boxA b1 1 25 (.agg #[.slice a0 ps.length c0]) :: (C (k + 1) ++ F)) _) := HS
      refine wpList_nil ?_
      refine ex_block ?_
      refine ex_then ?_
      refine wp_region_lit ?_
      refine wl_y rfl HF rfl rfl (yl_addI rfl (HF.ev rfl) (HF.ev rfl) (i64w (by omega))) ?_; clear HF; clear a; intro a HF
      refine wl_y rfl HF rfl rfl (yl_move rfl (HF.ev rfl)) ?_; clear HF; clear a; intro a HF
      refine wpList_nil ?_
      refine ex_then ?_
      have hz : qs.length + [q].length = (qs ++ [q]).length := (List.length_append ..).symm
      rw [hz] at HS
      replace HS := Bx.mk (St.hdSnoc (((HS.out).pick 5 rfl).pick 3 rfl))
      replace HS := Bx.mk ((((((((((HS.out).pick 7 rfl).pick 7 rfl).pick 7 rfl).pick 3 rfl).pick 7 rfl).erase 7).erase 6).erase 5))
      have hnext : eachTo step (dsOf ps) (k + 1) = some (dsOf (qs ++ [q])) := by rw [dsOf_append]; exact eachTo_next (x := q.d) hq (by rw [dsOf_get]; exact hev)
      exact ⟨k + 1, ⟨_, _, qs ++ [q], ⟨by omega, by rw [List.length_append]; show qs.length + 1 = k + 1; omega, hnext⟩, HF.less _ ⟨rfl, rfl, rfl, rfl, rfl, rfl, rfl, rfl, trivial⟩, HS.out⟩, (by omega)⟩
  · clear HF; have HF := HF1; clear HF1
    have dcc1 := of_decide_eq_false cc1
    refine wc_false HF rfl ?_
    refine wp_exit ?_
    refine ex_then_exit ?_
    refine ex_then_exit ?_
    refine ex_block_hit ?_
    refine ex_then ?_
    refine wp_seq ?_
    refine wp_region_lit ?_
    refine wl_y rfl HF rfl rfl (yl_loadR (cs := [.slice ao qs.length cp]) rfl (HF.ev rfl) ((HS.out.box 2 rfl).sub 0 1) (by kernel_rfl)) ?_; clear HF; clear a; intro a HF
    refine wl_storeBox rfl HF rfl rfl (HF.ev rfl) (HF.ev rfl) HS.out 3 rfl (cells_lit [.slice ao qs.length cp] rfl rfl) (by kernel_rfl) ?_; clear HS; intro w16 HS; replace HS := Bx.mk HS
    have HS : Bx (St w0 (rowA HD.cells 3 44 (.slice ao qs.length cp) qs :: sepA (qs.map HD.asr) :: boxA b3 1 25 (.agg #[.slice ao qs.length cp]) :: boxA b2 1 25 (.agg #[.slice ao qs.length cp]) :: boxA b1 1 25 (.agg #[.slice a0 ps.length c0]) :: (C k ++ F)) _) := HS
    refine wl_y rfl HF rfl rfl (yl_assign rfl (HF.ev rfl)) ?_; clear HF; clear a; intro a HF
    refine wpList_nil ?_
    refine ex_then ?_
    refine wp_ret ?_
    refine bp_ret2 HF Try.results47 (HF.resBox rfl (HS.out.box 3 rfl) (by kernel_rfl)) (HF.res rfl) ?_
    replace HS : Bx (St w0 (rowA HD.cells 3 44 (.slice ao qs.length cp) qs :: sepA (qs.map HD.asr) :: boxA b3 1 25 (.agg #[.slice ao qs.length cp]) :: boxA b2 1 25 (.agg #[.slice ao qs.length cp]) :: boxA b1 1 25 (.agg #[.slice a0 ps.length c0]) :: (C k ++ F)) _) := ⟨((HS.out).pick 1 rfl).pick 1 rfl⟩
    obtain rfl : k = ps.length := by omega
    exact .inr ⟨_, _, qs, hq, rfl, (((HS.out.erase 4).erase 3).erase 2)⟩

end Go.Proofs.Ytfijfjjleelphaa

/- Healing a set of disks, by the program. -/
namespace Go.Proofs.Ytfijfjjleelphaa
open Go.RowKit

set_option maxHeartbeats 1000000 in
set_option maxRecDepth 100000 in
theorem heal1_any (w0 w : World) (bp bc bn gw : Nat) (p : PtrD) (m : Nat) (hpa : p.fAt = (m : Int)) (hm : m < 64) (ps : List HD) (k : Nat) (hk : k < 3) (hokk : (ps.getD k default).d.ok = true) (hf : (ps.getD k default).d.fits) (hp : (ps.getD k default).reads w0) (t : ByteArray) (ht : t.size ≤ 128) (X : List Asr) (hS : St w0 (boxA bn 1 3 (.agg #[.int .i64 ((cntH (dsOf ps) t m k : Nat) : Int)]) :: boxA bp 5 33 (.agg #[.int .i64 p.fAt, .int .i64 p.fBirth, .int .i64 p.fSize, .int .i64 p.fSum, .int .i64 p.fLevel]) :: boxA bc 1 41 (.agg #[.slice (some ⟨gw, 0, none⟩) 3 3]) :: rowA encS 1 9 (.slice (some ⟨gw, 0, none⟩) 3 3) ([col0 t, col1 t, col2 t]) :: X) w) : Calls Try.prog 72 #[.int .i64 (k : Int), .agg #[.slice ((ps.getD k default).a0) ((ps.getD k default).d.fCells.length) ((ps.getD k default).c0), .slice ((ps.getD k default).a1) ((ps.getD k default).d.fWaits.length) ((ps.getD k default).c1), .bool ((ps.getD k default).d.fGone)], .pointer (some ⟨bp, 0, none⟩), .pointer (some ⟨bc, 0, none⟩), .pointer (some ⟨bn, 0, none⟩)] w fun e w' => (stepPut (m : Int) (colOf t) (badH (dsOf ps) t m) k (ps.getD k default).d = none ∧ ∃ q : HD, e = .returned (.tuple #[.agg #[.slice q.a0 q.d.fCells.length q.c0, .slice q.a1 q.d.fWaits.length q.c1, .bool q.d.fGone], .bool false]) ∧ St w0 X w') ∨ (∃ q : HD, stepPut (m : Int) (colOf t) (badH (dsOf ps) t m) k (ps.getD k default).d = some q.d ∧ e = .returned (.tuple #[.agg #[.slice q.a0 q.d.fCells.length q.c0, .slice q.a1 q.d.fWaits.length q.c1, .bool q.d.fGone], .bool true]) ∧ St w0 (q.asr :: boxA bn 1 3 (.agg #[.int .i64 ((cntH (dsOf ps) t m (k + 1) : Nat) : Int)]) :: boxA bp 5 33 (.agg #[.int .i64 p.fAt, .int .i64 p.fBirth, .int .i64 p.fSize, .int .i64 p.fSum, .int .i64 p.fLevel]) :: boxA bc 1 41 (.agg #[.slice (some ⟨gw, 0, none⟩) 3 3]) :: rowA encS 1 9 (.slice (some ⟨gw, 0, none⟩) 3 3) ([col0 t, col1 t, col2 t]) :: X) w') := by
  have hP := Bx.mk hp; clear hp
  have hok2 := ok_waits hokk
  have HS := Bx.mk hS; clear hS
  refine wc_enter Try.func72 rfl Try.ntmps72 [(0, .int .i64 (k : Int)), (1, .agg #[.slice ((ps.getD k default).a0) ((ps.getD k default).d.fCells.length) ((ps.getD k default).c0), .slice ((ps.getD k default).a1) ((ps.getD k default).d.fWaits.length) ((ps.getD k default).c1), .bool ((ps.getD k default).d.fGone)]), (2, .pointer (some ⟨bp, 0, none⟩)), (3, .pointer (some ⟨bc, 0, none⟩)), (4, .pointer (some ⟨bn, 0, none⟩))] ⟨rfl, rfl, rfl, rfl, rfl, trivial⟩ rfl ?_; intro a HF
  refine wp_seq ?_
  refine wp_region_lit ?_
  refine wl_box rfl HF rfl (HF.ev rfl) (Z := [.slice ((ps.getD k default).a0) ((ps.getD k default).d.fCells.length) ((ps.getD k default).c0), .slice ((ps.getD k default).a1) ((ps.getD k default).d.fWaits.length) ((ps.getD k default).c1), .bool ((ps.getD k default).d.fGone)]) rfl rfl rfl rfl HS.out ?_; clear HF HS; clear a; intro a w1 b1 HF HS; replace HS := Bx.mk HS
  refine wl_alloc rfl HF rfl rfl rfl (Z := [.slice none 0 0, .slice none 0 0, .bool false]) (by kernel_rfl) rfl HS.out ?_; clear HF HS; clear a; intro a w2 b2 HF HS; replace HS := Bx.mk HS
  refine wl_y rfl HF rfl rfl (yl_assign rfl (HF.ev rfl)) ?_; clear HF; clear a; intro a HF
  refine wpList_nil ?_
  refine ex_then ?_
  refine wp_seq ?_
  refine wp_seq ?_
  have hwl : [col0 t, col1 t, col2 t].length = 3 := rfl
  refine wr_quiet (by kernel_rfl) (by kernel_rfl) HS.out ?_
  refine wq_y rfl HF rfl rfl (fun _ HS => (yl_fieldAddr (j := 2) rfl (HF.ev rfl) (by kernel_rfl))) ?_; clear HF; clear a; intro a HF
  refine wq_y rfl HF rfl rfl (fun _ HS => (yl_load (v := .bool ((ps.getD k default).d.fGone)) rfl (HF.ev rfl) (((HS.box 1 rfl).cell 2).trans rfl) (by kernel_rfl))) ?_; clear HF; clear a; intro a HF
  refine wq_y rfl HF rfl rfl (fun _ HS => (yl_move rfl (HF.ev rfl))) ?_; clear HF; clear a; intro a HF
  refine HF.cases 11 rfl (fun cc1 HF1 => ?_) (fun cc1 HF1 => ?_)
  · clear HF; have HF := HF1; clear HF1
    refine wq_skip HF rfl rfl rfl rfl rfl rfl ?_; clear HF; clear a; intro a HF
    refine wq_skip HF rfl rfl rfl rfl rfl rfl ?_; clear HF; clear a; intro a HF
    refine wq_skip HF rfl rfl rfl rfl rfl rfl ?_; clear HF; clear a; intro a HF
    refine wq_skip HF rfl rfl rfl rfl rfl rfl ?_; clear HF; clear a; intro a HF
    refine wq_skip HF rfl rfl rfl rfl rfl rfl ?_; clear HF; clear a; intro a HF
    refine wq_skip HF rfl rfl rfl rfl rfl rfl ?_; clear HF; clear a; intro a HF
    refine wq_skip HF rfl rfl rfl rfl rfl rfl ?_; clear HF; clear a; intro a HF
    refine wq_skip HF rfl rfl rfl rfl rfl rfl ?_; clear HF; clear a; intro a HF
    refine wq_skip HF rfl rfl rfl rfl rfl rfl ?_; clear HF; clear a; intro a HF
    refine wq_y rfl HF rfl rfl (fun _ HS => (yl_pick_t rfl (HF.ev rfl) (HF.ev rfl))) ?_; clear HF; clear a; intro a HF
    refine wpQuiet_nil ?_; intro w3 HS; replace HS := Bx.mk HS
    refine ex_then ?_
    refine wc_true HF rfl ?_
    refine wp_seq ?_
    refine wp_region_lit ?_
    refine wl_y rfl HF rfl rfl (yl_loadR (cs := [.slice ((ps.getD k default).a0) ((ps.getD k default).d.fCells.length) ((ps.getD k default).c0), .slice ((ps.getD k default).a1) ((ps.getD k default).d.fWaits.length) ((ps.getD k default).c1), .bool ((ps.getD k default).d.fGone)]) rfl (HF.ev rfl) ((HS.out.box 1 rfl).sub 0 3) (by kernel_rfl)) ?_; clear HF; clear a; intro a HF
    refine wl_call rfl HF rfl (enter_of Try.func49 (by kernel_rfl) rfl) (args := #[.agg #[.slice ((ps.getD k default).a0) ((ps.getD k default).d.fCells.length) ((ps.getD k default).c0), .slice ((ps.getD k default).a1) ((ps.getD k default).d.fWaits.length) ((ps.getD k default).c1), .bool ((ps.getD k default).d.fGone)]]) rfl (clone_any (ps.getD k default) _ (hP.out.below HS.out.bel) hf) rfl rfl ?_
    rintro _ w4 ⟨⟨qa3, qc3, qb3, qe3, qd⟩, hqd, rfl, hs⟩; obtain rfl : qd = (ps.getD k default).d := hqd; refine ⟨_, rfl, ?_⟩
    replace HS := Bx.mk ((HS.out.add hs)); clear hs HF; clear a; intro a HF
    replace HS : Bx (St w0 (HD.asr ⟨qa3, qc3, qb3, qe3, (ps.getD k default).d⟩ :: boxA b2 3 44 (.agg #[.slice none 0 0, .slice none 0 0, .bool false]) :: boxA b1 3 44 (.agg #[.slice ((ps.getD k default).a0) ((ps.getD k default).d.fCells.length) ((ps.getD k default).c0), .slice ((ps.getD k default).a1) ((ps.getD k default).d.fWaits.length) ((ps.getD k default).c1), .bool ((ps.getD k default).d.fGone)]) :: boxA bn 1 3 (.agg #[.int .i64 ((cntH (dsOf ps) t m k : Nat) : Int)]) :: boxA bp 5 33 (.agg #[.int .i64 p.fAt, .int .i64 p.fBirth, .int .i64 p.fSize, .int .i64 p.fSum, .int .i64 p.fLevel]) :: boxA bc 1 41 (.agg #[.slice (some ⟨gw, 0, none⟩) 3 3]) :: rowA encS 1 9 (.slice (some ⟨gw, 0, none⟩) 3 3) ([col0 t, col1 t, col2 t]) :: X) _) := ⟨HS.out⟩
    refine wl_storeBox rfl HF rfl rfl (HF.ev rfl) (HF.ev rfl) HS.out 1 rfl (cells_lit [.slice qa3 ((ps.getD k default).d.fCells.length) qc3, .slice qb3 ((ps.getD k default).d.fWaits.length) qe3, .bool ((ps.getD k default).d.fGone)] rfl rfl) (by kernel_rfl) ?_; clear HS; intro w5 HS; replace HS := Bx.mk HS
    have HS : Bx (St w0 (HD.asr ⟨qa3, qc3, qb3, qe3, (ps.getD k default).d⟩ :: boxA b2 3 44 (.agg #[.slice qa3 ((ps.getD k default).d.fCells.length) qc3, .slice qb3 ((ps.getD k default).d.fWaits.length) qe3, .bool ((ps.getD k default).d.fGone)]) :: boxA b1 3 44 (.agg #[.slice ((ps.getD k default).a0) ((ps.getD k default).d.fCells.length) ((ps.getD k default).c0), .slice ((ps.getD k default).a1) ((ps.getD k default).d.fWaits.length) ((ps.getD k default).c1), .bool ((ps.getD k default).d.fGone)]) :: boxA bn 1 3 (.agg #[.int .i64 ((cntH (dsOf ps) t m k : Nat) : Int)]) :: boxA bp 5 33 (.agg #[.int .i64 p.fAt, .int .i64 p.fBirth, .int .i64 p.fSize, .int .i64 p.fSum, .int .i64 p.fLevel]) :: boxA bc 1 41 (.agg #[.slice (some ⟨gw, 0, none⟩) 3 3]) :: rowA encS 1 9 (.slice (some ⟨gw, 0, none⟩) 3 3) ([col0 t, col1 t, col2 t]) :: X) _) := HS
    refine wl_y rfl HF rfl rfl (yl_assign rfl (HF.ev rfl)) ?_; clear HF; clear a; intro a HF
    refine wpList_nil ?_
    refine ex_then ?_
    refine wp_ret ?_
    refine ex_then_ret ?_
    refine bp_ret2 HF Try.results72 (HF.resBox rfl (HS.out.box 1 rfl) (by kernel_rfl)) (HF.res rfl) ?_
    have hbad : badH (dsOf ps) t m k = false := by unfold badH; rw [dsOf_get, cc1]; rfl
    have hcnt : cntH (dsOf ps) t m (k + 1) = cntH (dsOf ps) t m k + 0 := by rw [cntH_succ, hbad]; rfl
    replace HS : Bx (St w0 (HD.asr ⟨qa3, qc3, qb3, qe3, (ps.getD k default).d⟩ :: boxA bn 1 3 (.agg #[.int .i64 ((cntH (dsOf ps) t m k : Nat) : Int)]) :: boxA bp 5 33 (.agg #[.int .i64 p.fAt, .int .i64 p.fBirth, .int .i64 p.fSize, .int .i64 p.fSum, .int .i64 p.fLevel]) :: boxA bc 1 41 (.agg #[.slice (some ⟨gw, 0, none⟩) 3 3]) :: rowA encS 1 9 (.slice (some ⟨gw, 0, none⟩) 3 3) ([col0 t, col1 t, col2 t]) :: boxA b2 3 44 (.agg #[.slice qa3 ((ps.getD k default).d.fCells.length) qc3, .slice qb3 ((ps.getD k default).d.fWaits.length) qe3, .bool ((ps.getD k default).d.fGone)]) :: boxA b1 3 44 (.agg #[.slice ((ps.getD k default).a0) ((ps.getD k default).d.fCells.length) ((ps.getD k default).c0), .slice ((ps.getD k default).a1) ((ps.getD k default).d.fWaits.length) ((ps.getD k default).c1), .bool ((ps.getD k default).d.fGone)]) :: X) _) := ⟨(((((HS.out).pick 6 rfl).pick 6 rfl).pick 6 rfl).pick 6 rfl).pick 4 rfl⟩
    exact .inr ⟨⟨qa3, qc3, qb3, qe3, (ps.getD k default).d⟩, stepPut_skip (by rw [cc1, Bool.true_or] <;> rfl), rfl, by rw [hcnt]; exact ((HS.out.erase 6).erase 5)⟩
  · clear HF; have HF := HF1; clear HF1
    refine wq_yg HF rfl rfl rfl rfl rfl (fun _ HS => (yl_loadR (cs := [.slice ((ps.getD k default).a0) ((ps.getD k default).d.fCells.length) ((ps.getD k default).c0), .slice ((ps.getD k default).a1) ((ps.getD k default).d.fWaits.length) ((ps.getD k default).c1), .bool ((ps.getD k default).d.fGone)]) rfl (HF.ev rfl) ((HS.box 1 rfl).sub 0 3) (by kernel_rfl))) ?_; clear HF; clear a; intro a HF
    refine wq_yg HF rfl rfl rfl rfl rfl (fun _ HS => (yl_fieldAddr (j := 0) rfl (HF.ev rfl) (by kernel_rfl))) ?_; clear HF; clear a; intro a HF
    refine wq_yg HF rfl rfl rfl rfl rfl (fun _ HS => (yl_load (v := .int .i64 p.fAt) rfl (HF.ev rfl) (((HS.box 3 rfl).cell 0).trans rfl) (by kernel_rfl))) ?_; clear HF; clear a; intro a HF
    refine wq_callg HF rfl rfl rfl rfl (enter_of Try.func73 (by kernel_rfl) rfl) (args := #[.agg #[.slice ((ps.getD k default).a0) ((ps.getD k default).d.fCells.length) ((ps.getD k default).c0), .slice ((ps.getD k default).a1) ((ps.getD k default).d.fWaits.length) ((ps.getD k default).c1), .bool ((ps.getD k default).d.fGone)], .int .i64 p.fAt]) rfl (v := .string ((ps.getD k default).d.look m)) (fun _ HS => (by have := look_any (ps.getD k default).a0 (ps.getD k default).c0 (ps.getD k default).a1 (ps.getD k default).c1 (ps.getD k default).d m _ (by rw [hok2.1]; exact hm) (by omega) (hP.out.below HS.bel).rc (hP.out.below HS.bel).rw; rw [← hpa] at this; exact this)) rfl rfl ?_; clear HF; clear a; intro a HF
    refine wq_yg HF rfl rfl rfl rfl rfl (fun _ HS => (yl_load (v := .slice (some ⟨gw, 0, none⟩) 3 3) rfl (HF.ev rfl) (((HS.box 4 rfl).cell 0).trans rfl) (by kernel_rfl))) ?_; clear HF; clear a; intro a HF
    refine wq_yg HF rfl rfl rfl rfl rfl (fun _ HS => (yl_move rfl (HF.ev rfl))) ?_; clear HF; clear a; intro a HF
    refine wq_yg HF rfl rfl rfl rfl rfl (fun _ HS => (yl_indexAddr (e := 9) (i := k) (size := 1) rfl (HF.ev rfl) (HF.ev rfl) (by kernel_rfl) rfl (by omega))) ?_; clear HF; clear a; intro a HF
    refine wq_yg HF rfl rfl rfl rfl rfl (fun _ HS => (yl_load (v := .string (([col0 t, col1 t, col2 t]).getD k ByteArray.empty)) rfl (HF.ev rfl) (HS.elem1 encS_len 5 rfl (get_getD (xs := [col0 t, col1 t, col2 t]) (j := k) (d := ByteArray.empty) (by omega)) rfl) (by kernel_rfl))) ?_; clear HF; clear a; intro a HF
    refine wq_yg HF rfl rfl rfl rfl rfl (fun _ HS => (yl_eqlS rfl (HF.ev rfl) (HF.ev rfl))) ?_; clear HF; clear a; intro a HF
    refine wq_y rfl HF rfl rfl (fun _ HS => (yl_pick_f rfl (HF.ev rfl) (HF.ev rfl))) ?_; clear HF; clear a; intro a HF
    refine wpQuiet_nil ?_; intro w6 HS; replace HS := Bx.mk HS
    refine ex_then ?_
    refine HF.cases 21 rfl (fun cc2 HF1 => ?_) (fun cc2 HF1 => ?_)
    · clear HF; have HF := HF1; clear HF1
      refine wc_true HF rfl ?_
      refine wp_seq ?_
      refine wp_region_lit ?_
      refine wl_y rfl HF rfl rfl (yl_loadR (cs := [.slice ((ps.getD k default).a0) ((ps.getD k default).d.fCells.length) ((ps.getD k default).c0), .slice ((ps.getD k default).a1) ((ps.getD k default).d.fWaits.length) ((ps.getD k default).c1), .bool ((ps.getD k default).d.fGone)]) rfl (HF.ev rfl) ((HS.out.box 1 rfl).sub 0 3) (by kernel_rfl)) ?_; clear HF; clear a; intro a HF
      refine wl_call rfl HF rfl (enter_of Try.func49 (by kernel_rfl) rfl) (args := #[.agg #[.slice ((ps.getD k default).a0) ((ps.getD k default).d.fCells.length) ((ps.getD k default).c0), .slice ((ps.getD k default).a1) ((ps.getD k default).d.fWaits.length) ((ps.getD k default).c1), .bool ((ps.getD k default).d.fGone)]]) rfl (clone_any (ps.getD k default) _ (hP.out.below HS.out.bel) hf) rfl rfl ?_
      rintro _ w7 ⟨⟨qa4, qc4, qb4, qe4, qd⟩, hqd, rfl, hs⟩; obtain rfl : qd = (ps.getD k default).d := hqd; refine ⟨_, rfl, ?_⟩
      replace HS := Bx.mk ((HS.out.add hs)); clear hs HF; clear a; intro a HF
      replace HS : Bx (St w0 (HD.asr ⟨qa4, qc4, qb4, qe4, (ps.getD k default).d⟩ :: boxA b2 3 44 (.agg #[.slice none 0 0, .slice none 0 0, .bool false]) :: boxA b1 3 44 (.agg #[.slice ((ps.getD k default).a0) ((ps.getD k default).d.fCells.length) ((ps.getD k default).c0), .slice ((ps.getD k default).a1) ((ps.getD k default).d.fWaits.length) ((ps.getD k default).c1), .bool ((ps.getD k default).d.fGone)]) :: boxA bn 1 3 (.agg #[.int .i64 ((cntH (dsOf ps) t m k : Nat) : Int)]) :: boxA bp 5 33 (.agg #[.int .i64 p.fAt, .int .i64 p.fBirth, .int .i64 p.fSize, .int .i64 p.fSum, .int .i64 p.fLevel]) :: boxA bc 1 41 (.agg #[.slice (some ⟨gw, 0, none⟩) 3 3]) :: rowA encS 1 9 (.slice (some ⟨gw, 0, none⟩) 3 3) ([col0 t, col1 t, col2 t]) :: X) _) := ⟨HS.out⟩
      refine wl_storeBox rfl HF rfl rfl (HF.ev rfl) (HF.ev rfl) HS.out 1 rfl (cells_lit [.slice qa4 ((ps.getD k default).d.fCells.length) qc4, .slice qb4 ((ps.getD k default).d.fWaits.length) qe4, .bool ((ps.getD k default).d.fGone)] rfl rfl) (by kernel_rfl) ?_; clear HS; intro w8 HS; replace HS := Bx.mk HS
      have HS : Bx (St w0 (HD.asr ⟨qa4, qc4, qb4, qe4, (ps.getD k default).d⟩ :: boxA b2 3 44 (.agg #[.slice qa4 ((ps.getD k default).d.fCells.length) qc4, .slice qb4 ((ps.getD k default).d.fWaits.length) qe4, .bool ((ps.getD k default).d.fGone)]) :: boxA b1 3 44 (.agg #[.slice ((ps.getD k default).a0) ((ps.getD k default).d.fCells.length) ((ps.getD k default).c0), .slice ((ps.getD k default).a1) ((ps.getD k default).d.fWaits.length) ((ps.getD k default).c1), .bool ((ps.getD k default).d.fGone)]) :: boxA bn 1 3 (.agg #[.int .i64 ((cntH (dsOf ps) t m k : Nat) : Int)]) :: boxA bp 5 33 (.agg #[.int .i64 p.fAt, .int .i64 p.fBirth, .int .i64 p.fSize, .int .i64 p.fSum, .int .i64 p.fLevel]) :: boxA bc 1 41 (.agg #[.slice (some ⟨gw, 0, none⟩) 3 3]) :: rowA encS 1 9 (.slice (some ⟨gw, 0, none⟩) 3 3) ([col0 t, col1 t, col2 t]) :: X) _) := HS
      refine wl_y rfl HF rfl rfl (yl_assign rfl (HF.ev rfl)) ?_; clear HF; clear a; intro a HF
      refine wpList_nil ?_
      refine ex_then ?_
      refine wp_ret ?_
      refine ex_then_ret ?_
      refine bp_ret2 HF Try.results72 (HF.resBox rfl (HS.out.box 1 rfl) (by kernel_rfl)) (HF.res rfl) ?_
      have hbad : badH (dsOf ps) t m k = false := by unfold badH; rw [dsOf_get, cc1]; rw [Bool.not_false, Bool.true_and]; exact (congrArg (!·) cc2)
      have hcnt : cntH (dsOf ps) t m (k + 1) = cntH (dsOf ps) t m k + 0 := by rw [cntH_succ, hbad]; rfl
      replace HS : Bx (St w0 (HD.asr ⟨qa4, qc4, qb4, qe4, (ps.getD k default).d⟩ :: boxA bn 1 3 (.agg #[.int .i64 ((cntH (dsOf ps) t m k : Nat) : Int)]) :: boxA bp 5 33 (.agg #[.int .i64 p.fAt, .int .i64 p.fBirth, .int .i64 p.fSize, .int .i64 p.fSum, .int .i64 p.fLevel]) :: boxA bc 1 41 (.agg #[.slice (some ⟨gw, 0, none⟩) 3 3]) :: rowA encS 1 9 (.slice (some ⟨gw, 0, none⟩) 3 3) ([col0 t, col1 t, col2 t]) :: boxA b2 3 44 (.agg #[.slice qa4 ((ps.getD k default).d.fCells.length) qc4, .slice qb4 ((ps.getD k default).d.fWaits.length) qe4, .bool ((ps.getD k default).d.fGone)]) :: boxA b1 3 44 (.agg #[.slice ((ps.getD k default).a0) ((ps.getD k default).d.fCells.length) ((ps.getD k default).c0), .slice ((ps.getD k default).a1) ((ps.getD k default).d.fWaits.length) ((ps.getD k default).c1), .bool ((ps.getD k default).d.fGone)]) :: X) _) := ⟨(((((HS.out).pick 6 rfl).pick 6 rfl).pick 6 rfl).pick 6 rfl).pick 4 rfl⟩
      exact .inr ⟨⟨qa4, qc4, qb4, qe4, (ps.getD k default).d⟩, stepPut_skip (by rw [cc1, hbad] <;> rfl), rfl, by rw [hcnt]; exact ((HS.out.erase 6).erase 5)⟩
    · clear HF; have HF := HF1; clear HF1
      refine wc_false HF rfl ?_
      refine wp_skip ?_
      refine ex_then ?_
      refine wp_seq ?_
      have hcle := cntH_le (dsOf ps) t m k
      refine wp_region_lit ?_
      refine wl_y rfl HF rfl rfl (yl_load (v := .int .i64 ((cntH (dsOf ps) t m k : Nat) : Int)) rfl (HF.ev rfl) (((HS.out.box 2 rfl).cell 0).trans rfl) (by kernel_rfl)) ?_; clear HF; clear a; intro a HF
      refine wl_y rfl HF rfl rfl (yl_addI rfl (HF.ev rfl) (HF.ev rfl) (i64w (by omega))) ?_; clear HF; clear a; intro a HF
      refine wl_storeF rfl rfl rfl (HF.ev rfl) (HF.ev rfl) (by kernel_rfl) HS.out 2 rfl rfl rfl ?_; clear HS; intro w9 HS; replace HS := Bx.mk HS
      have HS : Bx (St w0 (boxA b2 3 44 (.agg #[.slice none 0 0, .slice none 0 0, .bool false]) :: boxA b1 3 44 (.agg #[.slice ((ps.getD k default).a0) ((ps.getD k default).d.fCells.length) ((ps.getD k default).c0), .slice ((ps.getD k default).a1) ((ps.getD k default).d.fWaits.length) ((ps.getD k default).c1), .bool ((ps.getD k default).d.fGone)]) :: boxA bn 1 3 (.agg #[.int .i64 (((cntH (dsOf ps) t m k : Nat) : Int) + 1)]) :: boxA bp 5 33 (.agg #[.int .i64 p.fAt, .int .i64 p.fBirth, .int .i64 p.fSize, .int .i64 p.fSum, .int .i64 p.fLevel]) :: boxA bc 1 41 (.agg #[.slice (some ⟨gw, 0, none⟩) 3 3]) :: rowA encS 1 9 (.slice (some ⟨gw, 0, none⟩) 3 3) ([col0 t, col1 t, col2 t]) :: X) _) := HS
      refine wpList_nil ?_
      refine ex_then ?_
      refine wp_seq ?_
      refine wr_heldS (s := boxA b1 3 44 (.agg #[.slice ((ps.getD k default).a0) ((ps.getD k default).d.fCells.length) ((ps.getD k default).c0), .slice ((ps.getD k default).a1) ((ps.getD k default).d.fWaits.length) ((ps.getD k default).c1), .bool ((ps.getD k default).d.fGone)]) :: boxA bn 1 3 (.agg #[.int .i64 (((cntH (dsOf ps) t m k : Nat) : Int) + 1)]) :: boxA bp 5 33 (.agg #[.int .i64 p.fAt, .int .i64 p.fBirth, .int .i64 p.fSize, .int .i64 p.fSum, .int .i64 p.fLevel]) :: boxA bc 1 41 (.agg #[.slice (some ⟨gw, 0, none⟩) 3 3]) :: rowA encS 1 9 (.slice (some ⟨gw, 0, none⟩) 3 3) ([col0 t, col1 t, col2 t]) :: X) (by kernel_rfl) (St.drew ((HS.out.erase 0))) ?_
      have HS2 := Bx.mk HS.out.drew; replace HS := Bx.mk (show St w0 (boxA b1 3 44 (.agg #[.slice ((ps.getD k default).a0) ((ps.getD k default).d.fCells.length) ((ps.getD k default).c0), .slice ((ps.getD k default).a1) ((ps.getD k default).d.fWaits.length) ((ps.getD k default).c1), .bool ((ps.getD k default).d.fGone)]) :: boxA bn 1 3 (.agg #[.int .i64 (((cntH (dsOf ps) t m k : Nat) : Int) + 1)]) :: boxA bp 5 33 (.agg #[.int .i64 p.fAt, .int .i64 p.fBirth, .int .i64 p.fSize, .int .i64 p.fSum, .int .i64 p.fLevel]) :: boxA bc 1 41 (.agg #[.slice (some ⟨gw, 0, none⟩) 3 3]) :: rowA encS 1 9 (.slice (some ⟨gw, 0, none⟩) 3 3) ([col0 t, col1 t, col2 t]) :: X) _ from (HS.out.drew.erase 0))
      generalize World.drew _ = w10 at HS HS2 ⊢
      refine wh_y 0 rfl (by kernel_rfl) (by kernel_rfl) (by kernel_rfl) (fun _ _ _ h => h) rfl HF rfl rfl (fun _ HS => (yl_loadR (cs := [.slice ((ps.getD k default).a0) ((ps.getD k default).d.fCells.length) ((ps.getD k default).c0), .slice ((ps.getD k default).a1) ((ps.getD k default).d.fWaits.length) ((ps.getD k default).c1), .bool ((ps.getD k default).d.fGone)]) rfl (HF.ev rfl) ((HS.box 0 rfl).sub 0 3) (by kernel_rfl))) HS.out ?_; clear HF; clear a; intro a HF
      refine wh_y 1 rfl (by kernel_rfl) (by kernel_rfl) (by kernel_rfl) (fun _ _ _ h => h) rfl HF rfl rfl (fun _ HS => (yl_fieldAddr (j := 0) rfl (HF.ev rfl) (by kernel_rfl))) HS.out ?_; clear HF; clear a; intro a HF
      refine wh_y 2 rfl (by kernel_rfl) (by kernel_rfl) (by kernel_rfl) (fun _ _ _ h => h) rfl HF rfl rfl (fun _ HS => (yl_load (v := .int .i64 p.fAt) rfl (HF.ev rfl) (((HS.box 2 rfl).cell 0).trans rfl) (by kernel_rfl))) HS.out ?_; clear HF; clear a; intro a HF
      refine wh_y 3 rfl (by kernel_rfl) (by kernel_rfl) (by kernel_rfl) (fun _ _ _ h => h) rfl HF rfl rfl (fun _ HS => (yl_load (v := .slice (some ⟨gw, 0, none⟩) 3 3) rfl (HF.ev rfl) (((HS.box 3 rfl).cell 0).trans rfl) (by kernel_rfl))) HS.out ?_; clear HF; clear a; intro a HF
      refine wh_y 4 rfl (by kernel_rfl) (by kernel_rfl) (by kernel_rfl) (fun _ _ _ h => h) rfl HF rfl rfl (fun _ HS => (yl_move rfl (HF.ev rfl))) HS.out ?_; clear HF; clear a; intro a HF
      refine wh_y 5 rfl (by kernel_rfl) (by kernel_rfl) (by kernel_rfl) (fun _ _ _ h => h) rfl HF rfl rfl (fun _ HS => (yl_indexAddr (e := 9) (i := k) (size := 1) rfl (HF.ev rfl) (HF.ev rfl) (by kernel_rfl) rfl (by omega))) HS.out ?_; clear HF; clear a; intro a HF
      refine wh_y 6 rfl (by kernel_rfl) (by kernel_rfl) (by kernel_rfl) (fun _ _ _ h => h) rfl HF rfl rfl (fun _ HS => (yl_load (v := .string (([col0 t, col1 t, col2 t]).getD k ByteArray.empty)) rfl (HF.ev rfl) (HS.elem1 encS_len 4 rfl (get_getD (xs := [col0 t, col1 t, col2 t]) (j := k) (d := ByteArray.empty) (by omega)) rfl) (by kernel_rfl))) HS.out ?_; clear HF; clear a; intro a HF
      refine wh_one 7 (by kernel_rfl) ?_
      refine wo_call rfl rfl HF rfl (enter_of Try.func50 (by kernel_rfl) rfl) (args := #[.agg #[.slice ((ps.getD k default).a0) ((ps.getD k default).d.fCells.length) ((ps.getD k default).c0), .slice ((ps.getD k default).a1) ((ps.getD k default).d.fWaits.length) ((ps.getD k default).c1), .bool ((ps.getD k default).d.fGone)], .int .i64 p.fAt, .string (([col0 t, col1 t, col2 t]).getD k ByteArray.empty)]) rfl (by have := diskWrite_any (ps.getD k default) (m : Int) ([col0 t, col1 t, col2 t].getD k ByteArray.empty) _ (hP.out.below HS2.out.bel) hf hokk (Nat.le_trans (col_le t k ht) (by decide)); rw [← hpa] at this; exact this) rfl rfl ?_
      rintro _ w11 (⟨hcan, q, rfl, hs⟩ | ⟨hcan, q, hqd, rfl, hs⟩)
      · skip
        rw [hpa] at hcan
        refine ⟨_, rfl, ?_⟩; replace HS := Bx.mk (HS.out.later hs.bel); replace HS2 := Bx.mk (HS2.out.add hs); clear hs HF; clear a; intro a HF
        replace HS2 : Bx (St w0 (HD.asr q :: boxA b2 3 44 (.agg #[.slice none 0 0, .slice none 0 0, .bool false]) :: boxA b1 3 44 (.agg #[.slice ((ps.getD k default).a0) ((ps.getD k default).d.fCells.length) ((ps.getD k default).c0), .slice ((ps.getD k default).a1) ((ps.getD k default).d.fWaits.length) ((ps.getD k default).c1), .bool ((ps.getD k default).d.fGone)]) :: boxA bn 1 3 (.agg #[.int .i64 (((cntH (dsOf ps) t m k : Nat) : Int) + 1)]) :: boxA bp 5 33 (.agg #[.int .i64 p.fAt, .int .i64 p.fBirth, .int .i64 p.fSize, .int .i64 p.fSum, .int .i64 p.fLevel]) :: boxA bc 1 41 (.agg #[.slice (some ⟨gw, 0, none⟩) 3 3]) :: rowA encS 1 9 (.slice (some ⟨gw, 0, none⟩) 3 3) ([col0 t, col1 t, col2 t]) :: X) _) := ⟨HS2.out⟩; refine ⟨HS.out, ?_⟩
        refine wh_y 8 rfl (by kernel_rfl) (by kernel_rfl) (by kernel_rfl) (fun _ _ _ h => h) rfl HF rfl rfl (fun _ HS => (yl_extract rfl (HF.ev rfl) rfl)) HS.out ?_; clear HF; clear a; intro a HF
        refine wh_y 9 rfl (by kernel_rfl) (by kernel_rfl) (by kernel_rfl) (fun _ _ _ h => h) rfl HF rfl rfl (fun _ HS => (yl_extract rfl (HF.ev rfl) rfl)) HS.out ?_; clear HF; clear a; intro a HF
        refine wh_one 10 (by kernel_rfl) ?_
        refine wo_storeBox rfl rfl rfl rfl (HF.ev rfl) (HF.ev rfl) HS2.out 1 rfl (cells_lit [.slice q.a0 q.d.fCells.length q.c0, .slice q.a1 q.d.fWaits.length q.c1, .bool q.d.fGone] rfl rfl) (by kernel_rfl) ?_
        clear HS HS2; intro w12 HS2; replace HS2 : Bx (St w0 (HD.asr q :: boxA b2 3 44 (.agg #[.slice q.a0 q.d.fCells.length q.c0, .slice q.a1 q.d.fWaits.length q.c1, .bool q.d.fGone]) :: boxA b1 3 44 (.agg #[.slice ((ps.getD k default).a0) ((ps.getD k default).d.fCells.length) ((ps.getD k default).c0), .slice ((ps.getD k default).a1) ((ps.getD k default).d.fWaits.length) ((ps.getD k default).c1), .bool ((ps.getD k default).d.fGone)]) :: boxA bn 1 3 (.agg #[.int .i64 (((cntH (dsOf ps) t m k : Nat) : Int) + 1)]) :: boxA bp 5 33 (.agg #[.int .i64 p.fAt, .int .i64 p.fBirth, .int .i64 p.fSize, .int .i64 p.fSum, .int .i64 p.fLevel]) :: boxA bc 1 41 (.agg #[.slice (some ⟨gw, 0, none⟩) 3 3]) :: rowA encS 1 9 (.slice (some ⟨gw, 0, none⟩) 3 3) ([col0 t, col1 t, col2 t]) :: X) _) := ⟨HS2⟩
        have HS : Bx (St w0 (boxA b1 3 44 (.agg #[.slice ((ps.getD k default).a0) ((ps.getD k default).d.fCells.length) ((ps.getD k default).c0), .slice ((ps.getD k default).a1) ((ps.getD k default).d.fWaits.length) ((ps.getD k default).c1), .bool ((ps.getD k default).d.fGone)]) :: boxA bn 1 3 (.agg #[.int .i64 (((cntH (dsOf ps) t m k : Nat) : Int) + 1)]) :: boxA bp 5 33 (.agg #[.int .i64 p.fAt, .int .i64 p.fBirth, .int .i64 p.fSize, .int .i64 p.fSum, .int .i64 p.fLevel]) :: boxA bc 1 41 (.agg #[.slice (some ⟨gw, 0, none⟩) 3 3]) :: rowA encS 1 9 (.slice (some ⟨gw, 0, none⟩) 3 3) ([col0 t, col1 t, col2 t]) :: X) _) := ⟨((HS2.out.erase 1).erase 0)⟩; refine ⟨HS.out, ?_⟩
        refine wh_y 11 rfl (by kernel_rfl) (by kernel_rfl) (by kernel_rfl) (fun _ _ _ h => h) rfl HF rfl rfl (fun _ HS => (yl_assign rfl (HF.ev rfl))) HS.out ?_; clear HF; clear a; intro a HF
        refine wh_done (by kernel_rfl) ?_
        replace HS := HS2; clear HS2
        refine ex_then ?_
        refine wp_ret ?_
        refine bp_ret2 HF Try.results72 (HF.resBox rfl (HS.out.box 1 rfl) (by kernel_rfl)) (HF.res rfl) ?_
        have hbad : badH (dsOf ps) t m k = true := by unfold badH; rw [dsOf_get, cc1]; rw [Bool.not_false, Bool.true_and]; exact (congrArg (!·) cc2)
        have hcnt : cntH (dsOf ps) t m (k + 1) = cntH (dsOf ps) t m k + 1 := by rw [cntH_succ, hbad]; rfl
        exact .inl ⟨stepPut_fail cc1 hbad hcan, q, rfl, (((((((HS.out.erase 6).erase 5).erase 4).erase 3).erase 2).erase 1).erase 0)⟩
      · skip
        rw [hpa] at hcan hqd
        refine ⟨_, rfl, ?_⟩; replace HS := Bx.mk (HS.out.later hs.bel); replace HS2 := Bx.mk (HS2.out.add hs); clear hs HF; clear a; intro a HF
        replace HS2 : Bx (St w0 (HD.asr q :: boxA b2 3 44 (.agg #[.slice none 0 0, .slice none 0 0, .bool false]) :: boxA b1 3 44 (.agg #[.slice ((ps.getD k default).a0) ((ps.getD k default).d.fCells.length) ((ps.getD k default).c0), .slice ((ps.getD k default).a1) ((ps.getD k default).d.fWaits.length) ((ps.getD k default).c1), .bool ((ps.getD k default).d.fGone)]) :: boxA bn 1 3 (.agg #[.int .i64 (((cntH (dsOf ps) t m k : Nat) : Int) + 1)]) :: boxA bp 5 33 (.agg #[.int .i64 p.fAt, .int .i64 p.fBirth, .int .i64 p.fSize, .int .i64 p.fSum, .int .i64 p.fLevel]) :: boxA bc 1 41 (.agg #[.slice (some ⟨gw, 0, none⟩) 3 3]) :: rowA encS 1 9 (.slice (some ⟨gw, 0, none⟩) 3 3) ([col0 t, col1 t, col2 t]) :: X) _) := ⟨HS2.out⟩; refine ⟨HS.out, ?_⟩
        refine wh_y 8 rfl (by kernel_rfl) (by kernel_rfl) (by kernel_rfl) (fun _ _ _ h => h) rfl HF rfl rfl (fun _ HS => (yl_extract rfl (HF.ev rfl) rfl)) HS.out ?_; clear HF; clear a; intro a HF
        refine wh_y 9 rfl (by kernel_rfl) (by kernel_rfl) (by kernel_rfl) (fun _ _ _ h => h) rfl HF rfl rfl (fun _ HS => (yl_extract rfl (HF.ev rfl) rfl)) HS.out ?_; clear HF; clear a; intro a HF
        refine wh_one 10 (by kernel_rfl) ?_
        refine wo_storeBox rfl rfl rfl rfl (HF.ev rfl) (HF.ev rfl) HS2.out 1 rfl (cells_lit [.slice q.a0 q.d.fCells.length q.c0, .slice q.a1 q.d.fWaits.length q.c1, .bool q.d.fGone] rfl rfl) (by kernel_rfl) ?_
        clear HS HS2; intro w13 HS2; replace HS2 : Bx (St w0 (HD.asr q :: boxA b2 3 44 (.agg #[.slice q.a0 q.d.fCells.length q.c0, .slice q.a1 q.d.fWaits.length q.c1, .bool q.d.fGone]) :: boxA b1 3 44 (.agg #[.slice ((ps.getD k default).a0) ((ps.getD k default).d.fCells.length) ((ps.getD k default).c0), .slice ((ps.getD k default).a1) ((ps.getD k default).d.fWaits.length) ((ps.getD k default).c1), .bool ((ps.getD k default).d.fGone)]) :: boxA bn 1 3 (.agg #[.int .i64 (((cntH (dsOf ps) t m k : Nat) : Int) + 1)]) :: boxA bp 5 33 (.agg #[.int .i64 p.fAt, .int .i64 p.fBirth, .int .i64 p.fSize, .int .i64 p.fSum, .int .i64 p.fLevel]) :: boxA bc 1 41 (.agg #[.slice (some ⟨gw, 0, none⟩) 3 3]) :: rowA encS 1 9 (.slice (some ⟨gw, 0, none⟩) 3 3) ([col0 t, col1 t, col2 t]) :: X) _) := ⟨HS2⟩
        have HS : Bx (St w0 (boxA b1 3 44 (.agg #[.slice ((ps.getD k default).a0) ((ps.getD k default).d.fCells.length) ((ps.getD k default).c0), .slice ((ps.getD k default).a1) ((ps.getD k default).d.fWaits.length) ((ps.getD k default).c1), .bool ((ps.getD k default).d.fGone)]) :: boxA bn 1 3 (.agg #[.int .i64 (((cntH (dsOf ps) t m k : Nat) : Int) + 1)]) :: boxA bp 5 33 (.agg #[.int .i64 p.fAt, .int .i64 p.fBirth, .int .i64 p.fSize, .int .i64 p.fSum, .int .i64 p.fLevel]) :: boxA bc 1 41 (.agg #[.slice (some ⟨gw, 0, none⟩) 3 3]) :: rowA encS 1 9 (.slice (some ⟨gw, 0, none⟩) 3 3) ([col0 t, col1 t, col2 t]) :: X) _) := ⟨((HS2.out.erase 1).erase 0)⟩; refine ⟨HS.out, ?_⟩
        refine wh_y 11 rfl (by kernel_rfl) (by kernel_rfl) (by kernel_rfl) (fun _ _ _ h => h) rfl HF rfl rfl (fun _ HS => (yl_assign rfl (HF.ev rfl))) HS.out ?_; clear HF; clear a; intro a HF
        refine wh_done (by kernel_rfl) ?_
        replace HS := HS2; clear HS2
        refine ex_then ?_
        refine wp_ret ?_
        refine bp_ret2 HF Try.results72 (HF.resBox rfl (HS.out.box 1 rfl) (by kernel_rfl)) (HF.res rfl) ?_
        have hbad : badH (dsOf ps) t m k = true := by unfold badH; rw [dsOf_get, cc1]; rw [Bool.not_false, Bool.true_and]; exact (congrArg (!·) cc2)
        have hcnt : cntH (dsOf ps) t m (k + 1) = cntH (dsOf ps) t m k + 1 := by rw [cntH_succ, hbad]; rfl
        replace HS : Bx (St w0 (HD.asr q :: boxA bn 1 3 (.agg #[.int .i64 (((cntH (dsOf ps) t m k : Nat) : Int) + 1)]) :: boxA bp 5 33 (.agg #[.int .i64 p.fAt, .int .i64 p.fBirth, .int .i64 p.fSize, .int .i64 p.fSum, .int .i64 p.fLevel]) :: boxA bc 1 41 (.agg #[.slice (some ⟨gw, 0, none⟩) 3 3]) :: rowA encS 1 9 (.slice (some ⟨gw, 0, none⟩) 3 3) ([col0 t, col1 t, col2 t]) :: boxA b2 3 44 (.agg #[.slice q.a0 q.d.fCells.length q.c0, .slice q.a1 q.d.fWaits.length q.c1, .bool q.d.fGone]) :: boxA b1 3 44 (.agg #[.slice ((ps.getD k default).a0) ((ps.getD k default).d.fCells.length) ((ps.getD k default).c0), .slice ((ps.getD k default).a1) ((ps.getD k default).d.fWaits.length) ((ps.getD k default).c1), .bool ((ps.getD k default).d.fGone)]) :: X) _) := ⟨(((((HS.out).pick 6 rfl).pick 6 rfl).pick 6 rfl).pick 6 rfl).pick 4 rfl⟩
        exact .inr ⟨q, by rw [hqd]; exact stepPut_put cc1 hbad hcan, rfl, by rw [hcnt]; exact ((HS.out.erase 6).erase 5)⟩

theorem inB_yes {n lo hi : Int} (h1 : lo ≤ n) (h2 : n ≤ hi) : inB n lo hi = true := by
  unfold inB; simp [h1, h2]
theorem readR_yes {ds : List DiskD} {p : PtrD} (h : (readR ds p).2 = true) : okR ds = true ∧ p.ok = true ∧ p.hole = false ∧ readR ds p = readD ds p := by
  unfold readR at h ⊢
  cases h1 : okR ds <;> cases h2 : p.ok <;> cases h3 : p.hole <;> simp_all
theorem healF_no {ds : List DiskD} {p : PtrD} (h : (readR ds p).2 = false) : healF ds p = none := by
  unfold healF
  unfold readR at h
  cases h1 : okR ds <;> cases h2 : p.ok <;> cases h3 : p.hole <;> simp_all
theorem healF_of {ds : List DiskD} {p : PtrD} (h : (readR ds p).2 = true) : healF ds p = (healD ds (readR ds p).1 p.fAt.toNat).map (fun x => (x, cntH ds (readR ds p).1 p.fAt.toNat 3)) := by
  obtain ⟨h1, h2, h3, h4⟩ := readR_yes h
  rw [h4] at h ⊢
  unfold healF
  rw [h1, h2, h3, h]; rfl

set_option maxHeartbeats 1000000 in
set_option maxRecDepth 100000 in
theorem implRaidHeal_any (a0 : Option Addr) (c0 : Nat) (ps : List HD) (w0 : World) (hl : ps.length ≤ 1048576) (hf : ∀ k, (ps.getD k default).d.fits) (hR : Rd HD.cells 3 w0 a0 ps.length ps) (hP : ∀ k, k < ps.length → (ps.getD k default).reads w0) (p : PtrD) : Calls Try.prog 21 #[.agg #[.slice a0 ps.length c0], .agg #[.int .i64 p.fAt, .int .i64 p.fBirth, .int .i64 p.fSize, .int .i64 p.fSum, .int .i64 p.fLevel]] w0 fun e w' => (healF (dsOf ps) p = none ∧ e = .returned (.tuple #[.agg #[.slice none 0 0], .int .i64 0, .bool false]) ∧ St w0 [] w') ∨ (∃ ao cp qs nn, healF (dsOf ps) p = some (dsOf qs, nn) ∧ e = .returned (.tuple #[.agg #[.slice ao qs.length cp], .int .i64 (nn : Nat), .bool true]) ∧ St w0 [rowA HD.cells 3 44 (.slice ao qs.length cp) qs, sepA (qs.map HD.asr)] w') := by
  have HR := Bx.mk hR; have HP := Bx.mk hP; clear hR hP
  have HS := Bx.mk (St.start w0)
  refine wc_enter Try.func21 rfl Try.ntmps21 [(0, .agg #[.slice a0 ps.length c0]), (1, .agg #[.int .i64 p.fAt, .int .i64 p.fBirth, .int .i64 p.fSize, .int .i64 p.fSum, .int .i64 p.fLevel])] ⟨rfl, rfl, trivial⟩ rfl ?_; intro a HF
  refine wp_seq ?_
  refine wp_region_lit ?_
  refine wl_box rfl HF rfl (HF.ev rfl) (Z := [.slice a0 ps.length c0]) rfl rfl rfl rfl HS.out ?_; clear HF HS; clear a; intro a w1 b1 HF HS; replace HS := Bx.mk HS
  refine wl_box rfl HF rfl (HF.ev rfl) (Z := [.int .i64 p.fAt, .int .i64 p.fBirth, .int .i64 p.fSize, .int .i64 p.fSum, .int .i64 p.fLevel]) rfl rfl rfl rfl HS.out ?_; clear HF HS; clear a; intro a w2 b2 HF HS; replace HS := Bx.mk HS
  refine wl_alloc rfl HF rfl rfl rfl (Z := [.slice none 0 0]) (by kernel_rfl) rfl HS.out ?_; clear HF HS; clear a; intro a w3 b3 HF HS; replace HS := Bx.mk HS
  refine wl_y rfl HF rfl rfl (yl_assign rfl (HF.ev rfl)) ?_; clear HF; clear a; intro a HF
  refine wl_y rfl HF rfl rfl (yl_assign rfl (HF.ev rfl)) ?_; clear HF; clear a; intro a HF
  refine wpList_nil ?_
  refine ex_then ?_
  refine wp_seq ?_
  refine wp_region_lit ?_
  refine wl_y rfl HF rfl rfl (yl_loadR (cs := [.slice a0 ps.length c0]) rfl (HF.ev rfl) ((HS.out.box 2 rfl).sub 0 1) (by kernel_rfl)) ?_; clear HF; clear a; intro a HF
  refine wl_y rfl HF rfl rfl (yl_loadR (cs := [.int .i64 p.fAt, .int .i64 p.fBirth, .int .i64 p.fSize, .int .i64 p.fSum, .int .i64 p.fLevel]) rfl (HF.ev rfl) ((HS.out.box 1 rfl).sub 0 5) (by kernel_rfl)) ?_; clear HF; clear a; intro a HF
  refine wl_callB rfl HF rfl (enter_of Try.func16 (by kernel_rfl) rfl) (args := #[.agg #[.slice a0 ps.length c0], .agg #[.int .i64 p.fAt, .int .i64 p.fBirth, .int .i64 p.fSize, .int .i64 p.fSum, .int .i64 p.fLevel]]) rfl (v := .tuple #[.string ((readR (dsOf ps) p).1), .bool ((readR (dsOf ps) p).2)]) (implRaidRead_any a0 c0 ps _ hl hf (HR.out.below HS.out.bel) (fun k hk => (HP.out k hk).below HS.out.bel) p) rfl rfl HS.out ?_; clear HF HS; clear a; intro w4 a HS HF; replace HS := Bx.mk HS
  refine wl_y rfl HF rfl rfl (yl_move rfl (HF.ev rfl)) ?_; clear HF; clear a; intro a HF
  refine wl_y rfl HF rfl rfl (yl_extract rfl (HF.ev rfl) rfl) ?_; clear HF; clear a; intro a HF
  refine wl_y rfl HF rfl rfl (yl_extract rfl (HF.ev rfl) rfl) ?_; clear HF; clear a; intro a HF
  refine wl_y rfl HF rfl rfl (yl_assign rfl (HF.ev rfl)) ?_; clear HF; clear a; intro a HF
  refine wl_y rfl HF rfl rfl (yl_assign rfl (HF.ev rfl)) ?_; clear HF; clear a; intro a HF
  refine wpList_nil ?_
  refine ex_then ?_
  refine wp_seq ?_
  refine wp_seq ?_
  refine wp_region_lit ?_
  refine wl_y rfl HF rfl rfl (yl_move rfl (HF.ev rfl)) ?_; clear HF; clear a; intro a HF
  refine wl_y rfl HF rfl rfl (yl_not rfl (HF.ev rfl)) ?_; clear HF; clear a; intro a HF
  refine wpList_nil ?_
  refine ex_then ?_
  refine HF.cases 21 rfl (fun cc1 HF1 => ?_) (fun cc1 HF1 => ?_)
  · clear HF; have HF := HF1; clear HF1
    have hrd : (readR (dsOf ps) p).2 = false := by simpa using cc1
    refine wc_true HF rfl ?_
    refine wp_seq ?_
    refine wp_region_lit ?_
    refine wl_y rfl HF rfl rfl (yl_build HF rfl (ps := []) rfl (cs := #[.slice none 0 0]) (by kernel_rfl)) ?_; clear HF; clear a; intro a HF
    refine wl_storeBox rfl HF rfl rfl (HF.ev rfl) (HF.ev rfl) HS.out 0 rfl (cells_lit [.slice none 0 0] rfl rfl) (by kernel_rfl) ?_; clear HS; intro w5 HS; replace HS := Bx.mk HS
    have HS : Bx (St w0 ([boxA b3 1 25 (.agg #[.slice none 0 0]), boxA b2 5 33 (.agg #[.int .i64 p.fAt, .int .i64 p.fBirth, .int .i64 p.fSize, .int .i64 p.fSum, .int .i64 p.fLevel]), boxA b1 1 25 (.agg #[.slice a0 ps.length c0])]) _) := HS
    refine wl_y rfl HF rfl rfl (yl_assign rfl (HF.ev rfl)) ?_; clear HF; clear a; intro a HF
    refine wl_y rfl HF rfl rfl (yl_assign rfl (HF.ev rfl)) ?_; clear HF; clear a; intro a HF
    refine wpList_nil ?_
    refine ex_then ?_
    refine wp_ret ?_
    refine ex_then_ret ?_
    refine bp_ret3 HF Try.results21 (HF.resBox rfl (HS.out.box 0 rfl) (by kernel_rfl)) (HF.res rfl) (HF.res rfl) ?_
    exact .inl ⟨healF_no hrd, rfl, (((HS.out.erase 2).erase 1).erase 0)⟩
  · clear HF; have HF := HF1; clear HF1
    have hrd : (readR (dsOf ps) p).2 = true := by simpa using cc1
    obtain ⟨k1, k2, k3, k4⟩ := readR_yes hrd; have h3 := okR_three k1; have hbd := PtrD.ok_bounds k2 k3
    obtain ⟨m, hpa⟩ : ∃ m : Nat, p.fAt = (m : Int) := ⟨p.fAt.toNat, by omega⟩; have hm1 : p.fAt.toNat = m := by omega
    have hfs : p.fSize = (((readR (dsOf ps) p).1).size : Int) := (PtrD.fits_size (by rw [k4] at hrd ⊢; exact readF_ok hrd)).2.2.1
    refine wc_false HF rfl ?_
    refine wp_skip ?_
    refine ex_then ?_
    refine wp_seq ?_
    refine wp_region_lit ?_
    refine wl_y rfl HF rfl rfl (yl_move rfl (HF.ev rfl)) ?_; clear HF; clear a; intro a HF
    refine wl_call rfl HF rfl (enter_of Try.func44 (by kernel_rfl) rfl) (args := #[.string ((readR (dsOf ps) p).1)]) rfl (stripeCut_any (readR (dsOf ps) p).1 _ (by omega)) rfl rfl ?_
    rintro _ w6 (⟨hib, _, _⟩ | ⟨_, gw, rfl, hs⟩)
    · exact absurd (show inB (((readR (dsOf ps) p).1).size : Int) 1 128 = true from inB_yes (by omega) (by omega)) (by rw [hib]; simp)
    refine ⟨_, rfl, ?_⟩; replace HS := Bx.mk (HS.out.add hs); clear hs HF; clear a; intro a HF
    replace HS : Bx (St w0 ([rowA encS 1 9 (.slice (some ⟨gw, 0, none⟩) 3 3) ([col0 (readR (dsOf ps) p).1, col1 (readR (dsOf ps) p).1, col2 (readR (dsOf ps) p).1]), boxA b3 1 25 (.agg #[.slice none 0 0]), boxA b2 5 33 (.agg #[.int .i64 p.fAt, .int .i64 p.fBirth, .int .i64 p.fSize, .int .i64 p.fSum, .int .i64 p.fLevel]), boxA b1 1 25 (.agg #[.slice a0 ps.length c0])]) _) := ⟨HS.out⟩
    refine wl_y rfl HF rfl rfl (yl_move rfl (HF.ev rfl)) ?_; clear HF; clear a; intro a HF
    refine wl_y rfl HF rfl rfl (yl_extract rfl (HF.ev rfl) rfl) ?_; clear HF; clear a; intro a HF
    refine wl_y rfl HF rfl rfl (yl_extract rfl (HF.ev rfl) rfl) ?_; clear HF; clear a; intro a HF
    refine wl_alloc rfl HF rfl rfl rfl (Z := [.slice none 0 0]) (by kernel_rfl) rfl HS.out ?_; clear HF HS; clear a; intro a w7 b4 HF HS; replace HS := Bx.mk HS
    refine wl_storeF rfl rfl rfl (HF.ev rfl) (HF.ev rfl) (by kernel_rfl) HS.out 0 rfl rfl rfl ?_; clear HS; intro w8 HS; replace HS := Bx.mk HS
    have HS : Bx (St w0 ([boxA b4 1 41 (.agg #[.slice (some ⟨gw, 0, none⟩) 3 3]), rowA encS 1 9 (.slice (some ⟨gw, 0, none⟩) 3 3) ([col0 (readR (dsOf ps) p).1, col1 (readR (dsOf ps) p).1, col2 (readR (dsOf ps) p).1]), boxA b3 1 25 (.agg #[.slice none 0 0]), boxA b2 5 33 (.agg #[.int .i64 p.fAt, .int .i64 p.fBirth, .int .i64 p.fSize, .int .i64 p.fSum, .int .i64 p.fLevel]), boxA b1 1 25 (.agg #[.slice a0 ps.length c0])]) _) := HS
    refine wl_y rfl HF rfl rfl (yl_assign rfl (HF.ev rfl)) ?_; clear HF; clear a; intro a HF
    refine wpList_nil ?_
    refine ex_then ?_
    refine wp_seq ?_
    refine wp_region_lit ?_
    refine wl_alloc rfl HF rfl rfl rfl (Z := [.int .i64 0]) (by kernel_rfl) rfl HS.out ?_; clear HF HS; clear a; intro a w9 b5 HF HS; replace HS := Bx.mk HS
    refine wl_storeF rfl rfl rfl (HF.ev rfl) (HF.ev rfl) (by kernel_rfl) HS.out 0 rfl rfl rfl ?_; clear HS; intro w10 HS; replace HS := Bx.mk HS
    have HS : Bx (St w0 ([boxA b5 1 3 (.agg #[.int .i64 0]), boxA b4 1 41 (.agg #[.slice (some ⟨gw, 0, none⟩) 3 3]), rowA encS 1 9 (.slice (some ⟨gw, 0, none⟩) 3 3) ([col0 (readR (dsOf ps) p).1, col1 (readR (dsOf ps) p).1, col2 (readR (dsOf ps) p).1]), boxA b3 1 25 (.agg #[.slice none 0 0]), boxA b2 5 33 (.agg #[.int .i64 p.fAt, .int .i64 p.fBirth, .int .i64 p.fSize, .int .i64 p.fSum, .int .i64 p.fLevel]), boxA b1 1 25 (.agg #[.slice a0 ps.length c0])]) _) := HS
    refine wpList_nil ?_
    refine ex_then ?_
    refine wp_seq ?_
    refine wp_region_lit ?_
    refine wl_y rfl HF rfl rfl (yl_loadR (cs := [.slice a0 ps.length c0]) rfl (HF.ev rfl) ((HS.out.box 5 rfl).sub 0 1) (by kernel_rfl)) ?_; clear HF; clear a; intro a HF
    refine wl_y rfl HF rfl rfl (yl_makeFunc HF rfl (cs := #[.pointer (some ⟨b2, 0, none⟩), .pointer (some ⟨b4, 0, none⟩), .pointer (some ⟨b5, 0, none⟩)]) rfl) ?_; clear HF; clear a; intro a HF
    replace HS : Bx (St w0 ([boxA b5 1 3 (.agg #[.int .i64 0]), boxA b2 5 33 (.agg #[.int .i64 p.fAt, .int .i64 p.fBirth, .int .i64 p.fSize, .int .i64 p.fSum, .int .i64 p.fLevel]), boxA b4 1 41 (.agg #[.slice (some ⟨gw, 0, none⟩) 3 3]), rowA encS 1 9 (.slice (some ⟨gw, 0, none⟩) 3 3) ([col0 (readR (dsOf ps) p).1, col1 (readR (dsOf ps) p).1, col2 (readR (dsOf ps) p).1]), boxA b3 1 25 (.agg #[.slice none 0 0]), boxA b1 1 25 (.agg #[.slice a0 ps.length c0])]) _) := ⟨((((HS.out).pick 2 rfl).pick 2 rfl).pick 4 rfl).pick 3 rfl⟩
    refine wl_call rfl HF rfl (enter_of Try.func47 (by kernel_rfl) rfl) (args := #[.agg #[.slice a0 ps.length c0], .func (.func 72) #[] #[.pointer (some ⟨b2, 0, none⟩), .pointer (some ⟨b4, 0, none⟩), .pointer (some ⟨b5, 0, none⟩)]]) rfl (each_any w0 _ a0 c0 ps 72 #[.pointer (some ⟨b2, 0, none⟩), .pointer (some ⟨b4, 0, none⟩), .pointer (some ⟨b5, 0, none⟩)] (stepPut (m : Int) (colOf (readR (dsOf ps) p).1) (badH (dsOf ps) (readR (dsOf ps) p).1 m)) (fun k => [boxA b5 1 3 (.agg #[.int .i64 ((cntH (dsOf ps) (readR (dsOf ps) p).1 m k : Nat) : Int)]), boxA b2 5 33 (.agg #[.int .i64 p.fAt, .int .i64 p.fBirth, .int .i64 p.fSize, .int .i64 p.fSum, .int .i64 p.fLevel]), boxA b4 1 41 (.agg #[.slice (some ⟨gw, 0, none⟩) 3 3]), rowA encS 1 9 (.slice (some ⟨gw, 0, none⟩) 3 3) ([col0 (readR (dsOf ps) p).1, col1 (readR (dsOf ps) p).1, col2 (readR (dsOf ps) p).1])]) [boxA b3 1 25 (.agg #[.slice none 0 0]), boxA b1 1 25 (.agg #[.slice a0 ps.length c0])] hl (enter_of Try.func72 (by kernel_rfl) rfl) HR.out (fun k hk w X _ hS => heal1_any w0 w b2 b4 b5 gw p m hpa (by omega) ps k (by omega) (h3.2 k hk) (hf k) (HP.out k hk) _ (by omega) X hS) HS.out) rfl rfl ?_
    rintro _ w11 (⟨hev, rfl, hs⟩ | ⟨ao, cp, qs, hev, rfl, hs⟩)
    · skip
      refine ⟨_, rfl, ?_⟩; replace HS := Bx.mk hs; clear hs HF; clear a; intro a HF
      replace HS : Bx (St w0 ([boxA b3 1 25 (.agg #[.slice none 0 0]), boxA b1 1 25 (.agg #[.slice a0 ps.length c0])]) _) := ⟨HS.out⟩
      refine wl_y rfl HF rfl rfl (yl_move rfl (HF.ev rfl)) ?_; clear HF; clear a; intro a HF
      refine wl_y rfl HF rfl rfl (yl_extract rfl (HF.ev rfl) rfl) ?_; clear HF; clear a; intro a HF
      refine wl_y rfl HF rfl rfl (yl_extract rfl (HF.ev rfl) rfl) ?_; clear HF; clear a; intro a HF
      refine wl_alloc rfl HF rfl rfl rfl (Z := [.slice none 0 0]) (by kernel_rfl) rfl HS.out ?_; clear HF HS; clear a; intro a w12 b6 HF HS; replace HS := Bx.mk HS
      refine wl_storeBox rfl HF rfl rfl (HF.ev rfl) (HF.ev rfl) HS.out 0 rfl (cells_lit [.slice none 0 0] rfl rfl) (by kernel_rfl) ?_; clear HS; intro w13 HS; replace HS := Bx.mk HS
      have HS : Bx (St w0 ([boxA b6 1 25 (.agg #[.slice none 0 0]), boxA b3 1 25 (.agg #[.slice none 0 0]), boxA b1 1 25 (.agg #[.slice a0 ps.length c0])]) _) := HS
      refine wl_y rfl HF rfl rfl (yl_assign rfl (HF.ev rfl)) ?_; clear HF; clear a; intro a HF
      refine wpList_nil ?_
      refine ex_then ?_
      refine wp_seq ?_
      refine wp_seq ?_
      refine wp_region_lit ?_
      refine wl_y rfl HF rfl rfl (yl_move rfl (HF.ev rfl)) ?_; clear HF; clear a; intro a HF
      refine wl_y rfl HF rfl rfl (yl_not rfl (HF.ev rfl)) ?_; clear HF; clear a; intro a HF
      refine wpList_nil ?_
      refine ex_then ?_
      refine wc_true HF rfl ?_
      refine wp_seq ?_
      refine wp_region_lit ?_
      refine wl_y rfl HF rfl rfl (yl_build HF rfl (ps := []) rfl (cs := #[.slice none 0 0]) (by kernel_rfl)) ?_; clear HF; clear a; intro a HF
      refine wl_storeBox rfl HF rfl rfl (HF.ev rfl) (HF.ev rfl) HS.out 1 rfl (cells_lit [.slice none 0 0] rfl rfl) (by kernel_rfl) ?_; clear HS; intro w14 HS; replace HS := Bx.mk HS
      have HS : Bx (St w0 ([boxA b6 1 25 (.agg #[.slice none 0 0]), boxA b3 1 25 (.agg #[.slice none 0 0]), boxA b1 1 25 (.agg #[.slice a0 ps.length c0])]) _) := HS
      refine wl_y rfl HF rfl rfl (yl_assign rfl (HF.ev rfl)) ?_; clear HF; clear a; intro a HF
      refine wl_y rfl HF rfl rfl (yl_assign rfl (HF.ev rfl)) ?_; clear HF; clear a; intro a HF
      refine wpList_nil ?_
      refine ex_then ?_
      refine wp_ret ?_
      refine ex_then_ret ?_
      refine bp_ret3 HF Try.results21 (HF.resBox rfl (HS.out.box 1 rfl) (by kernel_rfl)) (HF.res rfl) (HF.res rfl) ?_
      rw [h3.1] at hev
      exact .inl ⟨by rw [healF_of hrd, hm1]; unfold healD; rw [hev]; rfl, rfl, (((HS.out.erase 2).erase 1).erase 0)⟩
    · skip
      refine ⟨_, rfl, ?_⟩; replace HS := Bx.mk hs; clear hs HF; clear a; intro a HF
      replace HS : Bx (St w0 ([rowA HD.cells 3 44 (.slice ao qs.length cp) qs, sepA (qs.map HD.asr), boxA b5 1 3 (.agg #[.int .i64 ((cntH (dsOf ps) (readR (dsOf ps) p).1 m ps.length : Nat) : Int)]), boxA b2 5 33 (.agg #[.int .i64 p.fAt, .int .i64 p.fBirth, .int .i64 p.fSize, .int .i64 p.fSum, .int .i64 p.fLevel]), boxA b4 1 41 (.agg #[.slice (some ⟨gw, 0, none⟩) 3 3]), rowA encS 1 9 (.slice (some ⟨gw, 0, none⟩) 3 3) ([col0 (readR (dsOf ps) p).1, col1 (readR (dsOf ps) p).1, col2 (readR (dsOf ps) p).1]), boxA b3 1 25 (.agg #[.slice none 0 0]), boxA b1 1 25 (.agg #[.slice a0 ps.length c0])]) _) := ⟨HS.out⟩
      refine wl_y rfl HF rfl rfl (yl_move rfl (HF.ev rfl)) ?_; clear HF; clear a; intro a HF
      refine wl_y rfl HF rfl rfl (yl_extract rfl (HF.ev rfl) rfl) ?_; clear HF; clear a; intro a HF
      refine wl_y rfl HF rfl rfl (yl_extract rfl (HF.ev rfl) rfl) ?_; clear HF; clear a; intro a HF
      refine wl_alloc rfl HF rfl rfl rfl (Z := [.slice none 0 0]) (by kernel_rfl) rfl HS.out ?_; clear HF HS; clear a; intro a w15 b7 HF HS; replace HS := Bx.mk HS
      refine wl_storeBox rfl HF rfl rfl (HF.ev rfl) (HF.ev rfl) HS.out 0 rfl (cells_lit [.slice ao qs.length cp] rfl rfl) (by kernel_rfl) ?_; clear HS; intro w16 HS; replace HS := Bx.mk HS
      have HS : Bx (St w0 ([boxA b7 1 25 (.agg #[.slice ao qs.length cp]), rowA HD.cells 3 44 (.slice ao qs.length cp) qs, sepA (qs.map HD.asr), boxA b5 1 3 (.agg #[.int .i64 ((cntH (dsOf ps) (readR (dsOf ps) p).1 m ps.length : Nat) : Int)]), boxA b2 5 33 (.agg #[.int .i64 p.fAt, .int .i64 p.fBirth, .int .i64 p.fSize, .int .i64 p.fSum, .int .i64 p.fLevel]), boxA b4 1 41 (.agg #[.slice (some ⟨gw, 0, none⟩) 3 3]), rowA encS 1 9 (.slice (some ⟨gw, 0, none⟩) 3 3) ([col0 (readR (dsOf ps) p).1, col1 (readR (dsOf ps) p).1, col2 (readR (dsOf ps) p).1]), boxA b3 1 25 (.agg #[.slice none 0 0]), boxA b1 1 25 (.agg #[.slice a0 ps.length c0])]) _) := HS
      refine wl_y rfl HF rfl rfl (yl_assign rfl (HF.ev rfl)) ?_; clear HF; clear a; intro a HF
      refine wpList_nil ?_
      refine ex_then ?_
      refine wp_seq ?_
      refine wp_seq ?_
      refine wp_region_lit ?_
      refine wl_y rfl HF rfl rfl (yl_move rfl (HF.ev rfl)) ?_; clear HF; clear a; intro a HF
      refine wl_y rfl HF rfl rfl (yl_not rfl (HF.ev rfl)) ?_; clear HF; clear a; intro a HF
      refine wpList_nil ?_
      refine ex_then ?_
      refine wc_false HF rfl ?_
      refine wp_skip ?_
      refine ex_then ?_
      refine wp_seq ?_
      refine wr_heldS (s := [boxA b7 1 25 (.agg #[.slice ao qs.length cp]), rowA HD.cells 3 44 (.slice ao qs.length cp) qs, sepA (qs.map HD.asr), boxA b5 1 3 (.agg #[.int .i64 ((cntH (dsOf ps) (readR (dsOf ps) p).1 m ps.length : Nat) : Int)]), boxA b2 5 33 (.agg #[.int .i64 p.fAt, .int .i64 p.fBirth, .int .i64 p.fSize, .int .i64 p.fSum, .int .i64 p.fLevel]), boxA b4 1 41 (.agg #[.slice (some ⟨gw, 0, none⟩) 3 3]), rowA encS 1 9 (.slice (some ⟨gw, 0, none⟩) 3 3) ([col0 (readR (dsOf ps) p).1, col1 (readR (dsOf ps) p).1, col2 (readR (dsOf ps) p).1]), boxA b1 1 25 (.agg #[.slice a0 ps.length c0])]) (by kernel_rfl) (St.drew ((HS.out.erase 7))) ?_
      have HS2 := Bx.mk HS.out.drew; replace HS := Bx.mk (show St w0 ([boxA b7 1 25 (.agg #[.slice ao qs.length cp]), rowA HD.cells 3 44 (.slice ao qs.length cp) qs, sepA (qs.map HD.asr), boxA b5 1 3 (.agg #[.int .i64 ((cntH (dsOf ps) (readR (dsOf ps) p).1 m ps.length : Nat) : Int)]), boxA b2 5 33 (.agg #[.int .i64 p.fAt, .int .i64 p.fBirth, .int .i64 p.fSize, .int .i64 p.fSum, .int .i64 p.fLevel]), boxA b4 1 41 (.agg #[.slice (some ⟨gw, 0, none⟩) 3 3]), rowA encS 1 9 (.slice (some ⟨gw, 0, none⟩) 3 3) ([col0 (readR (dsOf ps) p).1, col1 (readR (dsOf ps) p).1, col2 (readR (dsOf ps) p).1]), boxA b1 1 25 (.agg #[.slice a0 ps.length c0])]) _ from (HS.out.drew.erase 7))
      generalize World.drew _ = w17 at HS HS2 ⊢
      refine wh_y 0 rfl (by kernel_rfl) (by kernel_rfl) (by kernel_rfl) (fun _ _ _ h => h) rfl HF rfl rfl (fun _ HS => (yl_loadR (cs := [.slice ao qs.length cp]) rfl (HF.ev rfl) ((HS.box 0 rfl).sub 0 1) (by kernel_rfl))) HS.out ?_; clear HF; clear a; intro a HF
      refine wh_y 1 rfl (by kernel_rfl) (by kernel_rfl) (by kernel_rfl) (fun _ _ _ h => h) rfl HF rfl rfl (fun _ HS => (yl_load (v := .int .i64 ((cntH (dsOf ps) (readR (dsOf ps) p).1 m ps.length : Nat) : Int)) rfl (HF.ev rfl) (((HS.box 3 rfl).cell 0).trans rfl) (by kernel_rfl))) HS.out ?_; clear HF; clear a; intro a HF
      refine wh_one 2 (by kernel_rfl) ?_
      refine wo_storeBox rfl rfl rfl rfl (HF.ev rfl) (HF.ev rfl) HS2.out 7 rfl (cells_lit [.slice ao qs.length cp] rfl rfl) (by kernel_rfl) ?_
      clear HS HS2; intro w18 HS2; replace HS2 : Bx (St w0 ([boxA b7 1 25 (.agg #[.slice ao qs.length cp]), rowA HD.cells 3 44 (.slice ao qs.length cp) qs, sepA (qs.map HD.asr), boxA b5 1 3 (.agg #[.int .i64 ((cntH (dsOf ps) (readR (dsOf ps) p).1 m ps.length : Nat) : Int)]), boxA b2 5 33 (.agg #[.int .i64 p.fAt, .int .i64 p.fBirth, .int .i64 p.fSize, .int .i64 p.fSum, .int .i64 p.fLevel]), boxA b4 1 41 (.agg #[.slice (some ⟨gw, 0, none⟩) 3 3]), rowA encS 1 9 (.slice (some ⟨gw, 0, none⟩) 3 3) ([col0 (readR (dsOf ps) p).1, col1 (readR (dsOf ps) p).1, col2 (readR (dsOf ps) p).1]), boxA b3 1 25 (.agg #[.slice ao qs.length cp]), boxA b1 1 25 (.agg #[.slice a0 ps.length c0])]) _) := ⟨HS2⟩
      have HS : Bx (St w0 ([boxA b7 1 25 (.agg #[.slice ao qs.length cp]), rowA HD.cells 3 44 (.slice ao qs.length cp) qs, sepA (qs.map HD.asr), boxA b5 1 3 (.agg #[.int .i64 ((cntH (dsOf ps) (readR (dsOf ps) p).1 m ps.length : Nat) : Int)]), boxA b2 5 33 (.agg #[.int .i64 p.fAt, .int .i64 p.fBirth, .int .i64 p.fSize, .int .i64 p.fSum, .int .i64 p.fLevel]), boxA b4 1 41 (.agg #[.slice (some ⟨gw, 0, none⟩) 3 3]), rowA encS 1 9 (.slice (some ⟨gw, 0, none⟩) 3 3) ([col0 (readR (dsOf ps) p).1, col1 (readR (dsOf ps) p).1, col2 (readR (dsOf ps) p).1]), boxA b1 1 25 (.agg #[.slice a0 ps.length c0])]) _) := ⟨(HS2.out.erase 7)⟩; refine ⟨HS.out, ?_⟩
      refine wh_y 3 rfl (by kernel_rfl) (by kernel_rfl) (by kernel_rfl) (fun _ _ _ h => h) rfl HF rfl rfl (fun _ HS => (yl_assign rfl (HF.ev rfl))) HS.out ?_; clear HF; clear a; intro a HF
      refine wh_y 4 rfl (by kernel_rfl) (by kernel_rfl) (by kernel_rfl) (fun _ _ _ h => h) rfl HF rfl rfl (fun _ HS => (yl_assign rfl (HF.ev rfl))) HS.out ?_; clear HF; clear a; intro a HF
      refine wh_done (by kernel_rfl) ?_
      replace HS := HS2; clear HS2
      refine ex_then ?_
      refine wp_ret ?_
      refine bp_ret3 HF Try.results21 (HF.resBox rfl (HS.out.box 7 rfl) (by kernel_rfl)) (HF.res rfl) (HF.res rfl) ?_
      replace HS : Bx (St w0 ([rowA HD.cells 3 44 (.slice ao qs.length cp) qs, sepA (qs.map HD.asr), boxA b7 1 25 (.agg #[.slice ao qs.length cp]), boxA b5 1 3 (.agg #[.int .i64 ((cntH (dsOf ps) (readR (dsOf ps) p).1 m ps.length : Nat) : Int)]), boxA b2 5 33 (.agg #[.int .i64 p.fAt, .int .i64 p.fBirth, .int .i64 p.fSize, .int .i64 p.fSum, .int .i64 p.fLevel]), boxA b4 1 41 (.agg #[.slice (some ⟨gw, 0, none⟩) 3 3]), rowA encS 1 9 (.slice (some ⟨gw, 0, none⟩) 3 3) ([col0 (readR (dsOf ps) p).1, col1 (readR (dsOf ps) p).1, col2 (readR (dsOf ps) p).1]), boxA b3 1 25 (.agg #[.slice ao qs.length cp]), boxA b1 1 25 (.agg #[.slice a0 ps.length c0])]) _) := ⟨((HS.out).pick 2 rfl).pick 2 rfl⟩
      rw [h3.1] at hev
      exact .inr ⟨_, _, qs, cntH (dsOf ps) (readR (dsOf ps) p).1 m 3, by rw [healF_of hrd, hm1]; unfold healD; rw [hev]; rfl, by rw [h3.1] <;> rfl, (((((((HS.out.erase 8).erase 7).erase 6).erase 5).erase 4).erase 3).erase 2)⟩

end Go.Proofs.Ytfijfjjleelphaa
