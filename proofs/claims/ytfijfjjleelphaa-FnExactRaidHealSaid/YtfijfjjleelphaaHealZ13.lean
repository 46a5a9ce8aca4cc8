/- A part of the proof in YtfijfjjleelphaaHealZ16. -/
import Derived.ArgAppend
import Derived.BigQuiet
import Derived.BigRegion
import Derived.Deep.AppendLies
import Derived.Deep.MidRow
import Derived.Deep.Quiet
import Derived.Deep.QuietTactic
import Derived.Deep.RegionHeld3
import Derived.Deep.RegionWith
import Derived.IntWalk
import Derived.Laws.BytesArg
import Derived.Lib.Hide
import Derived.Lib.LazyBuf
import Derived.LoopIn
import Derived.LoopN
import Derived.LoopNIn
import Derived.Orders
import Derived.OrdersHeld
import Derived.OwnWalkIn
import Derived.RangeFuncLeaves
import Derived.RangeFuncNested
import Derived.Shelf.Abstract
import Derived.Still
import Derived.StillTail
import Derived.StillTailTactics
import Derived.TacticsInMore
import Derived.Test.YtfijfjjleelphaaRows
import Derived.WalkKit
import Derived.WalkLawsBesides
import Derived.WalkSpells
import Derived.Test.YtfijfjjleelphaaHealZ12
/- Marking sets of disks. -/
namespace Go.Proofs.Ytfijfjjleelphaa
open Go.RowKit

def DiskD.markG (d : DiskD) (k : Int) : DiskD := { fCells := marks markT 1 k d.fCells.length, fWaits := marks mkWait 2 (k + (d.fCells.length : Int) * 1) d.fWaits.length, fGone := ((k + (d.fCells.length : Int) * 1 + (d.fWaits.length : Int) * 2) % 3 == 0) }
def DiskD.pastG (d : DiskD) (k : Int) : Int := k + (d.fCells.length : Int) * 1 + (d.fWaits.length : Int) * 2 + 1
def pastTo (ds : List DiskD) (k : Int) : Nat → Int
  | 0 => k
  | j + 1 => (ds.getD j default).pastG (pastTo ds k j)
def markTo (ds : List DiskD) (k : Int) (j : Nat) : List DiskD := (List.range ds.length).map fun i => if i < j then (ds.getD i default).markG (pastTo ds k i) else ds.getD i default
theorem markTo_zero (ds : List DiskD) (k : Int) : markTo ds k 0 = ds := by
  unfold markTo
  apply List.ext_getElem
  · simp
  · intro i h1 h2
    simp [List.getD, h2]
theorem markTo_len (ds : List DiskD) (k : Int) (j : Nat) : (markTo ds k j).length = ds.length := by simp [markTo]
theorem markTo_get (ds : List DiskD) (k : Int) (j i : Nat) (hi : i < ds.length) : (markTo ds k j).getD i default = if i < j then (ds.getD i default).markG (pastTo ds k i) else ds.getD i default := by
  rw [getD_get (by rw [markTo_len]; exact hi)]
  simp [markTo]
theorem markTo_succ (ds : List DiskD) (k : Int) (j : Nat) (hj : j < ds.length) : (markTo ds k j).set j ((ds.getD j default).markG (pastTo ds k j)) = markTo ds k (j + 1) := by
  apply List.ext_getElem
  · simp [markTo]
  · intro i h1 h2
    have hi : i < ds.length := by rw [markTo_len] at h2; exact h2
    rw [List.getElem_set]
    have e1 := markTo_get ds k j i hi
    have e2 := markTo_get ds k (j + 1) i hi
    rw [getD_get (by rw [markTo_len]; exact hi)] at e1 e2
    rw [e1, e2]
    by_cases h : j = i
    · subst h; rw [if_pos rfl, if_pos (by omega)]
    · rw [if_neg h]
      by_cases h2 : i < j
      · rw [if_pos h2, if_pos (by omega)]
      · rw [if_neg h2, if_neg (by omega)]
theorem pastTo_le (ds : List DiskD) (k : Int) : ∀ j, j ≤ ds.length → k ≤ pastTo ds k j ∧ pastTo ds k j ≤ k + 2 * (tot lenT (ds.take j) : Nat) + j := by
  intro j
  induction j with
  | zero => intro _; simp [pastTo, tot]
  | succ j ih =>
    intro hj
    have := ih (by omega)
    have ht := tot_get lenT (ds := ds) j (by omega)
    unfold pastTo DiskD.pastG
    have : lenT (ds.getD j default) = (ds.getD j default).fCells.length + (ds.getD j default).fWaits.length := rfl
    rw [ht]
    omega
def RaidD.marked (x : RaidD) (k : Int) : RaidD := ⟨markTo x.fDisks k x.fDisks.length⟩
def RaidD.past (x : RaidD) (k : Int) : Int := pastTo x.fDisks k x.fDisks.length
theorem RaidD.past_pos1 (x : RaidD) : 0 < x.past 1 := by
  have := (pastTo_le x.fDisks 1 x.fDisks.length (Nat.le_refl _)).1
  unfold RaidD.past; omega
/-- A header and its rows, marked. -/
def HD.wth (p : HD) (d : DiskD) : HD := ⟨p.a0, p.c0, p.a1, p.c1, d⟩
theorem hd_marked {W w : World} {F : List Asr} (p : HD) (k : Int) (h : St W (rowA encS 1 9 (.slice p.a0 p.d.fCells.length p.c0) (marks markT 1 k p.d.fCells.length) :: rowA WaitD.cells 2 144 (.slice p.a1 p.d.fWaits.length p.c1) (marks mkWait 2 (k + (p.d.fCells.length : Int) * 1) p.d.fWaits.length) :: F) w) : St W ((p.wth (p.d.markG k)).asr :: F) w := by
  refine (St.join (r := [_, _]) (s := F)).1 ?_
  show St W (rowA encS 1 9 (.slice p.a0 (marks markT 1 k p.d.fCells.length).length p.c0) (marks markT 1 k p.d.fCells.length) :: rowA WaitD.cells 2 144 (.slice p.a1 (marks mkWait 2 (k + (p.d.fCells.length : Int) * 1) p.d.fWaits.length).length p.c1) (marks mkWait 2 (k + (p.d.fCells.length : Int) * 1) p.d.fWaits.length) :: F) w
  rw [marks_len, marks_len]
  exact h
theorem hd_cells_marked (p : HD) (k : Int) (b : Bool) (hb : b = ((k + (p.d.fCells.length : Int) * 1 + (p.d.fWaits.length : Int) * 2) % 3 == 0)) : (p.wth (p.d.markG k)).cells = p.cells.set 2 (.bool b) := by
  subst hb
  show [Value.slice p.a0 (marks markT 1 k p.d.fCells.length).length p.c0, Value.slice p.a1 (marks mkWait 2 (k + (p.d.fCells.length : Int) * 1) p.d.fWaits.length).length p.c1, Value.bool _] = _
  rw [marks_len, marks_len]; rfl
theorem vsOf_set (a : Option Addr) (c : Nat) (ps : List HD) (j : Nat) (q : HD) (hj : j < ps.length) (h : q.vs = (ps.getD j default).vs) : vsOf a c (ps.set j q) = vsOf a c ps := by
  unfold vsOf
  rw [List.length_set]
  congr 1
  rw [List.set_eq_take_append_cons_drop, if_pos hj]
  conv => rhs; rw [← List.take_append_drop j ps, List.drop_eq_getElem_cons hj]
  rw [List.flatMap_append, List.flatMap_append, List.flatMap_cons, List.flatMap_cons, h, getD_get hj]
theorem vs_marked (p : HD) (k : Int) : (p.wth (p.d.markG k)).vs = p.vs := by
  show [Value.slice p.a0 (marks markT 1 k p.d.fCells.length).length p.c0, Value.slice p.a1 (marks mkWait 2 (k + (p.d.fCells.length : Int) * 1) p.d.fWaits.length).length p.c1] = _
  rw [marks_len, marks_len]; rfl

set_option maxHeartbeats 1000000 in
set_option maxRecDepth 100000 in
theorem markDiskS_any (w0 w : World) (a0 : Option Addr) (c0 : Nat) (ps : List HD) (k : Int) (F : List Asr) (hk0 : 0 < k) (hk1 : k ≤ 100000000000) (hn : ps.length ≤ 1048576) (ht : tot lenT (dsOf ps) ≤ 10000000) (hfd : ∀ k, (ps.getD k default).d.Fit) (hS : St w0 (rowA HD.cells 3 44 (.slice a0 ps.length c0) ps :: sepA (ps.map HD.asr) :: F) w) : Calls Try.prog 107 #[.slice a0 ps.length c0, .int .i64 k] w fun e w' => e = .returned (.int .i64 (pastTo (dsOf ps) k ps.length)) ∧ ∃ qs : List HD, qs.length = ps.length ∧ dsOf qs = markTo (dsOf ps) k ps.length ∧ vsOf a0 c0 qs = vsOf a0 c0 ps ∧ St w0 (rowA HD.cells 3 44 (.slice a0 ps.length c0) qs :: sepA (qs.map HD.asr) :: F) w' := by
  have HS := Bx.mk hS; clear hS
  refine wc_enter Try.func107 rfl Try.ntmps107 [(0, .slice a0 ps.length c0), (1, .int .i64 k)] ⟨rfl, rfl, trivial⟩ rfl ?_; intro a HF
  refine wp_seq ?_
  refine wp_region_lit ?_
  refine wl_y rfl HF rfl rfl (yl_assign rfl (HF.ev rfl)) ?_; clear HF; clear a; intro a HF
  refine wpList_nil ?_
  refine ex_then ?_
  refine wp_seq ?_
  refine wp_seq ?_
  refine wp_region_lit ?_
  refine wl_y rfl HF rfl rfl (yl_assign rfl (HF.ev rfl)) ?_; clear HF; clear a; intro a HF
  refine wpList_nil ?_
  refine ex_then ?_
  refine wp_block ?_
  refine wc_loop (ι := Nat) (fun j a w => ∃ (qs : List HD), (j ≤ ps.length ∧ qs.length = ps.length ∧ dsOf qs = markTo (dsOf ps) k j ∧ vsOf a0 c0 qs = vsOf a0 c0 ps) ∧ Fr 36 a [(0, .slice a0 ps.length c0), (1, .int .i64 (pastTo (dsOf ps) k j)), (5, .int .i64 (j : Int))] ∧ St w0 (rowA HD.cells 3 44 (.slice a0 ps.length c0) qs :: sepA (qs.map HD.asr) :: F) w) (fun j => ps.length - j) 0 ⟨ps, ⟨Nat.zero_le _, rfl, (markTo_zero _ _).symm, rfl⟩, HF.less _ ⟨rfl, rfl, rfl, trivial⟩, HS.out⟩ ?_
  clear HF HS; clear a
  rintro j a w1 ⟨qs, ⟨hj, hql, hq, hv⟩, HF, HS⟩
  replace HS := Bx.mk HS
  refine wp_seq ?_
  refine wp_seq ?_
  refine wp_region_lit ?_
  refine wl_y rfl HF rfl rfl (yl_move rfl (HF.ev rfl)) ?_; clear HF; clear a; intro a HF
  refine wl_y rfl HF rfl rfl (yl_move rfl (HF.ev rfl)) ?_; clear HF; clear a; intro a HF
  refine wl_y rfl HF rfl rfl (yl_lenL (e := 44) (size := 3) rfl (HF.ev rfl) (by kernel_rfl)) ?_; clear HF; clear a; intro a HF
  refine wl_y rfl HF rfl rfl (yl_lssI rfl (HF.ev rfl) (HF.ev rfl)) ?_; clear HF; clear a; intro a HF
  refine wpList_nil ?_
  refine ex_then ?_
  refine HF.cases 9 rfl (fun cc1 HF1 => ?_) (fun cc1 HF1 => ?_)
  · clear HF; have HF := HF1; clear HF1
    have dcc1 := of_decide_eq_true cc1
    refine wc_true HF rfl ?_
    refine wp_skip ?_
    refine ex_then ?_
    refine wp_seq ?_
    refine wp_block ?_
    refine wp_seq ?_
    obtain ⟨g1, rfl, _, _, _, _⟩ := HS.out.rowOpen 0 rfl (by omega)
    have hqj : (qs.getD j default).d = (ps.getD j default).d := by rw [← dsOf_get, hq, markTo_get _ _ _ _ (by rw [dsOf_len]; omega), if_neg (by omega), dsOf_get]
    have hpb := pastTo_le (dsOf ps) k j (by rw [dsOf_len]; omega)
    have htt := tot_take_le lenT (dsOf ps) j
    have hfj := hfd j; rw [← hqj] at hfj; have hcl := hfj.f0; have hwl := hfj.f1
    refine wp_region_lit ?_
    refine wl_y rfl HF rfl rfl (yl_move rfl (HF.ev rfl)) ?_; clear HF; clear a; intro a HF
    refine wl_y rfl HF rfl rfl (yl_move rfl (HF.ev rfl)) ?_; clear HF; clear a; intro a HF
    refine wl_y rfl HF rfl rfl (yl_indexAddr (e := 44) (i := j) (size := 3) rfl (HF.ev rfl) (HF.ev rfl) (by kernel_rfl) rfl (by omega)) ?_; clear HF; clear a; intro a HF
    refine wl_y rfl HF rfl rfl (yl_fieldAddr (j := 0) rfl (HF.ev rfl) (by kernel_rfl)) ?_; clear HF; clear a; intro a HF
    refine wl_y rfl HF rfl rfl (yl_load (v := .slice ((qs.getD j default).a0) ((qs.getD j default).d.fCells.length) ((qs.getD j default).c0)) rfl (HF.ev rfl) (HS.out.elem HD.cells_len 0 rfl (get_getD (xs := qs) (j := j) (d := default) (by omega)) 0 _ rfl) (by kernel_rfl)) ?_; clear HF; clear a; intro a HF
    refine wl_y rfl HF rfl rfl (yl_move rfl (HF.ev rfl)) ?_; clear HF; clear a; intro a HF
    replace HS := Bx.mk (St.join.2 (((HS.out).pick 1 rfl).hdOut j (by omega)))
    replace HS : Bx (St w0 (rowA encS 1 9 (.slice ((qs.getD j default).a0) ((qs.getD j default).d.fCells.length) ((qs.getD j default).c0)) ((qs.getD j default).d.fCells) :: rowA WaitD.cells 2 144 (.slice ((qs.getD j default).a1) ((qs.getD j default).d.fWaits.length) ((qs.getD j default).c1)) ((qs.getD j default).d.fWaits) :: sepA ((qs.eraseIdx j).map HD.asr) :: rowA HD.cells 3 44 (.slice (some ⟨g1, 0, none⟩) ps.length c0) qs :: F) _) := ⟨HS.out⟩
    refine wl_call rfl HF rfl (enter_of Try.func94 (by kernel_rfl) rfl) (args := #[.slice ((qs.getD j default).a0) ((qs.getD j default).d.fCells.length) ((qs.getD j default).c0), .int .i64 (pastTo (dsOf ps) k j)]) rfl (markStringS_r _ _ _ _ _ (pastTo (dsOf ps) k j) _ (by omega) (by omega) (by omega) (HS.out.row 0 rfl)) rfl rfl ?_
    rintro _ w2 ⟨rfl, on, hgr⟩
    refine ⟨_, rfl, ?_⟩; replace HS := Bx.mk (HS.out.mutRow 0 rfl (on.mono (Nat.le_refl _) hgr.size) hgr (fun g h => .inl h)); clear on hgr HF; clear a; intro a HF
    replace HS : Bx (St w0 (rowA encS 1 9 (.slice ((qs.getD j default).a0) ((qs.getD j default).d.fCells.length) ((qs.getD j default).c0)) (marks markT 1 (pastTo (dsOf ps) k j) (qs.getD j default).d.fCells.length) :: rowA WaitD.cells 2 144 (.slice ((qs.getD j default).a1) ((qs.getD j default).d.fWaits.length) ((qs.getD j default).c1)) ((qs.getD j default).d.fWaits) :: sepA ((qs.eraseIdx j).map HD.asr) :: rowA HD.cells 3 44 (.slice (some ⟨g1, 0, none⟩) ps.length c0) qs :: F) _) := ⟨HS.out⟩
    refine wl_y rfl HF rfl rfl (yl_assign rfl (HF.ev rfl)) ?_; clear HF; clear a; intro a HF
    refine wpList_nil ?_
    refine ex_then ?_
    refine wp_seq ?_
    refine wp_region_lit ?_
    refine wl_y rfl HF rfl rfl (yl_move rfl (HF.ev rfl)) ?_; clear HF; clear a; intro a HF
    refine wl_y rfl HF rfl rfl (yl_move rfl (HF.ev rfl)) ?_; clear HF; clear a; intro a HF
    refine wl_y rfl HF rfl rfl (yl_indexAddr (e := 44) (i := j) (size := 3) rfl (HF.ev rfl) (HF.ev rfl) (by kernel_rfl) rfl (by omega)) ?_; clear HF; clear a; intro a HF
    refine wl_y rfl HF rfl rfl (yl_fieldAddr (j := 1) rfl (HF.ev rfl) (by kernel_rfl)) ?_; clear HF; clear a; intro a HF
    refine wl_y rfl HF rfl rfl (yl_load (v := .slice ((qs.getD j default).a1) ((qs.getD j default).d.fWaits.length) ((qs.getD j default).c1)) rfl (HF.ev rfl) (HS.out.elem HD.cells_len 3 rfl (get_getD (xs := qs) (j := j) (d := default) (by omega)) 1 _ rfl) (by kernel_rfl)) ?_; clear HF; clear a; intro a HF
    refine wl_y rfl HF rfl rfl (yl_move rfl (HF.ev rfl)) ?_; clear HF; clear a; intro a HF
    refine wl_call rfl HF rfl (enter_of Try.func156 (by kernel_rfl) rfl) (args := #[.slice ((qs.getD j default).a1) ((qs.getD j default).d.fWaits.length) ((qs.getD j default).c1), .int .i64 (pastTo (dsOf ps) k j + ((qs.getD j default).d.fCells.length : Int) * 1)]) rfl (markWaitS_r _ _ _ _ _ (pastTo (dsOf ps) k j + ((qs.getD j default).d.fCells.length : Int) * 1) _ (by omega) (by omega) (by omega) (HS.out.row 1 rfl)) rfl rfl ?_
    rintro _ w3 ⟨rfl, on, hgr⟩
    refine ⟨_, rfl, ?_⟩; replace HS := Bx.mk (HS.out.mutRow 1 rfl (on.mono (Nat.le_refl _) hgr.size) hgr (fun g h => .inl h)); clear on hgr HF; clear a; intro a HF
    replace HS : Bx (St w0 (rowA encS 1 9 (.slice ((qs.getD j default).a0) ((qs.getD j default).d.fCells.length) ((qs.getD j default).c0)) (marks markT 1 (pastTo (dsOf ps) k j) (qs.getD j default).d.fCells.length) :: rowA WaitD.cells 2 144 (.slice ((qs.getD j default).a1) ((qs.getD j default).d.fWaits.length) ((qs.getD j default).c1)) (marks mkWait 2 (pastTo (dsOf ps) k j + ((qs.getD j default).d.fCells.length : Int) * 1) (qs.getD j default).d.fWaits.length) :: sepA ((qs.eraseIdx j).map HD.asr) :: rowA HD.cells 3 44 (.slice (some ⟨g1, 0, none⟩) ps.length c0) qs :: F) _) := ⟨HS.out⟩
    refine wl_y rfl HF rfl rfl (yl_assign rfl (HF.ev rfl)) ?_; clear HF; clear a; intro a HF
    refine wpList_nil ?_
    refine ex_then ?_
    refine wp_seq ?_
    refine wp_region_lit ?_
    refine wl_y rfl HF rfl rfl (yl_move rfl (HF.ev rfl)) ?_; clear HF; clear a; intro a HF
    refine wl_y rfl HF rfl rfl (yl_move rfl (HF.ev rfl)) ?_; clear HF; clear a; intro a HF
    refine wl_y rfl HF rfl rfl (yl_move rfl (HF.ev rfl)) ?_; clear HF; clear a; intro a HF
    refine wl_y rfl HF rfl rfl (yl_remI rfl (HF.ev rfl) (HF.ev rfl) (by omega) (rem_pos (by omega) (by omega))) ?_; clear HF; clear a; intro a HF
    refine wl_y rfl HF rfl rfl (yl_eqlI rfl (HF.ev rfl) (HF.ev rfl)) ?_; clear HF; clear a; intro a HF
    refine wl_y rfl HF rfl rfl (yl_indexAddr (e := 44) (i := j) (size := 3) rfl (HF.ev rfl) (HF.ev rfl) (by kernel_rfl) rfl (by omega)) ?_; clear HF; clear a; intro a HF
    refine wl_y rfl HF rfl rfl (yl_fieldAddr (j := 2) rfl (HF.ev rfl) (by kernel_rfl)) ?_; clear HF; clear a; intro a HF
    refine wl_storeEF HD.cells_len rfl rfl rfl (HF.ev rfl) (HF.ev rfl) (by kernel_rfl) HS.out 3 rfl (by omega) (by omega) (HD.wth (qs.getD j default) ((qs.getD j default).d.markG (pastTo (dsOf ps) k j))) (by rw [← getD_get]; exact hd_cells_marked (qs.getD j default) (pastTo (dsOf ps) k j) _ rfl) rfl ?_; clear HS; intro w4 HS; replace HS := Bx.mk HS
    refine wpList_nil ?_
    refine ex_then ?_
    refine wp_region_lit ?_
    refine wl_y rfl HF rfl rfl (yl_move rfl (HF.ev rfl)) ?_; clear HF; clear a; intro a HF
    refine wl_y rfl HF rfl rfl (yl_addI rfl (HF.ev rfl) (HF.ev rfl) (i64w (by omega))) ?_; clear HF; clear a; intro a HF
    refine wl_y rfl HF rfl rfl (yl_assign rfl (HF.ev rfl)) ?_; clear HF; clear a; intro a HF
    refine wpList_nil ?_
    refine ex_block ?_
    refine ex_then ?_
    refine wp_region_lit ?_
    refine wl_y rfl HF rfl rfl (yl_move rfl (HF.ev rfl)) ?_; clear HF; clear a; intro a HF
    refine wl_y rfl HF rfl rfl (yl_addI rfl (HF.ev rfl) (HF.ev rfl) (i64w (by omega))) ?_; clear HF; clear a; intro a HF
    refine wl_y rfl HF rfl rfl (yl_assign rfl (HF.ev rfl)) ?_; clear HF; clear a; intro a HF
    refine wpList_nil ?_
    refine ex_then ?_
    replace HS := Bx.mk (St.hdIn (hd_marked (qs.getD j default) (pastTo (dsOf ps) k j) ((((HS.out).pick 2 rfl).pick 2 rfl).pick 2 rfl)) (by omega))
    replace HS := Bx.mk ((((HS.out).pick 0 rfl).pick 1 rfl))
    have hnext : dsOf (qs.set j (HD.wth (qs.getD j default) ((qs.getD j default).d.markG (pastTo (dsOf ps) k j)))) = markTo (dsOf ps) k (j + 1) := by rw [← markTo_succ _ _ _ (by rw [dsOf_len]; omega), dsOf_get, ← hq]; unfold dsOf; rw [List.map_set, ← hqj]; rfl
    have hvs : vsOf (some ⟨g1, 0, none⟩) c0 (qs.set j (HD.wth (qs.getD j default) ((qs.getD j default).d.markG (pastTo (dsOf ps) k j)))) = vsOf (some ⟨g1, 0, none⟩) c0 ps := by rw [vsOf_set _ _ _ _ _ (by omega) (vs_marked _ _)]; exact hv
    have hpast : pastTo (dsOf ps) k (j + 1) = pastTo (dsOf ps) k j + ((qs.getD j default).d.fCells.length : Int) * 1 + ((qs.getD j default).d.fWaits.length : Int) * 2 + 1 := by show ((dsOf ps).getD j default).pastG _ = _; rw [dsOf_get, ← hqj]; rfl
    exact ⟨j + 1, ⟨qs.set j (HD.wth (qs.getD j default) ((qs.getD j default).d.markG (pastTo (dsOf ps) k j))), ⟨by omega, by rw [List.length_set]; exact hql, hnext, hvs⟩, HF.less _ ⟨rfl, (by show _ = some (Value.int .i64 (pastTo (dsOf ps) k (j + 1))); rw [hpast]; rfl), rfl, trivial⟩, HS.out⟩, (by omega)⟩
  · clear HF; have HF := HF1; clear HF1
    have dcc1 := of_decide_eq_false cc1
    refine wc_false HF rfl ?_
    refine wp_exit ?_
    refine ex_then_exit ?_
    refine ex_then_exit ?_
    refine ex_block_hit ?_
    refine ex_then ?_
    refine wp_seq ?_
    refine wp_region_lit ?_
    refine wl_y rfl HF rfl rfl (yl_move rfl (HF.ev rfl)) ?_; clear HF; clear a; intro a HF
    refine wl_y rfl HF rfl rfl (yl_assign rfl (HF.ev rfl)) ?_; clear HF; clear a; intro a HF
    refine wpList_nil ?_
    refine ex_then ?_
    refine wp_ret ?_
    refine bp_ret1 HF Try.results107 (HF.res rfl) ?_
    obtain rfl : j = ps.length := by omega
    exact ⟨rfl, qs, hql, hq, hv, HS.out⟩

set_option maxHeartbeats 1000000 in
set_option maxRecDepth 100000 in
theorem markRaid_x (w0 w : World) (a0 : Option Addr) (c0 : Nat) (ps : List HD) (k : Int) (F : List Asr) (hk0 : 0 < k) (hk1 : k ≤ 100000000000) (hn : ps.length ≤ 1048576) (ht : tot lenT (dsOf ps) ≤ 10000000) (hfd : ∀ k, (ps.getD k default).d.Fit) (hS : St w0 (rowA HD.cells 3 44 (.slice a0 ps.length c0) ps :: sepA (ps.map HD.asr) :: F) w) : Calls Try.prog 38 #[.agg #[.slice a0 ps.length c0], .int .i64 k] w fun e w' => e = .returned (.int .i64 (pastTo (dsOf ps) k ps.length)) ∧ ∃ qs : List HD, qs.length = ps.length ∧ dsOf qs = markTo (dsOf ps) k ps.length ∧ vsOf a0 c0 qs = vsOf a0 c0 ps ∧ St w0 (rowA HD.cells 3 44 (.slice a0 ps.length c0) qs :: sepA (qs.map HD.asr) :: F) w' := by
  have HS := Bx.mk hS; clear hS
  refine wc_enter Try.func38 rfl Try.ntmps38 [(0, .agg #[.slice a0 ps.length c0]), (1, .int .i64 k)] ⟨rfl, rfl, trivial⟩ rfl ?_; intro a HF
  refine wp_seq ?_
  refine wp_region_lit ?_
  refine wl_box rfl HF rfl (HF.ev rfl) (Z := [.slice a0 ps.length c0]) rfl rfl rfl rfl HS.out ?_; clear HF HS; clear a; intro a w1 b1 HF HS; replace HS := Bx.mk HS
  refine wl_y rfl HF rfl rfl (yl_assign rfl (HF.ev rfl)) ?_; clear HF; clear a; intro a HF
  refine wpList_nil ?_
  refine ex_then ?_
  refine wp_seq ?_
  refine wp_region_lit ?_
  refine wl_y rfl HF rfl rfl (yl_fieldAddr (j := 0) rfl (HF.ev rfl) (by kernel_rfl)) ?_; clear HF; clear a; intro a HF
  refine wl_y rfl HF rfl rfl (yl_load (v := .slice a0 ps.length c0) rfl (HF.ev rfl) (((HS.out.box 0 rfl).cell 0).trans rfl) (by kernel_rfl)) ?_; clear HF; clear a; intro a HF
  refine wl_y rfl HF rfl rfl (yl_move rfl (HF.ev rfl)) ?_; clear HF; clear a; intro a HF
  replace HS : Bx (St w0 (rowA HD.cells 3 44 (.slice a0 ps.length c0) ps :: sepA (ps.map HD.asr) :: boxA b1 1 25 (.agg #[.slice a0 ps.length c0]) :: F) _) := ⟨((HS.out).pick 2 rfl).pick 2 rfl⟩
  refine wl_call rfl HF rfl (enter_of Try.func107 (by kernel_rfl) rfl) (args := #[.slice a0 ps.length c0, .int .i64 k]) rfl (markDiskS_any w0 _ a0 c0 ps k _ hk0 hk1 hn ht hfd HS.out) rfl rfl ?_
  rintro _ w2 ⟨rfl, qs, hql, hq, hv, hs⟩
  refine ⟨_, rfl, ?_⟩; replace HS := Bx.mk hs; clear hs HF; clear a; intro a HF
  replace HS : Bx (St w0 (rowA HD.cells 3 44 (.slice a0 ps.length c0) qs :: sepA (qs.map HD.asr) :: boxA b1 1 25 (.agg #[.slice a0 ps.length c0]) :: F) _) := ⟨HS.out⟩
  refine wl_y rfl HF rfl rfl (yl_assign rfl (HF.ev rfl)) ?_; clear HF; clear a; intro a HF
  refine wpList_nil ?_
  refine ex_then ?_
  refine wp_seq ?_
  refine wp_region_lit ?_
  refine wl_y rfl HF rfl rfl (yl_move rfl (HF.ev rfl)) ?_; clear HF; clear a; intro a HF
  refine wl_y rfl HF rfl rfl (yl_assign rfl (HF.ev rfl)) ?_; clear HF; clear a; intro a HF
  refine wpList_nil ?_
  refine ex_then ?_
  refine wp_ret ?_
  refine bp_ret1 HF Try.results38 (HF.res rfl) ?_
  replace HS : Bx (St w0 (rowA HD.cells 3 44 (.slice a0 ps.length c0) qs :: sepA (qs.map HD.asr) :: boxA b1 1 25 (.agg #[.slice a0 ps.length c0]) :: F) _) := ⟨((HS.out).pick 1 rfl).pick 1 rfl⟩
  exact ⟨rfl, qs, hql, hq, hv, (HS.out.erase 2)⟩

theorem St.ivB {α : Type} {Own : World → Nat → Nat → Value → α → Prop} {loc : ∀ w w' B B1 v x, (∀ b, B ≤ b → b < B1 → w'.heap[b]? = w.heap[b]?) → Own w B B1 v x → Own w' B B1 v x} {W w : World} {s : List Asr} (h : St W s w) (i : Nat) {B B1 : Nat} {v : Value} {x : α} (hi : s[i]? = some (ivA Own loc B B1 v x)) : B ≤ B1 := by
  obtain ⟨f, ⟨_, h1, _, _⟩, _⟩ := h.get i hi
  exact h1
theorem markRaid_any (v : Value) (x : RaidD) (B B1 : Nat) (k : Int) (w : World) (hk0 : 0 < k) (hk1 : k ≤ 100000000000) (hf : x.Fit) (ho : RaidD.Own w B B1 v x) (hB : B1 ≤ w.heap.size) (hBB : B ≤ B1) : Calls Try.prog 38 #[v, .int .i64 k] w fun e w' => e = .returned (.int .i64 (x.past k)) ∧ RaidD.Own w' B B1 v (x.marked k) ∧ Outside B B1 w w' := by
  obtain ⟨a, c, ps, rfl, hx, hb, hs⟩ := RaidD.own_st ho hBB hB
  have hn : ps.length = x.fDisks.length := by rw [← hx, dsOf_len]
  refine (markRaid_x (trunc w B) w a c ps k _ hk0 hk1 (by rw [hn]; exact hf.n) (by rw [hx]; exact hf.t) (fun k => by rw [← dsOf_get, hx]; exact hf.d k) hs).mono ?_
  rintro e w' ⟨rfl, qs, hql, hq, hv, hs2⟩
  rw [hx, hn] at hq
  rw [← hql] at hs2
  obtain ⟨h1, h2⟩ := RaidD.st_own2 (x := x.marked k) hBB hB hq hv hb hs2
  rw [hql] at h1
  exact ⟨by unfold RaidD.past; rw [hx, hn], h1, h2⟩

set_option maxHeartbeats 1000000 in
set_option maxRecDepth 100000 in
theorem heldDiskS_any (a0 : Option Addr) (c0 : Nat) (qs : List HD) (ds : List DiskD) (k : Int) (w0 : World) (hk0 : 0 < k) (hk1 : k ≤ 100000000000) (hn : ds.length ≤ 1048576) (ht : tot lenT ds ≤ 10000000) (hfd : ∀ k, (ds.getD k default).Fit) (hq : dsOf qs = markTo ds k ds.length) (hR : Rd HD.cells 3 w0 a0 qs.length qs) (hP : ∀ k, k < qs.length → (qs.getD k default).reads w0) : Calls Try.prog 108 #[.slice a0 qs.length c0, .int .i64 k] w0 fun e w' => e = .returned (.int .i64 (pastTo ds k ds.length)) ∧ Below w0.heap.size w0 w' := by
  have HR := Bx.mk hR; have HP := Bx.mk hP; clear hR hP
  have hln : qs.length = ds.length := by rw [← dsOf_len, hq, markTo_len]
  have HS := Bx.mk (St.start w0)
  refine wc_enter Try.func108 rfl Try.ntmps108 [(0, .slice a0 qs.length c0), (1, .int .i64 k)] ⟨rfl, rfl, trivial⟩ rfl ?_; intro a HF
  refine wp_seq ?_
  refine wp_region_lit ?_
  refine wl_y rfl HF rfl rfl (yl_assign rfl (HF.ev rfl)) ?_; clear HF; clear a; intro a HF
  refine wpList_nil ?_
  refine ex_then ?_
  refine wp_seq ?_
  refine wp_seq ?_
  refine wp_region_lit ?_
  refine wl_y rfl HF rfl rfl (yl_assign rfl (HF.ev rfl)) ?_; clear HF; clear a; intro a HF
  refine wpList_nil ?_
  refine ex_then ?_
  refine wp_block ?_
  refine wc_loop (ι := Nat) (fun j a w => (j ≤ qs.length) ∧ Fr 42 a [(0, .slice a0 qs.length c0), (1, .int .i64 (pastTo ds k j)), (5, .int .i64 (j : Int))] ∧ St w0 ([]) w) (fun j => qs.length - j) 0 ⟨Nat.zero_le _, HF.less _ ⟨rfl, rfl, rfl, trivial⟩, HS.out⟩ ?_
  clear HF HS; clear a
  rintro j a w1 ⟨hj, HF, HS⟩
  replace HS := Bx.mk HS
  refine wp_seq ?_
  refine wp_seq ?_
  refine wp_region_lit ?_
  refine wl_y rfl HF rfl rfl (yl_move rfl (HF.ev rfl)) ?_; clear HF; clear a; intro a HF
  refine wl_y rfl HF rfl rfl (yl_move rfl (HF.ev rfl)) ?_; clear HF; clear a; intro a HF
  refine wl_y rfl HF rfl rfl (yl_lenL (e := 44) (size := 3) rfl (HF.ev rfl) (by kernel_rfl)) ?_; clear HF; clear a; intro a HF
  refine wl_y rfl HF rfl rfl (yl_lssI rfl (HF.ev rfl) (HF.ev rfl)) ?_; clear HF; clear a; intro a HF
  refine wpList_nil ?_
  refine ex_then ?_
  refine HF.cases 9 rfl (fun cc1 HF1 => ?_) (fun cc1 HF1 => ?_)
  · clear HF; have HF := HF1; clear HF1
    have dcc1 := of_decide_eq_true cc1
    refine wc_true HF rfl ?_
    refine wp_skip ?_
    refine ex_then ?_
    refine wp_seq ?_
    refine wp_block ?_
    refine wp_seq ?_
    obtain ⟨g0, o0, r0⟩ := HR.out.opn; have R0 := Bx.mk r0; clear r0
    have hqj : (qs.getD j default).d = (ds.getD j default).markG (pastTo ds k j) := by rw [← dsOf_get, hq, markTo_get _ _ _ _ (by omega), if_pos (by omega)]
    have hc1 : (qs.getD j default).d.fCells = marks markT 1 (pastTo ds k j) (ds.getD j default).fCells.length := by rw [hqj]; rfl
    have hc2 : (qs.getD j default).d.fCells.length = (ds.getD j default).fCells.length := by rw [hc1, marks_len]
    have hw1 : (qs.getD j default).d.fWaits = marks mkWait 2 (pastTo ds k j + ((ds.getD j default).fCells.length : Int) * 1) (ds.getD j default).fWaits.length := by rw [hqj]; rfl
    have hw2 : (qs.getD j default).d.fWaits.length = (ds.getD j default).fWaits.length := by rw [hw1, marks_len]
    have hg1 : (qs.getD j default).d.fGone = ((pastTo ds k j + ((ds.getD j default).fCells.length : Int) * 1 + ((ds.getD j default).fWaits.length : Int) * 2) % 3 == 0) := by rw [hqj]; rfl
    have hpb := pastTo_le ds k j (by omega)
    have htt := tot_take_le lenT ds j
    have hfj := hfd j; have hcl := hfj.f0; have hwl := hfj.f1
    refine wp_region_lit ?_
    refine wl_y rfl HF rfl rfl (yl_move rfl (HF.ev rfl)) ?_; clear HF; clear a; intro a HF
    refine wl_y rfl HF rfl rfl (yl_move rfl (HF.ev rfl)) ?_; clear HF; clear a; intro a HF
    refine wl_y rfl HF rfl rfl (yl_indexAddrR (e := 44) (i := j) (size := 3) rfl (HF.ev rfl) (HF.ev rfl) (by kernel_rfl) rfl (by omega) (R0.out.ao j (by omega))) ?_; clear HF; clear a; intro a HF
    refine wl_y rfl HF rfl rfl (yl_fieldAddr (j := 0) rfl (HF.ev rfl) (by kernel_rfl)) ?_; clear HF; clear a; intro a HF
    refine wl_y rfl HF rfl rfl (yl_load (v := .slice ((qs.getD j default).a0) ((qs.getD j default).d.fCells.length) ((qs.getD j default).c0)) rfl (HF.ev rfl) (R0.out.elem HS.out (get_getD (xs := qs) (j := j) (d := default) (by omega)) 0 _ rfl) (by kernel_rfl)) ?_; clear HF; clear a; intro a HF
    refine wl_y rfl HF rfl rfl (yl_move rfl (HF.ev rfl)) ?_; clear HF; clear a; intro a HF
    refine wl_callB rfl HF rfl (enter_of Try.func97 (by kernel_rfl) rfl) (args := #[.slice ((qs.getD j default).a0) ((qs.getD j default).d.fCells.length) ((qs.getD j default).c0), .int .i64 (pastTo ds k j)]) rfl (v := .int .i64 (pastTo ds k j + ((ds.getD j default).fCells.length : Int) * 1)) ((by rw [hc2]; have := heldStringS_any (qs.getD j default).a0 (ds.getD j default).fCells.length (qs.getD j default).c0 (pastTo ds k j) _ (by omega) (by omega) (by omega) (by have h9 := ((HP.out j (by omega)).below HS.out.bel).rc; rw [hc1, marks_len] at h9; exact h9); exact this)) rfl rfl HS.out ?_; clear HF HS; clear a; intro w2 a HS HF; replace HS := Bx.mk HS
    refine wl_y rfl HF rfl rfl (yl_assign rfl (HF.ev rfl)) ?_; clear HF; clear a; intro a HF
    refine wpList_nil ?_
    refine ex_then ?_
    refine wp_seq ?_
    refine wp_seq ?_
    refine wp_region_lit ?_
    refine wl_y rfl HF rfl rfl (yl_move rfl (HF.ev rfl)) ?_; clear HF; clear a; intro a HF
    refine wl_y rfl HF rfl rfl (yl_lssI rfl (HF.ev rfl) (HF.ev rfl)) ?_; clear HF; clear a; intro a HF
    refine wpList_nil ?_
    refine ex_then ?_
    refine HF.cases 20 rfl (fun cc2 HF1 => ?_) (fun cc2 HF1 => ?_)
    · clear HF; have HF := HF1; clear HF1
      have dcc2 := of_decide_eq_true cc2
      omega
    · clear HF; have HF := HF1; clear HF1
      have dcc2 := of_decide_eq_false cc2
      refine wc_false HF rfl ?_
      refine wp_skip ?_
      refine ex_then ?_
      refine wp_seq ?_
      refine wp_region_lit ?_
      refine wl_y rfl HF rfl rfl (yl_move rfl (HF.ev rfl)) ?_; clear HF; clear a; intro a HF
      refine wl_y rfl HF rfl rfl (yl_move rfl (HF.ev rfl)) ?_; clear HF; clear a; intro a HF
      refine wl_y rfl HF rfl rfl (yl_indexAddrR (e := 44) (i := j) (size := 3) rfl (HF.ev rfl) (HF.ev rfl) (by kernel_rfl) rfl (by omega) (R0.out.ao j (by omega))) ?_; clear HF; clear a; intro a HF
      refine wl_y rfl HF rfl rfl (yl_fieldAddr (j := 1) rfl (HF.ev rfl) (by kernel_rfl)) ?_; clear HF; clear a; intro a HF
      refine wl_y rfl HF rfl rfl (yl_load (v := .slice ((qs.getD j default).a1) ((qs.getD j default).d.fWaits.length) ((qs.getD j default).c1)) rfl (HF.ev rfl) (R0.out.elem HS.out (get_getD (xs := qs) (j := j) (d := default) (by omega)) 1 _ rfl) (by kernel_rfl)) ?_; clear HF; clear a; intro a HF
      refine wl_y rfl HF rfl rfl (yl_move rfl (HF.ev rfl)) ?_; clear HF; clear a; intro a HF
      refine wl_callB rfl HF rfl (enter_of Try.func157 (by kernel_rfl) rfl) (args := #[.slice ((qs.getD j default).a1) ((qs.getD j default).d.fWaits.length) ((qs.getD j default).c1), .int .i64 (pastTo ds k j + ((ds.getD j default).fCells.length : Int) * 1)]) rfl (v := .int .i64 (pastTo ds k j + ((ds.getD j default).fCells.length : Int) * 1 + ((ds.getD j default).fWaits.length : Int) * 2)) ((by rw [hw2]; have := heldWaitS_any (qs.getD j default).a1 (ds.getD j default).fWaits.length (qs.getD j default).c1 (pastTo ds k j + ((ds.getD j default).fCells.length : Int) * 1) _ (by omega) (by omega) (by omega) (by have h9 := ((HP.out j (by omega)).below HS.out.bel).rw; rw [hw1, marks_len] at h9; exact h9); exact this)) rfl rfl HS.out ?_; clear HF HS; clear a; intro w3 a HS HF; replace HS := Bx.mk HS
      refine wl_y rfl HF rfl rfl (yl_assign rfl (HF.ev rfl)) ?_; clear HF; clear a; intro a HF
      refine wpList_nil ?_
      refine ex_then ?_
      refine wp_seq ?_
      refine wp_seq ?_
      refine wp_region_lit ?_
      refine wl_y rfl HF rfl rfl (yl_move rfl (HF.ev rfl)) ?_; clear HF; clear a; intro a HF
      refine wl_y rfl HF rfl rfl (yl_lssI rfl (HF.ev rfl) (HF.ev rfl)) ?_; clear HF; clear a; intro a HF
      refine wpList_nil ?_
      refine ex_then ?_
      refine HF.cases 29 rfl (fun cc3 HF1 => ?_) (fun cc3 HF1 => ?_)
      · clear HF; have HF := HF1; clear HF1
        have dcc3 := of_decide_eq_true cc3
        omega
      · clear HF; have HF := HF1; clear HF1
        have dcc3 := of_decide_eq_false cc3
        refine wc_false HF rfl ?_
        refine wp_skip ?_
        refine ex_then ?_
        refine wp_seq ?_
        refine wp_seq ?_
        refine wp_region_lit ?_
        refine wl_y rfl HF rfl rfl (yl_move rfl (HF.ev rfl)) ?_; clear HF; clear a; intro a HF
        refine wl_y rfl HF rfl rfl (yl_move rfl (HF.ev rfl)) ?_; clear HF; clear a; intro a HF
        refine wl_y rfl HF rfl rfl (yl_indexAddrR (e := 44) (i := j) (size := 3) rfl (HF.ev rfl) (HF.ev rfl) (by kernel_rfl) rfl (by omega) (R0.out.ao j (by omega))) ?_; clear HF; clear a; intro a HF
        refine wl_y rfl HF rfl rfl (yl_fieldAddr (j := 2) rfl (HF.ev rfl) (by kernel_rfl)) ?_; clear HF; clear a; intro a HF
        refine wl_y rfl HF rfl rfl (yl_load (v := .bool ((qs.getD j default).d.fGone)) rfl (HF.ev rfl) (R0.out.elem HS.out (get_getD (xs := qs) (j := j) (d := default) (by omega)) 2 _ rfl) (by kernel_rfl)) ?_; clear HF; clear a; intro a HF
        refine wl_y rfl HF rfl rfl (yl_move rfl (HF.ev rfl)) ?_; clear HF; clear a; intro a HF
        refine wl_y rfl HF rfl rfl (yl_remI rfl (HF.ev rfl) (HF.ev rfl) (by omega) (rem_pos (by omega) (by omega))) ?_; clear HF; clear a; intro a HF
        refine wl_y rfl HF rfl rfl (yl_eqlI rfl (HF.ev rfl) (HF.ev rfl)) ?_; clear HF; clear a; intro a HF
        refine wl_y rfl HF rfl rfl (yl_neqB rfl (HF.ev rfl) (HF.ev rfl) (by kernel_rfl)) ?_; clear HF; clear a; intro a HF
        refine wpList_nil ?_
        refine ex_then ?_
        refine HF.cases 38 rfl (fun cc4 HF1 => ?_) (fun cc4 HF1 => ?_)
        · clear HF; have HF := HF1; clear HF1
          rw [hg1] at cc4; simp at cc4
        · clear HF; have HF := HF1; clear HF1
          refine wc_false HF rfl ?_
          refine wp_skip ?_
          refine ex_then ?_
          refine wp_region_lit ?_
          refine wl_y rfl HF rfl rfl (yl_move rfl (HF.ev rfl)) ?_; clear HF; clear a; intro a HF
          refine wl_y rfl HF rfl rfl (yl_addI rfl (HF.ev rfl) (HF.ev rfl) (i64w (by omega))) ?_; clear HF; clear a; intro a HF
          refine wl_y rfl HF rfl rfl (yl_assign rfl (HF.ev rfl)) ?_; clear HF; clear a; intro a HF
          refine wpList_nil ?_
          refine ex_block ?_
          refine ex_then ?_
          refine wp_region_lit ?_
          refine wl_y rfl HF rfl rfl (yl_move rfl (HF.ev rfl)) ?_; clear HF; clear a; intro a HF
          refine wl_y rfl HF rfl rfl (yl_addI rfl (HF.ev rfl) (HF.ev rfl) (i64w (by omega))) ?_; clear HF; clear a; intro a HF
          refine wl_y rfl HF rfl rfl (yl_assign rfl (HF.ev rfl)) ?_; clear HF; clear a; intro a HF
          refine wpList_nil ?_
          refine ex_then ?_
          have hpast : pastTo ds k (j + 1) = pastTo ds k j + ((ds.getD j default).fCells.length : Int) * 1 + ((ds.getD j default).fWaits.length : Int) * 2 + 1 := rfl
          exact ⟨j + 1, ⟨(by omega), HF.less _ ⟨rfl, (by show _ = some (Value.int .i64 (pastTo ds k (j + 1))); rw [hpast]; rfl), rfl, trivial⟩, HS.out⟩, (by omega)⟩
  · clear HF; have HF := HF1; clear HF1
    have dcc1 := of_decide_eq_false cc1
    refine wc_false HF rfl ?_
    refine wp_exit ?_
    refine ex_then_exit ?_
    refine ex_then_exit ?_
    refine ex_block_hit ?_
    refine ex_then ?_
    refine wp_seq ?_
    refine wp_region_lit ?_
    refine wl_y rfl HF rfl rfl (yl_move rfl (HF.ev rfl)) ?_; clear HF; clear a; intro a HF
    refine wl_y rfl HF rfl rfl (yl_assign rfl (HF.ev rfl)) ?_; clear HF; clear a; intro a HF
    refine wpList_nil ?_
    refine ex_then ?_
    refine wp_ret ?_
    refine bp_ret1 HF Try.results108 (HF.res rfl) ?_
    obtain rfl : j = qs.length := by omega
    exact ⟨by rw [hln], HS.out.bel⟩

set_option maxHeartbeats 1000000 in
set_option maxRecDepth 100000 in
theorem heldRaid_x (a0 : Option Addr) (c0 : Nat) (qs : List HD) (ds : List DiskD) (k : Int) (w0 : World) (hk0 : 0 < k) (hk1 : k ≤ 100000000000) (hn : ds.length ≤ 1048576) (ht : tot lenT ds ≤ 10000000) (hfd : ∀ k, (ds.getD k default).Fit) (hq : dsOf qs = markTo ds k ds.length) (hR : Rd HD.cells 3 w0 a0 qs.length qs) (hP : ∀ k, k < qs.length → (qs.getD k default).reads w0) : Calls Try.prog 39 #[.agg #[.slice a0 qs.length c0], .int .i64 k] w0 fun e w' => e = .returned (.int .i64 (pastTo ds k ds.length)) ∧ Below w0.heap.size w0 w' := by
  have HR := Bx.mk hR; have HP := Bx.mk hP; clear hR hP
  have hln : qs.length = ds.length := by rw [← dsOf_len, hq, markTo_len]
  have HS := Bx.mk (St.start w0)
  refine wc_enter Try.func39 rfl Try.ntmps39 [(0, .agg #[.slice a0 qs.length c0]), (1, .int .i64 k)] ⟨rfl, rfl, trivial⟩ rfl ?_; intro a HF
  refine wp_seq ?_
  refine wp_region_lit ?_
  refine wl_box rfl HF rfl (HF.ev rfl) (Z := [.slice a0 qs.length c0]) rfl rfl rfl rfl HS.out ?_; clear HF HS; clear a; intro a w1 b1 HF HS; replace HS := Bx.mk HS
  refine wl_y rfl HF rfl rfl (yl_assign rfl (HF.ev rfl)) ?_; clear HF; clear a; intro a HF
  refine wpList_nil ?_
  refine ex_then ?_
  refine wp_seq ?_
  refine wp_region_lit ?_
  refine wl_y rfl HF rfl rfl (yl_fieldAddr (j := 0) rfl (HF.ev rfl) (by kernel_rfl)) ?_; clear HF; clear a; intro a HF
  refine wl_y rfl HF rfl rfl (yl_load (v := .slice a0 qs.length c0) rfl (HF.ev rfl) (((HS.out.box 0 rfl).cell 0).trans rfl) (by kernel_rfl)) ?_; clear HF; clear a; intro a HF
  refine wl_y rfl HF rfl rfl (yl_move rfl (HF.ev rfl)) ?_; clear HF; clear a; intro a HF
  refine wl_callB rfl HF rfl (enter_of Try.func108 (by kernel_rfl) rfl) (args := #[.slice a0 qs.length c0, .int .i64 k]) rfl (v := .int .i64 (pastTo ds k ds.length)) (heldDiskS_any a0 c0 qs ds k _ hk0 hk1 hn ht hfd hq (HR.out.below HS.out.bel) (fun k hk => (HP.out k hk).below HS.out.bel)) rfl rfl HS.out ?_; clear HF HS; clear a; intro w2 a HS HF; replace HS := Bx.mk HS
  refine wl_y rfl HF rfl rfl (yl_assign rfl (HF.ev rfl)) ?_; clear HF; clear a; intro a HF
  refine wpList_nil ?_
  refine ex_then ?_
  refine wp_seq ?_
  refine wp_seq ?_
  refine wp_region_lit ?_
  refine wl_y rfl HF rfl rfl (yl_move rfl (HF.ev rfl)) ?_; clear HF; clear a; intro a HF
  refine wl_y rfl HF rfl rfl (yl_lssI rfl (HF.ev rfl) (HF.ev rfl)) ?_; clear HF; clear a; intro a HF
  refine wpList_nil ?_
  refine ex_then ?_
  refine HF.cases 10 rfl (fun cc1 HF1 => ?_) (fun cc1 HF1 => ?_)
  · clear HF; have HF := HF1; clear HF1
    have dcc1 := of_decide_eq_true cc1
    have := (pastTo_le ds k ds.length (Nat.le_refl _)).1; omega
  · clear HF; have HF := HF1; clear HF1
    have dcc1 := of_decide_eq_false cc1
    refine wc_false HF rfl ?_
    refine wp_skip ?_
    refine ex_then ?_
    refine wp_seq ?_
    refine wp_region_lit ?_
    refine wl_y rfl HF rfl rfl (yl_move rfl (HF.ev rfl)) ?_; clear HF; clear a; intro a HF
    refine wl_y rfl HF rfl rfl (yl_assign rfl (HF.ev rfl)) ?_; clear HF; clear a; intro a HF
    refine wpList_nil ?_
    refine ex_then ?_
    refine wp_ret ?_
    refine bp_ret1 HF Try.results39 (HF.res rfl) ?_
    exact ⟨rfl, HS.out.bel⟩

theorem heldRaid_any (v : Value) (x : RaidD) (k : Int) (w : World) (hk0 : 0 < k) (hk1 : k ≤ 100000000000) (hf : x.Fit) (hr : RaidD.Reads w v (x.marked k)) : Calls Try.prog 39 #[v, .int .i64 k] w fun e w' => e = .returned (.int .i64 (x.past k)) ∧ Below w.heap.size w w' := by
  obtain ⟨a, c, qs, rfl, hx, hr, hp⟩ := hr
  exact heldRaid_x a c qs x.fDisks k w hk0 hk1 hf.n hf.t hf.d hx hr hp

end Go.Proofs.Ytfijfjjleelphaa

/- Writes to a set of disks, by the reference. -/
namespace Go.Proofs.Ytfijfjjleelphaa
open Go.RowKit

def encL (b : Bool) : List Value := [.bool b]
theorem encL_len (b : Bool) : (encL b).length = 1 := rfl
/-- What a round makes of each disk; none if one fails. -/
def eachTo (f : Nat → DiskD → Option DiskD) (ds : List DiskD) : Nat → Option (List DiskD)
  | 0 => some []
  | k + 1 => match eachTo f ds k with
    | none => none
    | some xs => match f k (ds.getD k default) with
      | none => none
      | some x => some (xs ++ [x])
theorem eachTo_next {f : Nat → DiskD → Option DiskD} {ds : List DiskD} {k : Nat} {xs : List DiskD} {x : DiskD} (h : eachTo f ds k = some xs) (hx : f k (ds.getD k default) = some x) : eachTo f ds (k + 1) = some (xs ++ [x]) := by
  unfold eachTo; rw [h]; simp only; rw [hx]
theorem eachTo_fail {f : Nat → DiskD → Option DiskD} {ds : List DiskD} {k n : Nat} (hx : f k (ds.getD k default) = none) (hk : k < n) : eachTo f ds n = none := by
  induction n with
  | zero => omega
  | succ n ih =>
    unfold eachTo
    by_cases h : k < n
    · rw [ih h]
    · obtain rfl : k = n := by omega
      cases eachTo f ds k with
      | none => rfl
      | some xs => simp only; rw [hx]
theorem eachTo_len {f : Nat → DiskD → Option DiskD} {ds : List DiskD} : ∀ {n : Nat} {xs : List DiskD}, eachTo f ds n = some xs → xs.length = n := by
  intro n
  induction n with
  | zero => intro xs h; obtain rfl : [] = xs := by simpa [eachTo] using h
            rfl
  | succ n ih =>
    intro xs h
    unfold eachTo at h
    cases h1 : eachTo f ds n with
    | none => rw [h1] at h; cases h
    | some ys =>
      rw [h1] at h
      simp only at h
      cases h2 : f n (ds.getD n default) with
      | none => rw [h2] at h; cases h
      | some y =>
        rw [h2] at h
        obtain rfl : ys ++ [y] = xs := by simpa using h
        rw [List.length_append, ih h1]; rfl
theorem eachTo_congr {f g : Nat → DiskD → Option DiskD} {ds : List DiskD} {n : Nat} (h : ∀ k, k < n → f k (ds.getD k default) = g k (ds.getD k default)) : eachTo f ds n = eachTo g ds n := by
  induction n with
  | zero => rfl
  | succ n ih =>
    unfold eachTo
    rw [ih (fun k hk => h k (by omega)), h n (by omega)]
def stepPut (row : Int) (col : Nat → ByteArray) (wanted : Nat → Bool) (i : Nat) (d : DiskD) : Option DiskD :=
  bif d.fGone || !wanted i then some d else bif d.can row (col i) then some (d.putD row (col i)) else none
theorem stepPut_skip {row : Int} {col : Nat → ByteArray} {wanted : Nat → Bool} {i : Nat} {d : DiskD} (h : (d.fGone || !wanted i) = true) : stepPut row col wanted i d = some d := by unfold stepPut; rw [h]; rfl
theorem stepPut_put {row : Int} {col : Nat → ByteArray} {wanted : Nat → Bool} {i : Nat} {d : DiskD} (h1 : d.fGone = false) (h2 : wanted i = true) (h3 : d.can row (col i) = true) : stepPut row col wanted i d = some (d.putD row (col i)) := by unfold stepPut; rw [h1, h2, h3]; rfl
theorem stepPut_fail {row : Int} {col : Nat → ByteArray} {wanted : Nat → Bool} {i : Nat} {d : DiskD} (h1 : d.fGone = false) (h2 : wanted i = true) (h3 : d.can row (col i) = false) : stepPut row col wanted i d = none := by unfold stepPut; rw [h1, h2, h3]; rfl
theorem l3WriteH_any (w0 w : World) (p : HD) (n : Int) (t : ByteArray) (F : List Asr) (hw : p.d.fWaits.length ≤ 1000) (ht : t.size ≤ 9223372036854775806) (hS : St w0 (p.asr :: F) w) : Calls Try.prog 123 #[.agg #[.slice p.a0 p.d.fCells.length p.c0, .slice p.a1 p.d.fWaits.length p.c1, .bool p.d.fGone], .int .i64 n, .string t] w fun e w' => ∃ q : HD, q.d = (if p.d.can n t then p.d.putD n t else p.d) ∧ e = .returned (.tuple #[.agg #[.slice q.a0 q.d.fCells.length q.c0, .slice q.a1 q.d.fWaits.length q.c1, .bool q.d.fGone], .bool (p.d.can n t)]) ∧ St w0 (q.asr :: F) w' := by
  refine (l3Write_any w0 w p.a0 p.c0 p.a1 p.c1 p.d n t F hw ht (St.join.2 hS)).mono ?_
  rintro e w' (⟨hc, rfl, hs⟩ | ⟨hc, a1, c1, rfl, hs⟩)
  · exact ⟨p, by rw [hc]; rfl, by rw [hc], (St.join (r := [_, _]) (s := F)).1 hs⟩
  · exact ⟨⟨p.a0, p.c0, a1, c1, p.d.putD n t⟩, by rw [hc]; rfl, by rw [hc]; rfl, (St.join (r := [_, _]) (s := F)).1 hs⟩
theorem list_split {α : Type} [Inhabited α] {qs ps : List α} {k : Nat} (hl : qs.length = ps.length) (hk : k < ps.length) (hd : qs.drop k = ps.drop k) : qs.getD k default = ps.getD k default := by
  rw [getD_get (by omega), getD_get hk]
  have h1 := List.drop_eq_getElem_cons (l := qs) (i := k) (by omega)
  have h2 := List.drop_eq_getElem_cons (l := ps) (i := k) hk
  rw [h1, h2] at hd
  exact (List.cons.inj hd).1
theorem take_set_succ {α : Type} (qs : List α) (k : Nat) (q : α) (hk : k < qs.length) : (qs.set k q).take (k + 1) = qs.take k ++ [q] := by
  rw [List.take_succ_eq_append_getElem (by rw [List.length_set]; exact hk), List.take_set_of_le (Nat.le_refl _), List.getElem_set_self]
theorem drop_set_succ {α : Type} (qs : List α) (k : Nat) (q : α) : (qs.set k q).drop (k + 1) = qs.drop (k + 1) := by
  rw [List.drop_set_of_lt (by omega)]

set_option maxHeartbeats 1000000 in
set_option maxRecDepth 100000 in
theorem l4Put_any (w0 w : World) (g c0 gc cc gb cb : Nat) (ps : List HD) (row : Int) (cols : List ByteArray) (wanted : List Bool) (F : List Asr) (hl : ps.length ≤ 1048576) (hc : ps.length ≤ cols.length) (hb : ps.length ≤ wanted.length) (hpw : ∀ k, (ps.getD k default).d.fWaits.length ≤ 1000) (hct : ∀ k, (cols.getD k ByteArray.empty).size ≤ 9223372036854775806) (hS : St w0 (rowA HD.cells 3 44 (.slice (some ⟨g, 0, none⟩) ps.length c0) ps :: sepA (ps.map HD.asr) :: rowA encS 1 9 (.slice (some ⟨gc, 0, none⟩) cols.length cc) cols :: rowA encL 1 4 (.slice (some ⟨gb, 0, none⟩) wanted.length cb) wanted :: F) w) : Calls Try.prog 54 #[.agg #[.slice (some ⟨g, 0, none⟩) ps.length c0], .int .i64 row, .slice (some ⟨gc, 0, none⟩) cols.length cc, .slice (some ⟨gb, 0, none⟩) wanted.length cb] w fun e w' => (eachTo (stepPut row (fun i => cols.getD i ByteArray.empty) (fun i => wanted.getD i false)) (dsOf ps) ps.length = none ∧ e = .returned (.tuple #[.agg #[.slice none 0 0], .bool false]) ∧ St w0 (rowA encS 1 9 (.slice (some ⟨gc, 0, none⟩) cols.length cc) cols :: rowA encL 1 4 (.slice (some ⟨gb, 0, none⟩) wanted.length cb) wanted :: F) w') ∨ (∃ qs : List HD, eachTo (stepPut row (fun i => cols.getD i ByteArray.empty) (fun i => wanted.getD i false)) (dsOf ps) ps.length = some (dsOf qs) ∧ e = .returned (.tuple #[.agg #[.slice (some ⟨g, 0, none⟩) ps.length c0], .bool true]) ∧ St w0 (rowA HD.cells 3 44 (.slice (some ⟨g, 0, none⟩) ps.length c0) qs :: sepA (qs.map HD.asr) :: rowA encS 1 9 (.slice (some ⟨gc, 0, none⟩) cols.length cc) cols :: rowA encL 1 4 (.slice (some ⟨gb, 0, none⟩) wanted.length cb) wanted :: F) w') := by
  have HS := Bx.mk hS; clear hS
  refine wc_enter Try.func54 rfl Try.ntmps54 [(0, .agg #[.slice (some ⟨g, 0, none⟩) ps.length c0]), (1, .int .i64 row), (2, .slice (some ⟨gc, 0, none⟩) cols.length cc), (3, .slice (some ⟨gb, 0, none⟩) wanted.length cb)] ⟨rfl, rfl, rfl, rfl, trivial⟩ rfl ?_; intro a HF
  refine wp_seq ?_
  refine wp_region_lit ?_
  refine wl_box rfl HF rfl (HF.ev rfl) (Z := [.slice (some ⟨g, 0, none⟩) ps.length c0]) rfl rfl rfl rfl HS.out ?_; clear HF HS; clear a; intro a w1 b1 HF HS; replace HS := Bx.mk HS
  refine wl_alloc rfl HF rfl rfl rfl (Z := [.slice none 0 0]) (by kernel_rfl) rfl HS.out ?_; clear HF HS; clear a; intro a w2 b2 HF HS; replace HS := Bx.mk HS
  refine wl_y rfl HF rfl rfl (yl_assign rfl (HF.ev rfl)) ?_; clear HF; clear a; intro a HF
  refine wpList_nil ?_
  refine ex_then ?_
  refine wp_seq ?_
  refine wp_seq ?_
  refine wp_region_lit ?_
  refine wl_y rfl HF rfl rfl (yl_assign rfl (HF.ev rfl)) ?_; clear HF; clear a; intro a HF
  refine wpList_nil ?_
  refine ex_then ?_
  refine wp_block ?_
  replace HS : Bx (St w0 (rowA HD.cells 3 44 (.slice (some ⟨g, 0, none⟩) ps.length c0) ps :: sepA (ps.map HD.asr) :: rowA encS 1 9 (.slice (some ⟨gc, 0, none⟩) cols.length cc) cols :: rowA encL 1 4 (.slice (some ⟨gb, 0, none⟩) wanted.length cb) wanted :: boxA b2 1 25 (.agg #[.slice none 0 0]) :: boxA b1 1 25 (.agg #[.slice (some ⟨g, 0, none⟩) ps.length c0]) :: F) _) := ⟨((((HS.out).pick 5 rfl).pick 5 rfl).pick 5 rfl).pick 5 rfl⟩
  refine wc_loop (ι := Nat) (fun k a w => ∃ (qs : List HD), (k ≤ ps.length ∧ qs.length = ps.length ∧ eachTo (stepPut row (fun i => cols.getD i ByteArray.empty) (fun i => wanted.getD i false)) (dsOf ps) k = some (dsOf (qs.take k)) ∧ qs.drop k = ps.drop k) ∧ Fr 56 a [(1, .int .i64 row), (2, .slice (some ⟨gc, 0, none⟩) cols.length cc), (3, .slice (some ⟨gb, 0, none⟩) wanted.length cb), (4, .pointer (some ⟨b1, 0, none⟩)), (8, .pointer (some ⟨b2, 0, none⟩)), (9, .bool false), (10, .int .i64 (k : Int))] ∧ St w0 (rowA HD.cells 3 44 (.slice (some ⟨g, 0, none⟩) ps.length c0) qs :: sepA (qs.map HD.asr) :: rowA encS 1 9 (.slice (some ⟨gc, 0, none⟩) cols.length cc) cols :: rowA encL 1 4 (.slice (some ⟨gb, 0, none⟩) wanted.length cb) wanted :: boxA b2 1 25 (.agg #[.slice none 0 0]) :: boxA b1 1 25 (.agg #[.slice (some ⟨g, 0, none⟩) ps.length c0]) :: F) w) (fun k => ps.length - k) 0 ⟨ps, ⟨Nat.zero_le _, rfl, rfl, rfl⟩, HF.less _ ⟨rfl, rfl, rfl, rfl, rfl, rfl, rfl, trivial⟩, HS.out⟩ ?_
  clear HF HS; clear a
  rintro k a w3 ⟨qs, ⟨hk, hql, hq, hqd0⟩, HF, HS⟩
  replace HS := Bx.mk HS
  refine wp_seq ?_
  refine wp_seq ?_
  refine wp_region_lit ?_
  refine wl_y rfl HF rfl rfl (yl_move rfl (HF.ev rfl)) ?_; clear HF; clear a; intro a HF
  refine wl_y rfl HF rfl rfl (yl_fieldAddr (j := 0) rfl (HF.ev rfl) (by kernel_rfl)) ?_; clear HF; clear a; intro a HF
  refine wl_y rfl HF rfl rfl (yl_load (v := .slice (some ⟨g, 0, none⟩) ps.length c0) rfl (HF.ev rfl) (((HS.out.box 5 rfl).cell 0).trans rfl) (by kernel_rfl)) ?_; clear HF; clear a; intro a HF
  refine wl_y rfl HF rfl rfl (yl_lenL (e := 44) (size := 3) rfl (HF.ev rfl) (by kernel_rfl)) ?_; clear HF; clear a; intro a HF
  refine wl_y rfl HF rfl rfl (yl_lssI rfl (HF.ev rfl) (HF.ev rfl)) ?_; clear HF; clear a; intro a HF
  refine wpList_nil ?_
  refine ex_then ?_
  refine HF.cases 17 rfl (fun cc1 HF1 => ?_) (fun cc1 HF1 => ?_)
  · clear HF; have HF := HF1; clear HF1
    have dcc1 := of_decide_eq_true cc1
    refine wc_true HF rfl ?_
    refine wp_skip ?_
    refine ex_then ?_
    refine wp_seq ?_
    refine wp_block ?_
    refine wp_seq ?_
    refine wp_seq ?_
    have hgk := list_split hql (show k < ps.length by omega) hqd0
    have hqw : (qs.getD k default).d.fWaits.length ≤ 1000 := by rw [hgk]; exact hpw k
    refine wp_region_lit ?_
    refine wl_y rfl HF rfl rfl (yl_fieldAddr (j := 0) rfl (HF.ev rfl) (by kernel_rfl)) ?_; clear HF; clear a; intro a HF
    refine wl_y rfl HF rfl rfl (yl_load (v := .slice (some ⟨g, 0, none⟩) ps.length c0) rfl (HF.ev rfl) (((HS.out.box 5 rfl).cell 0).trans rfl) (by kernel_rfl)) ?_; clear HF; clear a; intro a HF
    refine wl_y rfl HF rfl rfl (yl_move rfl (HF.ev rfl)) ?_; clear HF; clear a; intro a HF
    refine wl_y rfl HF rfl rfl (yl_indexAddr (e := 44) (i := k) (size := 3) rfl (HF.ev rfl) (HF.ev rfl) (by kernel_rfl) rfl (by omega)) ?_; clear HF; clear a; intro a HF
    refine wl_y rfl HF rfl rfl (yl_fieldAddr (j := 2) rfl (HF.ev rfl) (by kernel_rfl)) ?_; clear HF; clear a; intro a HF
    refine wl_y rfl HF rfl rfl (yl_load (v := .bool ((qs.getD k default).d.fGone)) rfl (HF.ev rfl) (HS.out.elem HD.cells_len 0 rfl (get_getD (xs := qs) (j := k) (d := default) (by omega)) 2 _ rfl) (by kernel_rfl)) ?_; clear HF; clear a; intro a HF
    refine wl_y rfl HF rfl rfl (yl_move rfl (HF.ev rfl)) ?_; clear HF; clear a; intro a HF
    refine HF.cases 26 rfl (fun cc2 HF1 => ?_) (fun cc2 HF1 => ?_)
    · clear HF; have HF := HF1; clear HF1
      refine wl_skip HF rfl rfl rfl rfl rfl rfl ?_; clear HF; clear a; intro a HF
      refine wl_skip HF rfl rfl rfl rfl rfl rfl ?_; clear HF; clear a; intro a HF
      refine wl_skip HF rfl rfl rfl rfl rfl rfl ?_; clear HF; clear a; intro a HF
      refine wl_skip HF rfl rfl rfl rfl rfl rfl ?_; clear HF; clear a; intro a HF
      refine wl_skip HF rfl rfl rfl rfl rfl rfl ?_; clear HF; clear a; intro a HF
      refine wl_y rfl HF rfl rfl (yl_pick_t rfl (HF.ev rfl) (HF.ev rfl)) ?_; clear HF; clear a; intro a HF
      refine wpList_nil ?_
      refine ex_then ?_
      refine wc_true HF rfl ?_
      refine wp_exit ?_
      refine ex_then_exit ?_
      refine ex_block_hit ?_
      refine ex_then ?_
      refine wp_region_lit ?_
      refine wl_y rfl HF rfl rfl (yl_move rfl (HF.ev rfl)) ?_; clear HF; clear a; intro a HF
      refine wl_y rfl HF rfl rfl (yl_addI rfl (HF.ev rfl) (HF.ev rfl) (i64w (by omega))) ?_; clear HF; clear a; intro a HF
      refine wl_y rfl HF rfl rfl (yl_assign rfl (HF.ev rfl)) ?_; clear HF; clear a; intro a HF
      refine wpList_nil ?_
      refine ex_then ?_
      have hskip : ((ps.getD k default).d.fGone || !(wanted.getD k false)) = true := by rw [← hgk]; rw [cc2]; rfl
      have hnext : eachTo (stepPut row (fun i => cols.getD i ByteArray.empty) (fun i => wanted.getD i false)) (dsOf ps) (k + 1) = some (dsOf (qs.take (k + 1))) := by rw [dsOf_take_succ _ _ (by omega)]; refine eachTo_next hq ?_; rw [dsOf_get, stepPut_skip hskip, hgk]
      replace HS := Bx.mk ((((((((HS.out).pick 5 rfl).pick 5 rfl).pick 5 rfl).pick 5 rfl).pick 5 rfl).pick 5 rfl))
      exact ⟨k + 1, ⟨qs, ⟨by omega, hql, hnext, by rw [← List.drop_drop, ← List.drop_drop, hqd0]⟩, HF.less _ ⟨rfl, rfl, rfl, rfl, rfl, rfl, rfl, trivial⟩, HS.out⟩, (by omega)⟩
    · clear HF; have HF := HF1; clear HF1
      refine wl_yg HF rfl rfl rfl rfl rfl (yl_move rfl (HF.ev rfl)) ?_; clear HF; clear a; intro a HF
      refine wl_yg HF rfl rfl rfl rfl rfl (yl_move rfl (HF.ev rfl)) ?_; clear HF; clear a; intro a HF
      refine wl_yg HF rfl rfl rfl rfl rfl (yl_indexAddr (e := 4) (i := k) (size := 1) rfl (HF.ev rfl) (HF.ev rfl) (by kernel_rfl) rfl (by omega)) ?_; clear HF; clear a; intro a HF
      refine wl_yg HF rfl rfl rfl rfl rfl (yl_load (v := .bool (wanted.getD k false)) rfl (HF.ev rfl) (HS.out.elem1 encL_len 3 rfl (get_getD (xs := wanted) (j := k) (d := false) (by omega)) rfl) (by kernel_rfl)) ?_; clear HF; clear a; intro a HF
      refine wl_yg HF rfl rfl rfl rfl rfl (yl_not rfl (HF.ev rfl)) ?_; clear HF; clear a; intro a HF
      refine wl_y rfl HF rfl rfl (yl_pick_f rfl (HF.ev rfl) (HF.ev rfl)) ?_; clear HF; clear a; intro a HF
      refine wpList_nil ?_
      refine ex_then ?_
      refine HF.cases 32 rfl (fun cc3 HF1 => ?_) (fun cc3 HF1 => ?_)
      · clear HF; have HF := HF1; clear HF1
        refine wc_true HF rfl ?_
        refine wp_exit ?_
        refine ex_then_exit ?_
        refine ex_block_hit ?_
        refine ex_then ?_
        refine wp_region_lit ?_
        refine wl_y rfl HF rfl rfl (yl_move rfl (HF.ev rfl)) ?_; clear HF; clear a; intro a HF
        refine wl_y rfl HF rfl rfl (yl_addI rfl (HF.ev rfl) (HF.ev rfl) (i64w (by omega))) ?_; clear HF; clear a; intro a HF
        refine wl_y rfl HF rfl rfl (yl_assign rfl (HF.ev rfl)) ?_; clear HF; clear a; intro a HF
        refine wpList_nil ?_
        refine ex_then ?_
        have hskip : ((ps.getD k default).d.fGone || !(wanted.getD k false)) = true := by rw [← hgk]; rw [cc2, Bool.false_or]; exact cc3
        have hnext : eachTo (stepPut row (fun i => cols.getD i ByteArray.empty) (fun i => wanted.getD i false)) (dsOf ps) (k + 1) = some (dsOf (qs.take (k + 1))) := by rw [dsOf_take_succ _ _ (by omega)]; refine eachTo_next hq ?_; rw [dsOf_get, stepPut_skip hskip, hgk]
        replace HS := Bx.mk ((((((((HS.out).pick 5 rfl).pick 5 rfl).pick 5 rfl).pick 5 rfl).pick 5 rfl).pick 5 rfl))
        exact ⟨k + 1, ⟨qs, ⟨by omega, hql, hnext, by rw [← List.drop_drop, ← List.drop_drop, hqd0]⟩, HF.less _ ⟨rfl, rfl, rfl, rfl, rfl, rfl, rfl, trivial⟩, HS.out⟩, (by omega)⟩
      · clear HF; have HF := HF1; clear HF1
        refine wc_false HF rfl ?_
        refine wp_skip ?_
        refine ex_then ?_
        refine wp_seq ?_
        refine wr_heldS (s := rowA HD.cells 3 44 (.slice (some ⟨g, 0, none⟩) ps.length c0) qs :: rowA encS 1 9 (.slice (some ⟨gc, 0, none⟩) cols.length cc) cols :: rowA encL 1 4 (.slice (some ⟨gb, 0, none⟩) wanted.length cb) wanted :: boxA b2 1 25 (.agg #[.slice none 0 0]) :: boxA b1 1 25 (.agg #[.slice (some ⟨g, 0, none⟩) ps.length c0]) :: F) (by kernel_rfl) (St.drew ((HS.out.erase 1))) ?_
        have HS2 := Bx.mk HS.out.drew; replace HS := Bx.mk (show St w0 (rowA HD.cells 3 44 (.slice (some ⟨g, 0, none⟩) ps.length c0) qs :: rowA encS 1 9 (.slice (some ⟨gc, 0, none⟩) cols.length cc) cols :: rowA encL 1 4 (.slice (some ⟨gb, 0, none⟩) wanted.length cb) wanted :: boxA b2 1 25 (.agg #[.slice none 0 0]) :: boxA b1 1 25 (.agg #[.slice (some ⟨g, 0, none⟩) ps.length c0]) :: F) _ from (HS.out.drew.erase 1))
        generalize World.drew _ = w4 at HS HS2 ⊢
        refine wh_y 0 rfl (by kernel_rfl) (by kernel_rfl) (by kernel_rfl) (fun _ _ _ h => h) rfl HF rfl rfl (fun _ HS => (yl_fieldAddr (j := 0) rfl (HF.ev rfl) (by kernel_rfl))) HS.out ?_; clear HF; clear a; intro a HF
        refine wh_y 1 rfl (by kernel_rfl) (by kernel_rfl) (by kernel_rfl) (fun _ _ _ h => h) rfl HF rfl rfl (fun _ HS => (yl_load (v := .slice (some ⟨g, 0, none⟩) ps.length c0) rfl (HF.ev rfl) (((HS.box 4 rfl).cell 0).trans rfl) (by kernel_rfl))) HS.out ?_; clear HF; clear a; intro a HF
        refine wh_y 2 rfl (by kernel_rfl) (by kernel_rfl) (by kernel_rfl) (fun _ _ _ h => h) rfl HF rfl rfl (fun _ HS => (yl_move rfl (HF.ev rfl))) HS.out ?_; clear HF; clear a; intro a HF
        refine wh_y 3 rfl (by kernel_rfl) (by kernel_rfl) (by kernel_rfl) (fun _ _ _ h => h) rfl HF rfl rfl (fun _ HS => (yl_indexAddr (e := 44) (i := k) (size := 3) rfl (HF.ev rfl) (HF.ev rfl) (by kernel_rfl) rfl (by omega))) HS.out ?_; clear HF; clear a; intro a HF
        refine wh_y 4 rfl (by kernel_rfl) (by kernel_rfl) (by kernel_rfl) (fun _ _ _ h => h) rfl HF rfl rfl (fun _ HS => (yl_loadR (cs := [.slice ((qs.getD k default).a0) ((qs.getD k default).d.fCells.length) ((qs.getD k default).c0), .slice ((qs.getD k default).a1) ((qs.getD k default).d.fWaits.length) ((qs.getD k default).c1), .bool ((qs.getD k default).d.fGone)]) rfl (HF.ev rfl) (HS.elem HD.cells_len 0 rfl (get_getD (xs := qs) (j := k) (d := default) (by omega))) (by kernel_rfl))) HS.out ?_; clear HF; clear a; intro a HF
        refine wh_y 5 rfl (by kernel_rfl) (by kernel_rfl) (by kernel_rfl) (fun _ _ _ h => h) rfl HF rfl rfl (fun _ HS => (yl_move rfl (HF.ev rfl))) HS.out ?_; clear HF; clear a; intro a HF
        refine wh_y 6 rfl (by kernel_rfl) (by kernel_rfl) (by kernel_rfl) (fun _ _ _ h => h) rfl HF rfl rfl (fun _ HS => (yl_move rfl (HF.ev rfl))) HS.out ?_; clear HF; clear a; intro a HF
        refine wh_y 7 rfl (by kernel_rfl) (by kernel_rfl) (by kernel_rfl) (fun _ _ _ h => h) rfl HF rfl rfl (fun _ HS => (yl_move rfl (HF.ev rfl))) HS.out ?_; clear HF; clear a; intro a HF
        refine wh_y 8 rfl (by kernel_rfl) (by kernel_rfl) (by kernel_rfl) (fun _ _ _ h => h) rfl HF rfl rfl (fun _ HS => (yl_indexAddr (e := 9) (i := k) (size := 1) rfl (HF.ev rfl) (HF.ev rfl) (by kernel_rfl) rfl (by omega))) HS.out ?_; clear HF; clear a; intro a HF
        refine wh_y 9 rfl (by kernel_rfl) (by kernel_rfl) (by kernel_rfl) (fun _ _ _ h => h) rfl HF rfl rfl (fun _ HS => (yl_load (v := .string (cols.getD k ByteArray.empty)) rfl (HF.ev rfl) (HS.elem1 encS_len 1 rfl (get_getD (xs := cols) (j := k) (d := ByteArray.empty) (by omega)) rfl) (by kernel_rfl))) HS.out ?_; clear HF; clear a; intro a HF
        refine wh_two 10 14 (by kernel_rfl) ?_ ?_
        · skip
          replace HS2 := Bx.mk ((HS2.out.pick 1 rfl).hdOut k (by omega))
          replace HS2 : Bx (St w0 (HD.asr (qs.getD k default) :: sepA ((qs.eraseIdx k).map HD.asr) :: rowA HD.cells 3 44 (.slice (some ⟨g, 0, none⟩) ps.length c0) qs :: rowA encS 1 9 (.slice (some ⟨gc, 0, none⟩) cols.length cc) cols :: rowA encL 1 4 (.slice (some ⟨gb, 0, none⟩) wanted.length cb) wanted :: boxA b2 1 25 (.agg #[.slice none 0 0]) :: boxA b1 1 25 (.agg #[.slice (some ⟨g, 0, none⟩) ps.length c0]) :: F) _) := ⟨HS2.out⟩
          refine wo_call rfl rfl HF rfl (enter_of Try.func123 (by kernel_rfl) rfl) (args := #[.agg #[.slice ((qs.getD k default).a0) ((qs.getD k default).d.fCells.length) ((qs.getD k default).c0), .slice ((qs.getD k default).a1) ((qs.getD k default).d.fWaits.length) ((qs.getD k default).c1), .bool ((qs.getD k default).d.fGone)], .int .i64 row, .string (cols.getD k ByteArray.empty)]) rfl (l3WriteH_any w0 _ (qs.getD k default) row (cols.getD k ByteArray.empty) _ hqw (hct k) HS2.out) rfl rfl ?_
          rintro _ w5 ⟨q, hqd, rfl, hs⟩; refine ⟨_, rfl, ?_⟩; replace HS2 := Bx.mk hs; clear hs HF; clear a; intro a HF
          replace HS2 : Bx (St w0 (HD.asr q :: sepA ((qs.eraseIdx k).map HD.asr) :: rowA HD.cells 3 44 (.slice (some ⟨g, 0, none⟩) ps.length c0) qs :: rowA encS 1 9 (.slice (some ⟨gc, 0, none⟩) cols.length cc) cols :: rowA encL 1 4 (.slice (some ⟨gb, 0, none⟩) wanted.length cb) wanted :: boxA b2 1 25 (.agg #[.slice none 0 0]) :: boxA b1 1 25 (.agg #[.slice (some ⟨g, 0, none⟩) ps.length c0]) :: F) _) := ⟨HS2.out⟩
          clear HS; have HS : Bx (St w0 (rowA HD.cells 3 44 (.slice (some ⟨g, 0, none⟩) ps.length c0) qs :: rowA encS 1 9 (.slice (some ⟨gc, 0, none⟩) cols.length cc) cols :: rowA encL 1 4 (.slice (some ⟨gb, 0, none⟩) wanted.length cb) wanted :: boxA b2 1 25 (.agg #[.slice none 0 0]) :: boxA b1 1 25 (.agg #[.slice (some ⟨g, 0, none⟩) ps.length c0]) :: F) _) := ⟨((HS2.out.erase 1).erase 0)⟩; refine ⟨HS.out, ?_⟩
          refine wh_y 11 rfl (by kernel_rfl) (by kernel_rfl) (by kernel_rfl) (fun _ _ _ h => h) rfl HF rfl rfl (fun _ HS => (yl_move rfl (HF.ev rfl))) HS.out ?_; clear HF; clear a; intro a HF
          refine wh_y 12 rfl (by kernel_rfl) (by kernel_rfl) (by kernel_rfl) (fun _ _ _ h => h) rfl HF rfl rfl (fun _ HS => (yl_extract rfl (HF.ev rfl) rfl)) HS.out ?_; clear HF; clear a; intro a HF
          refine wh_y 13 rfl (by kernel_rfl) (by kernel_rfl) (by kernel_rfl) (fun _ _ _ h => h) rfl HF rfl rfl (fun _ HS => (yl_extract rfl (HF.ev rfl) rfl)) HS.out ?_; clear HF; clear a; intro a HF
          refine wh_one 14 (by kernel_rfl) ?_
          refine wo_alloc rfl rfl HF rfl rfl rfl (Z := [.slice none 0 0, .slice none 0 0, .bool false]) (by kernel_rfl) rfl HS2.out HS.out ?_; clear HF HS HS2; clear a; intro a w6 b3 HF HS2 HS; replace HS := Bx.mk HS; replace HS2 := Bx.mk HS2; refine ⟨HS.out, ?_⟩
          refine wh_one 15 (by kernel_rfl) ?_
          refine wo_storeBox rfl rfl rfl rfl (HF.ev rfl) (HF.ev rfl) HS2.out 0 rfl (cells_lit [.slice q.a0 q.d.fCells.length q.c0, .slice q.a1 q.d.fWaits.length q.c1, .bool q.d.fGone] rfl rfl) (by kernel_rfl) ?_
          clear HS HS2; intro w7 HS2; replace HS2 : Bx (St w0 (boxA b3 3 44 (.agg #[.slice q.a0 q.d.fCells.length q.c0, .slice q.a1 q.d.fWaits.length q.c1, .bool q.d.fGone]) :: HD.asr q :: sepA ((qs.eraseIdx k).map HD.asr) :: rowA HD.cells 3 44 (.slice (some ⟨g, 0, none⟩) ps.length c0) qs :: rowA encS 1 9 (.slice (some ⟨gc, 0, none⟩) cols.length cc) cols :: rowA encL 1 4 (.slice (some ⟨gb, 0, none⟩) wanted.length cb) wanted :: boxA b2 1 25 (.agg #[.slice none 0 0]) :: boxA b1 1 25 (.agg #[.slice (some ⟨g, 0, none⟩) ps.length c0]) :: F) _) := ⟨HS2⟩
          have HS : Bx (St w0 (rowA HD.cells 3 44 (.slice (some ⟨g, 0, none⟩) ps.length c0) qs :: rowA encS 1 9 (.slice (some ⟨gc, 0, none⟩) cols.length cc) cols :: rowA encL 1 4 (.slice (some ⟨gb, 0, none⟩) wanted.length cb) wanted :: boxA b2 1 25 (.agg #[.slice none 0 0]) :: boxA b1 1 25 (.agg #[.slice (some ⟨g, 0, none⟩) ps.length c0]) :: F) _) := ⟨(((HS2.out.erase 2).erase 1).erase 0)⟩; refine ⟨HS.out, ?_⟩
          refine wh_y 16 rfl (by kernel_rfl) (by kernel_rfl) (by kernel_rfl) (fun _ _ _ h => h) rfl HF rfl rfl (fun _ HS => (yl_assign rfl (HF.ev rfl))) HS.out ?_; clear HF; clear a; intro a HF
          refine wh_done (by kernel_rfl) ?_
          replace HS := HS2; clear HS2
          refine ex_then ?_
          refine wp_seq ?_
          refine wp_seq ?_
          refine wp_region_lit ?_
          refine wl_y rfl HF rfl rfl (yl_move rfl (HF.ev rfl)) ?_; clear HF; clear a; intro a HF
          refine wl_y rfl HF rfl rfl (yl_not rfl (HF.ev rfl)) ?_; clear HF; clear a; intro a HF
          refine wpList_nil ?_
          refine ex_then ?_
          refine HF.cases 48 rfl (fun cc4 HF1 => ?_) (fun cc4 HF1 => ?_)
          · clear HF; have HF := HF1; clear HF1
            refine wc_true HF rfl ?_
            refine wp_seq ?_
            refine wp_region_lit ?_
            refine wl_y rfl HF rfl rfl (yl_build HF rfl (ps := []) rfl (cs := #[.slice none 0 0]) (by kernel_rfl)) ?_; clear HF; clear a; intro a HF
            refine wl_storeBox rfl HF rfl rfl (HF.ev rfl) (HF.ev rfl) HS.out 6 rfl (cells_lit [.slice none 0 0] rfl rfl) (by kernel_rfl) ?_; clear HS; intro w8 HS; replace HS := Bx.mk HS
            have HS : Bx (St w0 (boxA b3 3 44 (.agg #[.slice q.a0 q.d.fCells.length q.c0, .slice q.a1 q.d.fWaits.length q.c1, .bool q.d.fGone]) :: HD.asr q :: sepA ((qs.eraseIdx k).map HD.asr) :: rowA HD.cells 3 44 (.slice (some ⟨g, 0, none⟩) ps.length c0) qs :: rowA encS 1 9 (.slice (some ⟨gc, 0, none⟩) cols.length cc) cols :: rowA encL 1 4 (.slice (some ⟨gb, 0, none⟩) wanted.length cb) wanted :: boxA b2 1 25 (.agg #[.slice none 0 0]) :: boxA b1 1 25 (.agg #[.slice (some ⟨g, 0, none⟩) ps.length c0]) :: F) _) := HS
            refine wl_y rfl HF rfl rfl (yl_assign rfl (HF.ev rfl)) ?_; clear HF; clear a; intro a HF
            refine wpList_nil ?_
            refine ex_then ?_
            refine wp_ret ?_
            refine ex_then_ret ?_
            refine ex_block_ret ?_
            refine ex_then_ret ?_
            refine ex_then_ret ?_
            refine ex_block_ret ?_
            refine ex_then_ret ?_
            refine bp_ret2 HF Try.results54 (HF.resBox rfl (HS.out.box 6 rfl) (by kernel_rfl)) (HF.res rfl) ?_
            replace HS : Bx (St w0 (rowA encS 1 9 (.slice (some ⟨gc, 0, none⟩) cols.length cc) cols :: rowA encL 1 4 (.slice (some ⟨gb, 0, none⟩) wanted.length cb) wanted :: boxA b3 3 44 (.agg #[.slice q.a0 q.d.fCells.length q.c0, .slice q.a1 q.d.fWaits.length q.c1, .bool q.d.fGone]) :: HD.asr q :: sepA ((qs.eraseIdx k).map HD.asr) :: rowA HD.cells 3 44 (.slice (some ⟨g, 0, none⟩) ps.length c0) qs :: boxA b2 1 25 (.agg #[.slice none 0 0]) :: boxA b1 1 25 (.agg #[.slice (some ⟨g, 0, none⟩) ps.length c0]) :: F) _) := ⟨((HS.out).pick 5 rfl).pick 5 rfl⟩
            have hgone := cc2; have hwant := cc3; have hcan := cc4
            rw [hgk] at hgone hcan
            exact .inl ⟨eachTo_fail (k := k) (by rw [dsOf_get]; exact stepPut_fail hgone (by simpa using hwant) (by simpa using hcan)) (by omega), rfl, ((((((HS.out.erase 7).erase 6).erase 5).erase 4).erase 3).erase 2)⟩
          · clear HF; have HF := HF1; clear HF1
            refine wc_false HF rfl ?_
            refine wp_skip ?_
            refine ex_then ?_
            refine wp_region_lit ?_
            refine wl_y rfl HF rfl rfl (yl_fieldAddr (j := 0) rfl (HF.ev rfl) (by kernel_rfl)) ?_; clear HF; clear a; intro a HF
            refine wl_y rfl HF rfl rfl (yl_load (v := .slice (some ⟨g, 0, none⟩) ps.length c0) rfl (HF.ev rfl) (((HS.out.box 7 rfl).cell 0).trans rfl) (by kernel_rfl)) ?_; clear HF; clear a; intro a HF
            refine wl_y rfl HF rfl rfl (yl_move rfl (HF.ev rfl)) ?_; clear HF; clear a; intro a HF
            refine wl_y rfl HF rfl rfl (yl_loadR (cs := [.slice q.a0 q.d.fCells.length q.c0, .slice q.a1 q.d.fWaits.length q.c1, .bool q.d.fGone]) rfl (HF.ev rfl) ((HS.out.box 0 rfl).sub 0 3) (by kernel_rfl)) ?_; clear HF; clear a; intro a HF
            refine wl_y rfl HF rfl rfl (yl_indexAddr (e := 44) (i := k) (size := 3) rfl (HF.ev rfl) (HF.ev rfl) (by kernel_rfl) rfl (by omega)) ?_; clear HF; clear a; intro a HF
            refine wl_storeEn HD.cells_len rfl rfl rfl (HF.ev rfl) (HF.ev rfl) (by kernel_rfl) HS.out 3 rfl (by omega) (z := q) rfl (by first | rfl | simp [Value.oneCell']) ?_; clear HS; intro w9 HS; replace HS := Bx.mk HS
            refine wpList_nil ?_
            refine ex_block ?_
            refine ex_then ?_
            refine wp_region_lit ?_
            refine wl_y rfl HF rfl rfl (yl_move rfl (HF.ev rfl)) ?_; clear HF; clear a; intro a HF
            refine wl_y rfl HF rfl rfl (yl_addI rfl (HF.ev rfl) (HF.ev rfl) (i64w (by omega))) ?_; clear HF; clear a; intro a HF
            refine wl_y rfl HF rfl rfl (yl_assign rfl (HF.ev rfl)) ?_; clear HF; clear a; intro a HF
            refine wpList_nil ?_
            refine ex_then ?_
            replace HS := Bx.mk (St.hdIn (((HS.out).pick 2 rfl).pick 2 rfl) (by omega))
            have hcan : (ps.getD k default).d.can row (cols.getD k ByteArray.empty) = true := by rw [hgk] at cc4; simpa using cc4
            have hgone : (ps.getD k default).d.fGone = false := by rw [hgk] at cc2; exact cc2
            have hwant : wanted.getD k false = true := by simpa using cc3
            rw [hgk, hcan, if_pos rfl] at hqd
            have hnext : eachTo (stepPut row (fun i => cols.getD i ByteArray.empty) (fun i => wanted.getD i false)) (dsOf ps) (k + 1) = some (dsOf ((qs.set k q).take (k + 1))) := by rw [take_set_succ _ _ _ (by omega), dsOf_append]; refine eachTo_next (x := q.d) hq ?_; rw [dsOf_get, stepPut_put hgone hwant hcan, ← hqd]
            replace HS := Bx.mk (((((((((HS.out).pick 6 rfl).pick 6 rfl).pick 6 rfl).pick 6 rfl).pick 4 rfl).pick 6 rfl).erase 6))
            exact ⟨k + 1, ⟨qs.set k q, ⟨by omega, by rw [List.length_set]; exact hql, hnext, by rw [drop_set_succ, ← List.drop_drop, ← List.drop_drop, hqd0]⟩, HF.less _ ⟨rfl, rfl, rfl, rfl, rfl, rfl, rfl, trivial⟩, HS.out⟩, (by omega)⟩
        · skip
          refine wo_alloc rfl rfl HF rfl rfl rfl (Z := [.slice none 0 0, .slice none 0 0, .bool false]) (by kernel_rfl) rfl HS2.out HS.out ?_; clear HF HS HS2; clear a; intro a w10 b4 HF HS2 HS; replace HS := Bx.mk HS; replace HS2 := Bx.mk HS2; refine ⟨HS.out, ?_⟩
          refine wh_one 10 (by kernel_rfl) ?_
          replace HS2 := Bx.mk ((HS2.out.pick 2 rfl).hdOut k (by omega))
          replace HS2 : Bx (St w0 (HD.asr (qs.getD k default) :: sepA ((qs.eraseIdx k).map HD.asr) :: boxA b4 3 44 (.agg #[.slice none 0 0, .slice none 0 0, .bool false]) :: rowA HD.cells 3 44 (.slice (some ⟨g, 0, none⟩) ps.length c0) qs :: rowA encS 1 9 (.slice (some ⟨gc, 0, none⟩) cols.length cc) cols :: rowA encL 1 4 (.slice (some ⟨gb, 0, none⟩) wanted.length cb) wanted :: boxA b2 1 25 (.agg #[.slice none 0 0]) :: boxA b1 1 25 (.agg #[.slice (some ⟨g, 0, none⟩) ps.length c0]) :: F) _) := ⟨HS2.out⟩
          refine wo_call rfl rfl HF rfl (enter_of Try.func123 (by kernel_rfl) rfl) (args := #[.agg #[.slice ((qs.getD k default).a0) ((qs.getD k default).d.fCells.length) ((qs.getD k default).c0), .slice ((qs.getD k default).a1) ((qs.getD k default).d.fWaits.length) ((qs.getD k default).c1), .bool ((qs.getD k default).d.fGone)], .int .i64 row, .string (cols.getD k ByteArray.empty)]) rfl (l3WriteH_any w0 _ (qs.getD k default) row (cols.getD k ByteArray.empty) _ hqw (hct k) HS2.out) rfl rfl ?_
          rintro _ w11 ⟨q, hqd, rfl, hs⟩; refine ⟨_, rfl, ?_⟩; replace HS2 := Bx.mk hs; clear hs HF; clear a; intro a HF
          replace HS2 : Bx (St w0 (HD.asr q :: sepA ((qs.eraseIdx k).map HD.asr) :: boxA b4 3 44 (.agg #[.slice none 0 0, .slice none 0 0, .bool false]) :: rowA HD.cells 3 44 (.slice (some ⟨g, 0, none⟩) ps.length c0) qs :: rowA encS 1 9 (.slice (some ⟨gc, 0, none⟩) cols.length cc) cols :: rowA encL 1 4 (.slice (some ⟨gb, 0, none⟩) wanted.length cb) wanted :: boxA b2 1 25 (.agg #[.slice none 0 0]) :: boxA b1 1 25 (.agg #[.slice (some ⟨g, 0, none⟩) ps.length c0]) :: F) _) := ⟨HS2.out⟩
          clear HS; have HS : Bx (St w0 (rowA HD.cells 3 44 (.slice (some ⟨g, 0, none⟩) ps.length c0) qs :: rowA encS 1 9 (.slice (some ⟨gc, 0, none⟩) cols.length cc) cols :: rowA encL 1 4 (.slice (some ⟨gb, 0, none⟩) wanted.length cb) wanted :: boxA b2 1 25 (.agg #[.slice none 0 0]) :: boxA b1 1 25 (.agg #[.slice (some ⟨g, 0, none⟩) ps.length c0]) :: F) _) := ⟨(((HS2.out.erase 2).erase 1).erase 0)⟩; refine ⟨HS.out, ?_⟩
          refine wh_y 11 rfl (by kernel_rfl) (by kernel_rfl) (by kernel_rfl) (fun _ _ _ h => h) rfl HF rfl rfl (fun _ HS => (yl_move rfl (HF.ev rfl))) HS.out ?_; clear HF; clear a; intro a HF
          refine wh_y 12 rfl (by kernel_rfl) (by kernel_rfl) (by kernel_rfl) (fun _ _ _ h => h) rfl HF rfl rfl (fun _ HS => (yl_extract rfl (HF.ev rfl) rfl)) HS.out ?_; clear HF; clear a; intro a HF
          refine wh_y 13 rfl (by kernel_rfl) (by kernel_rfl) (by kernel_rfl) (fun _ _ _ h => h) rfl HF rfl rfl (fun _ HS => (yl_extract rfl (HF.ev rfl) rfl)) HS.out ?_; clear HF; clear a; intro a HF
          refine wh_one 15 (by kernel_rfl) ?_
          refine wo_storeBox rfl rfl rfl rfl (HF.ev rfl) (HF.ev rfl) HS2.out 2 rfl (cells_lit [.slice q.a0 q.d.fCells.length q.c0, .slice q.a1 q.d.fWaits.length q.c1, .bool q.d.fGone] rfl rfl) (by kernel_rfl) ?_
          clear HS HS2; intro w12 HS2; replace HS2 : Bx (St w0 (HD.asr q :: sepA ((qs.eraseIdx k).map HD.asr) :: boxA b4 3 44 (.agg #[.slice q.a0 q.d.fCells.length q.c0, .slice q.a1 q.d.fWaits.length q.c1, .bool q.d.fGone]) :: rowA HD.cells 3 44 (.slice (some ⟨g, 0, none⟩) ps.length c0) qs :: rowA encS 1 9 (.slice (some ⟨gc, 0, none⟩) cols.length cc) cols :: rowA encL 1 4 (.slice (some ⟨gb, 0, none⟩) wanted.length cb) wanted :: boxA b2 1 25 (.agg #[.slice none 0 0]) :: boxA b1 1 25 (.agg #[.slice (some ⟨g, 0, none⟩) ps.length c0]) :: F) _) := ⟨HS2⟩
          have HS : Bx (St w0 (rowA HD.cells 3 44 (.slice (some ⟨g, 0, none⟩) ps.length c0) qs :: rowA encS 1 9 (.slice (some ⟨gc, 0, none⟩) cols.length cc) cols :: rowA encL 1 4 (.slice (some ⟨gb, 0, none⟩) wanted.length cb) wanted :: boxA b2 1 25 (.agg #[.slice none 0 0]) :: boxA b1 1 25 (.agg #[.slice (some ⟨g, 0, none⟩) ps.length c0]) :: F) _) := ⟨(((HS2.out.erase 2).erase 1).erase 0)⟩; refine ⟨HS.out, ?_⟩
          refine wh_y 16 rfl (by kernel_rfl) (by kernel_rfl) (by kernel_rfl) (fun _ _ _ h => h) rfl HF rfl rfl (fun _ HS => (yl_assign rfl (HF.ev rfl))) HS.out ?_; clear HF; clear a; intro a HF
          refine wh_done (by kernel_rfl) ?_
          replace HS := HS2; clear HS2
          refine ex_then ?_
          refine wp_seq ?_
          refine wp_seq ?_
          refine wp_region_lit ?_
          refine wl_y rfl HF rfl rfl (yl_move rfl (HF.ev rfl)) ?_; clear HF; clear a; intro a HF
          refine wl_y rfl HF rfl rfl (yl_not rfl (HF.ev rfl)) ?_; clear HF; clear a; intro a HF
          refine wpList_nil ?_
          refine ex_then ?_
          refine HF.cases 48 rfl (fun cc5 HF1 => ?_) (fun cc5 HF1 => ?_)
          · clear HF; have HF := HF1; clear HF1
            refine wc_true HF rfl ?_
            refine wp_seq ?_
            refine wp_region_lit ?_
            refine wl_y rfl HF rfl rfl (yl_build HF rfl (ps := []) rfl (cs := #[.slice none 0 0]) (by kernel_rfl)) ?_; clear HF; clear a; intro a HF
            refine wl_storeBox rfl HF rfl rfl (HF.ev rfl) (HF.ev rfl) HS.out 6 rfl (cells_lit [.slice none 0 0] rfl rfl) (by kernel_rfl) ?_; clear HS; intro w13 HS; replace HS := Bx.mk HS
            have HS : Bx (St w0 (HD.asr q :: sepA ((qs.eraseIdx k).map HD.asr) :: boxA b4 3 44 (.agg #[.slice q.a0 q.d.fCells.length q.c0, .slice q.a1 q.d.fWaits.length q.c1, .bool q.d.fGone]) :: rowA HD.cells 3 44 (.slice (some ⟨g, 0, none⟩) ps.length c0) qs :: rowA encS 1 9 (.slice (some ⟨gc, 0, none⟩) cols.length cc) cols :: rowA encL 1 4 (.slice (some ⟨gb, 0, none⟩) wanted.length cb) wanted :: boxA b2 1 25 (.agg #[.slice none 0 0]) :: boxA b1 1 25 (.agg #[.slice (some ⟨g, 0, none⟩) ps.length c0]) :: F) _) := HS
            refine wl_y rfl HF rfl rfl (yl_assign rfl (HF.ev rfl)) ?_; clear HF; clear a; intro a HF
            refine wpList_nil ?_
            refine ex_then ?_
            refine wp_ret ?_
            refine ex_then_ret ?_
            refine ex_block_ret ?_
            refine ex_then_ret ?_
            refine ex_then_ret ?_
            refine ex_block_ret ?_
            refine ex_then_ret ?_
            refine bp_ret2 HF Try.results54 (HF.resBox rfl (HS.out.box 6 rfl) (by kernel_rfl)) (HF.res rfl) ?_
            replace HS : Bx (St w0 (rowA encS 1 9 (.slice (some ⟨gc, 0, none⟩) cols.length cc) cols :: rowA encL 1 4 (.slice (some ⟨gb, 0, none⟩) wanted.length cb) wanted :: HD.asr q :: sepA ((qs.eraseIdx k).map HD.asr) :: boxA b4 3 44 (.agg #[.slice q.a0 q.d.fCells.length q.c0, .slice q.a1 q.d.fWaits.length q.c1, .bool q.d.fGone]) :: rowA HD.cells 3 44 (.slice (some ⟨g, 0, none⟩) ps.length c0) qs :: boxA b2 1 25 (.agg #[.slice none 0 0]) :: boxA b1 1 25 (.agg #[.slice (some ⟨g, 0, none⟩) ps.length c0]) :: F) _) := ⟨((HS.out).pick 5 rfl).pick 5 rfl⟩
            have hgone := cc2; have hwant := cc3; have hcan := cc5
            rw [hgk] at hgone hcan
            exact .inl ⟨eachTo_fail (k := k) (by rw [dsOf_get]; exact stepPut_fail hgone (by simpa using hwant) (by simpa using hcan)) (by omega), rfl, ((((((HS.out.erase 7).erase 6).erase 5).erase 4).erase 3).erase 2)⟩
          · clear HF; have HF := HF1; clear HF1
            refine wc_false HF rfl ?_
            refine wp_skip ?_
            refine ex_then ?_
            refine wp_region_lit ?_
            refine wl_y rfl HF rfl rfl (yl_fieldAddr (j := 0) rfl (HF.ev rfl) (by kernel_rfl)) ?_; clear HF; clear a; intro a HF
            refine wl_y rfl HF rfl rfl (yl_load (v := .slice (some ⟨g, 0, none⟩) ps.length c0) rfl (HF.ev rfl) (((HS.out.box 7 rfl).cell 0).trans rfl) (by kernel_rfl)) ?_; clear HF; clear a; intro a HF
            refine wl_y rfl HF rfl rfl (yl_move rfl (HF.ev rfl)) ?_; clear HF; clear a; intro a HF
            refine wl_y rfl HF rfl rfl (yl_loadR (cs := [.slice q.a0 q.d.fCells.length q.c0, .slice q.a1 q.d.fWaits.length q.c1, .bool q.d.fGone]) rfl (HF.ev rfl) ((HS.out.box 2 rfl).sub 0 3) (by kernel_rfl)) ?_; clear HF; clear a; intro a HF
            refine wl_y rfl HF rfl rfl (yl_indexAddr (e := 44) (i := k) (size := 3) rfl (HF.ev rfl) (HF.ev rfl) (by kernel_rfl) rfl (by omega)) ?_; clear HF; clear a; intro a HF
            refine wl_storeEn HD.cells_len rfl rfl rfl (HF.ev rfl) (HF.ev rfl) (by kernel_rfl) HS.out 3 rfl (by omega) (z := q) rfl (by first | rfl | simp [Value.oneCell']) ?_; clear HS; intro w14 HS; replace HS := Bx.mk HS
            refine wpList_nil ?_
            refine ex_block ?_
            refine ex_then ?_
            refine wp_region_lit ?_
            refine wl_y rfl HF rfl rfl (yl_move rfl (HF.ev rfl)) ?_; clear HF; clear a; intro a HF
            refine wl_y rfl HF rfl rfl (yl_addI rfl (HF.ev rfl) (HF.ev rfl) (i64w (by omega))) ?_; clear HF; clear a; intro a HF
            refine wl_y rfl HF rfl rfl (yl_assign rfl (HF.ev rfl)) ?_; clear HF; clear a; intro a HF
            refine wpList_nil ?_
            refine ex_then ?_
            replace HS := Bx.mk (St.hdIn (((HS.out).pick 1 rfl).pick 1 rfl) (by omega))
            have hcan : (ps.getD k default).d.can row (cols.getD k ByteArray.empty) = true := by rw [hgk] at cc5; simpa using cc5
            have hgone : (ps.getD k default).d.fGone = false := by rw [hgk] at cc2; exact cc2
            have hwant : wanted.getD k false = true := by simpa using cc3
            rw [hgk, hcan, if_pos rfl] at hqd
            have hnext : eachTo (stepPut row (fun i => cols.getD i ByteArray.empty) (fun i => wanted.getD i false)) (dsOf ps) (k + 1) = some (dsOf ((qs.set k q).take (k + 1))) := by rw [take_set_succ _ _ _ (by omega), dsOf_append]; refine eachTo_next (x := q.d) hq ?_; rw [dsOf_get, stepPut_put hgone hwant hcan, ← hqd]
            replace HS := Bx.mk (((((((((HS.out).pick 6 rfl).pick 6 rfl).pick 6 rfl).pick 6 rfl).pick 4 rfl).pick 6 rfl).erase 6))
            exact ⟨k + 1, ⟨qs.set k q, ⟨by omega, by rw [List.length_set]; exact hql, hnext, by rw [drop_set_succ, ← List.drop_drop, ← List.drop_drop, hqd0]⟩, HF.less _ ⟨rfl, rfl, rfl, rfl, rfl, rfl, rfl, trivial⟩, HS.out⟩, (by omega)⟩
  · clear HF; have HF := HF1; clear HF1
    have dcc1 := of_decide_eq_false cc1
    refine wc_false HF rfl ?_
    refine wp_exit ?_
    refine ex_then_exit ?_
    refine ex_then_exit ?_
    refine ex_block_hit ?_
    refine ex_then ?_
    refine wp_seq ?_
    refine wp_region_lit ?_
    refine wl_y rfl HF rfl rfl (yl_loadR (cs := [.slice (some ⟨g, 0, none⟩) ps.length c0]) rfl (HF.ev rfl) ((HS.out.box 5 rfl).sub 0 1) (by kernel_rfl)) ?_; clear HF; clear a; intro a HF
    refine wl_storeBox rfl HF rfl rfl (HF.ev rfl) (HF.ev rfl) HS.out 4 rfl (cells_lit [.slice (some ⟨g, 0, none⟩) ps.length c0] rfl rfl) (by kernel_rfl) ?_; clear HS; intro w15 HS; replace HS := Bx.mk HS
    have HS : Bx (St w0 (rowA HD.cells 3 44 (.slice (some ⟨g, 0, none⟩) ps.length c0) qs :: sepA (qs.map HD.asr) :: rowA encS 1 9 (.slice (some ⟨gc, 0, none⟩) cols.length cc) cols :: rowA encL 1 4 (.slice (some ⟨gb, 0, none⟩) wanted.length cb) wanted :: boxA b2 1 25 (.agg #[.slice (some ⟨g, 0, none⟩) ps.length c0]) :: boxA b1 1 25 (.agg #[.slice (some ⟨g, 0, none⟩) ps.length c0]) :: F) _) := HS
    refine wl_y rfl HF rfl rfl (yl_assign rfl (HF.ev rfl)) ?_; clear HF; clear a; intro a HF
    refine wpList_nil ?_
    refine ex_then ?_
    refine wp_ret ?_
    refine bp_ret2 HF Try.results54 (HF.resBox rfl (HS.out.box 4 rfl) (by kernel_rfl)) (HF.res rfl) ?_
    replace HS : Bx (St w0 (rowA HD.cells 3 44 (.slice (some ⟨g, 0, none⟩) ps.length c0) qs :: sepA (qs.map HD.asr) :: rowA encS 1 9 (.slice (some ⟨gc, 0, none⟩) cols.length cc) cols :: rowA encL 1 4 (.slice (some ⟨gb, 0, none⟩) wanted.length cb) wanted :: boxA b2 1 25 (.agg #[.slice (some ⟨g, 0, none⟩) ps.length c0]) :: boxA b1 1 25 (.agg #[.slice (some ⟨g, 0, none⟩) ps.length c0]) :: F) _) := ⟨((((HS.out).pick 3 rfl).pick 3 rfl).pick 3 rfl).pick 3 rfl⟩
    obtain rfl : k = ps.length := by omega
    rw [← hql, List.take_length] at hq
    rw [hql] at hq
    exact .inr ⟨qs, hq, rfl, ((HS.out.erase 5).erase 4)⟩

end Go.Proofs.Ytfijfjjleelphaa

/- Reading a set of disks, by the reference. -/
namespace Go.Proofs.Ytfijfjjleelphaa
open Go.RowKit

def PtrD.fits (p : PtrD) (t : ByteArray) : Bool := (bif p.ok then (bif !p.hole then (bif (p.fSize == (t.size : Int)) then (p.fSum == (sumOf t)) else false) else false) else false)

set_option maxHeartbeats 1000000 in
set_option maxRecDepth 100000 in
theorem implFits_any (p : PtrD) (t : ByteArray) (w0 : World) (ht : t.size ≤ 9223372036854775806) : Calls Try.prog 20 #[.agg #[.int .i64 p.fAt, .int .i64 p.fBirth, .int .i64 p.fSize, .int .i64 p.fSum, .int .i64 p.fLevel], .string t] w0 fun e w' => e = .returned (.bool (p.fits t)) ∧ Below w0.heap.size w0 w' := by
  have HS := Bx.mk (St.start w0)
  refine wc_enter Try.func20 rfl Try.ntmps20 [(0, .agg #[.int .i64 p.fAt, .int .i64 p.fBirth, .int .i64 p.fSize, .int .i64 p.fSum, .int .i64 p.fLevel]), (1, .string t)] ⟨rfl, rfl, trivial⟩ rfl ?_; intro a HF
  refine wp_seq ?_
  refine wp_region_lit ?_
  refine wl_box rfl HF rfl (HF.ev rfl) (Z := [.int .i64 p.fAt, .int .i64 p.fBirth, .int .i64 p.fSize, .int .i64 p.fSum, .int .i64 p.fLevel]) rfl rfl rfl rfl HS.out ?_; clear HF HS; clear a; intro a w1 b1 HF HS; replace HS := Bx.mk HS
  refine wl_y rfl HF rfl rfl (yl_assign rfl (HF.ev rfl)) ?_; clear HF; clear a; intro a HF
  refine wpList_nil ?_
  refine ex_then ?_
  refine wp_seq ?_
  refine wr_quiet (by kernel_rfl) (by kernel_rfl) HS.out ?_
  refine wq_y rfl HF rfl rfl (fun _ HS => (yl_loadR (cs := [.int .i64 p.fAt, .int .i64 p.fBirth, .int .i64 p.fSize, .int .i64 p.fSum, .int .i64 p.fLevel]) rfl (HF.ev rfl) ((HS.box 0 rfl).sub 0 5) (by kernel_rfl))) ?_; clear HF; clear a; intro a HF
  refine wq_call rfl HF rfl (enter_of Try.func60 (by kernel_rfl) rfl) (args := #[.agg #[.int .i64 p.fAt, .int .i64 p.fBirth, .int .i64 p.fSize, .int .i64 p.fSum, .int .i64 p.fLevel]]) rfl (v := .bool p.ok) (fun _ HS => implPtrOk_any p _) rfl rfl ?_; clear HF; clear a; intro a HF
  refine wq_y rfl HF rfl rfl (fun _ HS => (yl_move rfl (HF.ev rfl))) ?_; clear HF; clear a; intro a HF
  refine HF.cases 7 rfl (fun cc1 HF1 => ?_) (fun cc1 HF1 => ?_)
  · clear HF; have HF := HF1; clear HF1
    refine wq_yg HF rfl rfl rfl rfl rfl (fun _ HS => (yl_loadR (cs := [.int .i64 p.fAt, .int .i64 p.fBirth, .int .i64 p.fSize, .int .i64 p.fSum, .int .i64 p.fLevel]) rfl (HF.ev rfl) ((HS.box 0 rfl).sub 0 5) (by kernel_rfl))) ?_; clear HF; clear a; intro a HF
    refine wq_callg HF rfl rfl rfl rfl (enter_of Try.func63 (by kernel_rfl) rfl) (args := #[.agg #[.int .i64 p.fAt, .int .i64 p.fBirth, .int .i64 p.fSize, .int .i64 p.fSum, .int .i64 p.fLevel]]) rfl (v := .bool p.hole) (fun _ HS => implHole_any p _) rfl rfl ?_; clear HF; clear a; intro a HF
    refine wq_yg HF rfl rfl rfl rfl rfl (fun _ HS => (yl_not rfl (HF.ev rfl))) ?_; clear HF; clear a; intro a HF
    refine wq_y rfl HF rfl rfl (fun _ HS => (yl_pick_t rfl (HF.ev rfl) (HF.ev rfl))) ?_; clear HF; clear a; intro a HF
    refine wq_y rfl HF rfl rfl (fun _ HS => (yl_move rfl (HF.ev rfl))) ?_; clear HF; clear a; intro a HF
    refine HF.cases 12 rfl (fun cc2 HF1 => ?_) (fun cc2 HF1 => ?_)
    · clear HF; have HF := HF1; clear HF1
      refine wq_yg HF rfl rfl rfl rfl rfl (fun _ HS => (yl_fieldAddr (j := 2) rfl (HF.ev rfl) (by kernel_rfl))) ?_; clear HF; clear a; intro a HF
      refine wq_yg HF rfl rfl rfl rfl rfl (fun _ HS => (yl_load (v := .int .i64 p.fSize) rfl (HF.ev rfl) (((HS.box 0 rfl).cell 2).trans rfl) (by kernel_rfl))) ?_; clear HF; clear a; intro a HF
      refine wq_yg HF rfl rfl rfl rfl rfl (fun _ HS => (yl_move rfl (HF.ev rfl))) ?_; clear HF; clear a; intro a HF
      refine wq_yg HF rfl rfl rfl rfl rfl (fun _ HS => (yl_lenS rfl (HF.ev rfl) (by kernel_rfl))) ?_; clear HF; clear a; intro a HF
      refine wq_yg HF rfl rfl rfl rfl rfl (fun _ HS => (yl_eqlI rfl (HF.ev rfl) (HF.ev rfl))) ?_; clear HF; clear a; intro a HF
      refine wq_y rfl HF rfl rfl (fun _ HS => (yl_pick_t rfl (HF.ev rfl) (HF.ev rfl))) ?_; clear HF; clear a; intro a HF
      refine wq_y rfl HF rfl rfl (fun _ HS => (yl_move rfl (HF.ev rfl))) ?_; clear HF; clear a; intro a HF
      refine HF.cases 19 rfl (fun cc3 HF1 => ?_) (fun cc3 HF1 => ?_)
      · clear HF; have HF := HF1; clear HF1
        have dcc3 := eq_of_beq cc3
        refine wq_yg HF rfl rfl rfl rfl rfl (fun _ HS => (yl_fieldAddr (j := 3) rfl (HF.ev rfl) (by kernel_rfl))) ?_; clear HF; clear a; intro a HF
        refine wq_yg HF rfl rfl rfl rfl rfl (fun _ HS => (yl_load (v := .int .i64 p.fSum) rfl (HF.ev rfl) (((HS.box 0 rfl).cell 3).trans rfl) (by kernel_rfl))) ?_; clear HF; clear a; intro a HF
        refine wq_yg HF rfl rfl rfl rfl rfl (fun _ HS => (yl_move rfl (HF.ev rfl))) ?_; clear HF; clear a; intro a HF
        refine wq_callg HF rfl rfl rfl rfl (enter_of Try.func58 (by kernel_rfl) rfl) (args := #[.string t]) rfl (v := .int .i64 (sumOf t)) (fun _ HS => sumOfI_any t _ (by omega)) rfl rfl ?_; clear HF; clear a; intro a HF
        refine wq_yg HF rfl rfl rfl rfl rfl (fun _ HS => (yl_eqlI rfl (HF.ev rfl) (HF.ev rfl))) ?_; clear HF; clear a; intro a HF
        refine wq_y rfl HF rfl rfl (fun _ HS => (yl_pick_t rfl (HF.ev rfl) (HF.ev rfl))) ?_; clear HF; clear a; intro a HF
        refine wq_y rfl HF rfl rfl (fun _ HS => (yl_assign rfl (HF.ev rfl))) ?_; clear HF; clear a; intro a HF
        refine wpQuiet_nil ?_; intro w2 HS; replace HS := Bx.mk HS
        refine ex_then ?_
        refine wp_ret ?_
        refine bp_ret1 HF Try.results20 (HF.res rfl) ?_
        have hfn : PtrD.fits p t = (p.fSum == (sumOf t)) := by simp only [PtrD.fits, cc1, cc2, cc3, cond_true, cond_false]
        exact ⟨by rw [hfn] <;> rfl, HS.out.bel⟩
      · clear HF; have HF := HF1; clear HF1
        have dcc3 := ne_of_beq_false cc3
        refine wq_skip HF rfl rfl rfl rfl rfl rfl ?_; clear HF; clear a; intro a HF
        refine wq_skip HF rfl rfl rfl rfl rfl rfl ?_; clear HF; clear a; intro a HF
        refine wq_skip HF rfl rfl rfl rfl rfl rfl ?_; clear HF; clear a; intro a HF
        refine wq_skip HF rfl rfl rfl rfl rfl rfl ?_; clear HF; clear a; intro a HF
        refine wq_skip HF rfl rfl rfl rfl rfl rfl ?_; clear HF; clear a; intro a HF
        refine wq_y rfl HF rfl rfl (fun _ HS => (yl_pick_f rfl (HF.ev rfl) (HF.ev rfl))) ?_; clear HF; clear a; intro a HF
        refine wq_y rfl HF rfl rfl (fun _ HS => (yl_assign rfl (HF.ev rfl))) ?_; clear HF; clear a; intro a HF
        refine wpQuiet_nil ?_; intro w3 HS; replace HS := Bx.mk HS
        refine ex_then ?_
        refine wp_ret ?_
        refine bp_ret1 HF Try.results20 (HF.res rfl) ?_
        have hfn : PtrD.fits p t = false := by simp only [PtrD.fits, cc1, cc2, cc3, cond_true, cond_false]
        exact ⟨by rw [hfn] <;> rfl, HS.out.bel⟩
    · clear HF; have HF := HF1; clear HF1
      refine wq_skip HF rfl rfl rfl rfl rfl rfl ?_; clear HF; clear a; intro a HF
      refine wq_skip HF rfl rfl rfl rfl rfl rfl ?_; clear HF; clear a; intro a HF
      refine wq_skip HF rfl rfl rfl rfl rfl rfl ?_; clear HF; clear a; intro a HF
      refine wq_skip HF rfl rfl rfl rfl rfl rfl ?_; clear HF; clear a; intro a HF
      refine wq_skip HF rfl rfl rfl rfl rfl rfl ?_; clear HF; clear a; intro a HF
      refine wq_y rfl HF rfl rfl (fun _ HS => (yl_pick_f rfl (HF.ev rfl) (HF.ev rfl))) ?_; clear HF; clear a; intro a HF
      refine wq_y rfl HF rfl rfl (fun _ HS => (yl_move rfl (HF.ev rfl))) ?_; clear HF; clear a; intro a HF
      refine wq_skip HF rfl rfl rfl rfl rfl rfl ?_; clear HF; clear a; intro a HF
      refine wq_skip HF rfl rfl rfl rfl rfl rfl ?_; clear HF; clear a; intro a HF
      refine wq_skip HF rfl rfl rfl rfl rfl rfl ?_; clear HF; clear a; intro a HF
      refine wq_skip HF rfl rfl rfl rfl rfl rfl ?_; clear HF; clear a; intro a HF
      refine wq_skip HF rfl rfl rfl rfl rfl rfl ?_; clear HF; clear a; intro a HF
      refine wq_y rfl HF rfl rfl (fun _ HS => (yl_pick_f rfl (HF.ev rfl) (HF.ev rfl))) ?_; clear HF; clear a; intro a HF
      refine wq_y rfl HF rfl rfl (fun _ HS => (yl_assign rfl (HF.ev rfl))) ?_; clear HF; clear a; intro a HF
      refine wpQuiet_nil ?_; intro w4 HS; replace HS := Bx.mk HS
      refine ex_then ?_
      refine wp_ret ?_
      refine bp_ret1 HF Try.results20 (HF.res rfl) ?_
      have hfn : PtrD.fits p t = false := by simp only [PtrD.fits, cc1, cc2, cond_true, cond_false]
      exact ⟨by rw [hfn] <;> rfl, HS.out.bel⟩
  · clear HF; have HF := HF1; clear HF1
    refine wq_skip HF rfl rfl rfl rfl rfl rfl ?_; clear HF; clear a; intro a HF
    refine wq_skip HF rfl rfl rfl rfl rfl rfl ?_; clear HF; clear a; intro a HF
    refine wq_skip HF rfl rfl rfl rfl rfl rfl ?_; clear HF; clear a; intro a HF
    refine wq_y rfl HF rfl rfl (fun _ HS => (yl_pick_f rfl (HF.ev rfl) (HF.ev rfl))) ?_; clear HF; clear a; intro a HF
    refine wq_y rfl HF rfl rfl (fun _ HS => (yl_move rfl (HF.ev rfl))) ?_; clear HF; clear a; intro a HF
    refine wq_skip HF rfl rfl rfl rfl rfl rfl ?_; clear HF; clear a; intro a HF
    refine wq_skip HF rfl rfl rfl rfl rfl rfl ?_; clear HF; clear a; intro a HF
    refine wq_skip HF rfl rfl rfl rfl rfl rfl ?_; clear HF; clear a; intro a HF
    refine wq_skip HF rfl rfl rfl rfl rfl rfl ?_; clear HF; clear a; intro a HF
    refine wq_skip HF rfl rfl rfl rfl rfl rfl ?_; clear HF; clear a; intro a HF
    refine wq_y rfl HF rfl rfl (fun _ HS => (yl_pick_f rfl (HF.ev rfl) (HF.ev rfl))) ?_; clear HF; clear a; intro a HF
    refine wq_y rfl HF rfl rfl (fun _ HS => (yl_move rfl (HF.ev rfl))) ?_; clear HF; clear a; intro a HF
    refine wq_skip HF rfl rfl rfl rfl rfl rfl ?_; clear HF; clear a; intro a HF
    refine wq_skip HF rfl rfl rfl rfl rfl rfl ?_; clear HF; clear a; intro a HF
    refine wq_skip HF rfl rfl rfl rfl rfl rfl ?_; clear HF; clear a; intro a HF
    refine wq_skip HF rfl rfl rfl rfl rfl rfl ?_; clear HF; clear a; intro a HF
    refine wq_skip HF rfl rfl rfl rfl rfl rfl ?_; clear HF; clear a; intro a HF
    refine wq_y rfl HF rfl rfl (fun _ HS => (yl_pick_f rfl (HF.ev rfl) (HF.ev rfl))) ?_; clear HF; clear a; intro a HF
    refine wq_y rfl HF rfl rfl (fun _ HS => (yl_assign rfl (HF.ev rfl))) ?_; clear HF; clear a; intro a HF
    refine wpQuiet_nil ?_; intro w5 HS; replace HS := Bx.mk HS
    refine ex_then ?_
    refine wp_ret ?_
    refine bp_ret1 HF Try.results20 (HF.res rfl) ?_
    have hfn : PtrD.fits p t = false := by simp only [PtrD.fits, cc1, cond_true, cond_false]
    exact ⟨by rw [hfn] <;> rfl, HS.out.bel⟩

set_option maxHeartbeats 1000000 in
set_option maxRecDepth 100000 in
theorem specFits_any (p : PtrD) (t : ByteArray) (w0 : World) (ht : t.size ≤ 9223372036854775806) : Calls Try.prog 167 #[.agg #[.int .i64 p.fAt, .int .i64 p.fBirth, .int .i64 p.fSize, .int .i64 p.fSum, .int .i64 p.fLevel], .string t] w0 fun e w' => e = .returned (.bool (p.fits t)) ∧ Below w0.heap.size w0 w' := by
  have HS := Bx.mk (St.start w0)
  refine wc_enter Try.func167 rfl Try.ntmps167 [(0, .agg #[.int .i64 p.fAt, .int .i64 p.fBirth, .int .i64 p.fSize, .int .i64 p.fSum, .int .i64 p.fLevel]), (1, .string t)] ⟨rfl, rfl, trivial⟩ rfl ?_; intro a HF
  refine wp_seq ?_
  refine wp_region_lit ?_
  refine wl_box rfl HF rfl (HF.ev rfl) (Z := [.int .i64 p.fAt, .int .i64 p.fBirth, .int .i64 p.fSize, .int .i64 p.fSum, .int .i64 p.fLevel]) rfl rfl rfl rfl HS.out ?_; clear HF HS; clear a; intro a w1 b1 HF HS; replace HS := Bx.mk HS
  refine wl_y rfl HF rfl rfl (yl_assign rfl (HF.ev rfl)) ?_; clear HF; clear a; intro a HF
  refine wpList_nil ?_
  refine ex_then ?_
  refine wp_seq ?_
  refine wr_quiet (by kernel_rfl) (by kernel_rfl) HS.out ?_
  refine wq_y rfl HF rfl rfl (fun _ HS => (yl_loadR (cs := [.int .i64 p.fAt, .int .i64 p.fBirth, .int .i64 p.fSize, .int .i64 p.fSum, .int .i64 p.fLevel]) rfl (HF.ev rfl) ((HS.box 0 rfl).sub 0 5) (by kernel_rfl))) ?_; clear HF; clear a; intro a HF
  refine wq_call rfl HF rfl (enter_of Try.func101 (by kernel_rfl) rfl) (args := #[.agg #[.int .i64 p.fAt, .int .i64 p.fBirth, .int .i64 p.fSize, .int .i64 p.fSum, .int .i64 p.fLevel]]) rfl (v := .bool p.ok) (fun _ HS => specPtrOk_any p _) rfl rfl ?_; clear HF; clear a; intro a HF
  refine wq_y rfl HF rfl rfl (fun _ HS => (yl_move rfl (HF.ev rfl))) ?_; clear HF; clear a; intro a HF
  refine HF.cases 7 rfl (fun cc1 HF1 => ?_) (fun cc1 HF1 => ?_)
  · clear HF; have HF := HF1; clear HF1
    refine wq_yg HF rfl rfl rfl rfl rfl (fun _ HS => (yl_loadR (cs := [.int .i64 p.fAt, .int .i64 p.fBirth, .int .i64 p.fSize, .int .i64 p.fSum, .int .i64 p.fLevel]) rfl (HF.ev rfl) ((HS.box 0 rfl).sub 0 5) (by kernel_rfl))) ?_; clear HF; clear a; intro a HF
    refine wq_callg HF rfl rfl rfl rfl (enter_of Try.func102 (by kernel_rfl) rfl) (args := #[.agg #[.int .i64 p.fAt, .int .i64 p.fBirth, .int .i64 p.fSize, .int .i64 p.fSum, .int .i64 p.fLevel]]) rfl (v := .bool p.hole) (fun _ HS => specHole_any p _) rfl rfl ?_; clear HF; clear a; intro a HF
    refine wq_yg HF rfl rfl rfl rfl rfl (fun _ HS => (yl_not rfl (HF.ev rfl))) ?_; clear HF; clear a; intro a HF
    refine wq_y rfl HF rfl rfl (fun _ HS => (yl_pick_t rfl (HF.ev rfl) (HF.ev rfl))) ?_; clear HF; clear a; intro a HF
    refine wq_y rfl HF rfl rfl (fun _ HS => (yl_move rfl (HF.ev rfl))) ?_; clear HF; clear a; intro a HF
    refine HF.cases 12 rfl (fun cc2 HF1 => ?_) (fun cc2 HF1 => ?_)
    · clear HF; have HF := HF1; clear HF1
      refine wq_yg HF rfl rfl rfl rfl rfl (fun _ HS => (yl_fieldAddr (j := 2) rfl (HF.ev rfl) (by kernel_rfl))) ?_; clear HF; clear a; intro a HF
      refine wq_yg HF rfl rfl rfl rfl rfl (fun _ HS => (yl_load (v := .int .i64 p.fSize) rfl (HF.ev rfl) (((HS.box 0 rfl).cell 2).trans rfl) (by kernel_rfl))) ?_; clear HF; clear a; intro a HF
      refine wq_yg HF rfl rfl rfl rfl rfl (fun _ HS => (yl_move rfl (HF.ev rfl))) ?_; clear HF; clear a; intro a HF
      refine wq_yg HF rfl rfl rfl rfl rfl (fun _ HS => (yl_lenS rfl (HF.ev rfl) (by kernel_rfl))) ?_; clear HF; clear a; intro a HF
      refine wq_yg HF rfl rfl rfl rfl rfl (fun _ HS => (yl_eqlI rfl (HF.ev rfl) (HF.ev rfl))) ?_; clear HF; clear a; intro a HF
      refine wq_y rfl HF rfl rfl (fun _ HS => (yl_pick_t rfl (HF.ev rfl) (HF.ev rfl))) ?_; clear HF; clear a; intro a HF
      refine wq_y rfl HF rfl rfl (fun _ HS => (yl_move rfl (HF.ev rfl))) ?_; clear HF; clear a; intro a HF
      refine HF.cases 19 rfl (fun cc3 HF1 => ?_) (fun cc3 HF1 => ?_)
      · clear HF; have HF := HF1; clear HF1
        have dcc3 := eq_of_beq cc3
        refine wq_yg HF rfl rfl rfl rfl rfl (fun _ HS => (yl_fieldAddr (j := 3) rfl (HF.ev rfl) (by kernel_rfl))) ?_; clear HF; clear a; intro a HF
        refine wq_yg HF rfl rfl rfl rfl rfl (fun _ HS => (yl_load (v := .int .i64 p.fSum) rfl (HF.ev rfl) (((HS.box 0 rfl).cell 3).trans rfl) (by kernel_rfl))) ?_; clear HF; clear a; intro a HF
        refine wq_yg HF rfl rfl rfl rfl rfl (fun _ HS => (yl_move rfl (HF.ev rfl))) ?_; clear HF; clear a; intro a HF
        refine wq_callg HF rfl rfl rfl rfl (enter_of Try.func159 (by kernel_rfl) rfl) (args := #[.string t]) rfl (v := .int .i64 (sumOf t)) (fun _ HS => sumOfS_any t _ (by omega)) rfl rfl ?_; clear HF; clear a; intro a HF
        refine wq_yg HF rfl rfl rfl rfl rfl (fun _ HS => (yl_eqlI rfl (HF.ev rfl) (HF.ev rfl))) ?_; clear HF; clear a; intro a HF
        refine wq_y rfl HF rfl rfl (fun _ HS => (yl_pick_t rfl (HF.ev rfl) (HF.ev rfl))) ?_; clear HF; clear a; intro a HF
        refine wq_y rfl HF rfl rfl (fun _ HS => (yl_assign rfl (HF.ev rfl))) ?_; clear HF; clear a; intro a HF
        refine wpQuiet_nil ?_; intro w2 HS; replace HS := Bx.mk HS
        refine ex_then ?_
        refine wp_ret ?_
        refine bp_ret1 HF Try.results167 (HF.res rfl) ?_
        have hfn : PtrD.fits p t = (p.fSum == (sumOf t)) := by simp only [PtrD.fits, cc1, cc2, cc3, cond_true, cond_false]
        exact ⟨by rw [hfn] <;> rfl, HS.out.bel⟩
      · clear HF; have HF := HF1; clear HF1
        have dcc3 := ne_of_beq_false cc3
        refine wq_skip HF rfl rfl rfl rfl rfl rfl ?_; clear HF; clear a; intro a HF
        refine wq_skip HF rfl rfl rfl rfl rfl rfl ?_; clear HF; clear a; intro a HF
        refine wq_skip HF rfl rfl rfl rfl rfl rfl ?_; clear HF; clear a; intro a HF
        refine wq_skip HF rfl rfl rfl rfl rfl rfl ?_; clear HF; clear a; intro a HF
        refine wq_skip HF rfl rfl rfl rfl rfl rfl ?_; clear HF; clear a; intro a HF
        refine wq_y rfl HF rfl rfl (fun _ HS => (yl_pick_f rfl (HF.ev rfl) (HF.ev rfl))) ?_; clear HF; clear a; intro a HF
        refine wq_y rfl HF rfl rfl (fun _ HS => (yl_assign rfl (HF.ev rfl))) ?_; clear HF; clear a; intro a HF
        refine wpQuiet_nil ?_; intro w3 HS; replace HS := Bx.mk HS
        refine ex_then ?_
        refine wp_ret ?_
        refine bp_ret1 HF Try.results167 (HF.res rfl) ?_
        have hfn : PtrD.fits p t = false := by simp only [PtrD.fits, cc1, cc2, cc3, cond_true, cond_false]
        exact ⟨by rw [hfn] <;> rfl, HS.out.bel⟩
    · clear HF; have HF := HF1; clear HF1
      refine wq_skip HF rfl rfl rfl rfl rfl rfl ?_; clear HF; clear a; intro a HF
      refine wq_skip HF rfl rfl rfl rfl rfl rfl ?_; clear HF; clear a; intro a HF
      refine wq_skip HF rfl rfl rfl rfl rfl rfl ?_; clear HF; clear a; intro a HF
      refine wq_skip HF rfl rfl rfl rfl rfl rfl ?_; clear HF; clear a; intro a HF
      refine wq_skip HF rfl rfl rfl rfl rfl rfl ?_; clear HF; clear a; intro a HF
      refine wq_y rfl HF rfl rfl (fun _ HS => (yl_pick_f rfl (HF.ev rfl) (HF.ev rfl))) ?_; clear HF; clear a; intro a HF
      refine wq_y rfl HF rfl rfl (fun _ HS => (yl_move rfl (HF.ev rfl))) ?_; clear HF; clear a; intro a HF
      refine wq_skip HF rfl rfl rfl rfl rfl rfl ?_; clear HF; clear a; intro a HF
      refine wq_skip HF rfl rfl rfl rfl rfl rfl ?_; clear HF; clear a; intro a HF
      refine wq_skip HF rfl rfl rfl rfl rfl rfl ?_; clear HF; clear a; intro a HF
      refine wq_skip HF rfl rfl rfl rfl rfl rfl ?_; clear HF; clear a; intro a HF
      refine wq_skip HF rfl rfl rfl rfl rfl rfl ?_; clear HF; clear a; intro a HF
      refine wq_y rfl HF rfl rfl (fun _ HS => (yl_pick_f rfl (HF.ev rfl) (HF.ev rfl))) ?_; clear HF; clear a; intro a HF
      refine wq_y rfl HF rfl rfl (fun _ HS => (yl_assign rfl (HF.ev rfl))) ?_; clear HF; clear a; intro a HF
      refine wpQuiet_nil ?_; intro w4 HS; replace HS := Bx.mk HS
      refine ex_then ?_
      refine wp_ret ?_
      refine bp_ret1 HF Try.results167 (HF.res rfl) ?_
      have hfn : PtrD.fits p t = false := by simp only [PtrD.fits, cc1, cc2, cond_true, cond_false]
      exact ⟨by rw [hfn] <;> rfl, HS.out.bel⟩
  · clear HF; have HF := HF1; clear HF1
    refine wq_skip HF rfl rfl rfl rfl rfl rfl ?_; clear HF; clear a; intro a HF
    refine wq_skip HF rfl rfl rfl rfl rfl rfl ?_; clear HF; clear a; intro a HF
    refine wq_skip HF rfl rfl rfl rfl rfl rfl ?_; clear HF; clear a; intro a HF
    refine wq_y rfl HF rfl rfl (fun _ HS => (yl_pick_f rfl (HF.ev rfl) (HF.ev rfl))) ?_; clear HF; clear a; intro a HF
    refine wq_y rfl HF rfl rfl (fun _ HS => (yl_move rfl (HF.ev rfl))) ?_; clear HF; clear a; intro a HF
    refine wq_skip HF rfl rfl rfl rfl rfl rfl ?_; clear HF; clear a; intro a HF
    refine wq_skip HF rfl rfl rfl rfl rfl rfl ?_; clear HF; clear a; intro a HF
    refine wq_skip HF rfl rfl rfl rfl rfl rfl ?_; clear HF; clear a; intro a HF
    refine wq_skip HF rfl rfl rfl rfl rfl rfl ?_; clear HF; clear a; intro a HF
    refine wq_skip HF rfl rfl rfl rfl rfl rfl ?_; clear HF; clear a; intro a HF
    refine wq_y rfl HF rfl rfl (fun _ HS => (yl_pick_f rfl (HF.ev rfl) (HF.ev rfl))) ?_; clear HF; clear a; intro a HF
    refine wq_y rfl HF rfl rfl (fun _ HS => (yl_move rfl (HF.ev rfl))) ?_; clear HF; clear a; intro a HF
    refine wq_skip HF rfl rfl rfl rfl rfl rfl ?_; clear HF; clear a; intro a HF
    refine wq_skip HF rfl rfl rfl rfl rfl rfl ?_; clear HF; clear a; intro a HF
    refine wq_skip HF rfl rfl rfl rfl rfl rfl ?_; clear HF; clear a; intro a HF
    refine wq_skip HF rfl rfl rfl rfl rfl rfl ?_; clear HF; clear a; intro a HF
    refine wq_skip HF rfl rfl rfl rfl rfl rfl ?_; clear HF; clear a; intro a HF
    refine wq_y rfl HF rfl rfl (fun _ HS => (yl_pick_f rfl (HF.ev rfl) (HF.ev rfl))) ?_; clear HF; clear a; intro a HF
    refine wq_y rfl HF rfl rfl (fun _ HS => (yl_assign rfl (HF.ev rfl))) ?_; clear HF; clear a; intro a HF
    refine wpQuiet_nil ?_; intro w5 HS; replace HS := Bx.mk HS
    refine ex_then ?_
    refine wp_ret ?_
    refine bp_ret1 HF Try.results167 (HF.res rfl) ?_
    have hfn : PtrD.fits p t = false := by simp only [PtrD.fits, cc1, cond_true, cond_false]
    exact ⟨by rw [hfn] <;> rfl, HS.out.bel⟩

theorem PtrD.fits_size {p : PtrD} {t : ByteArray} (h : p.fits t = true) : p.ok = true ∧ p.hole = false ∧ p.fSize = (t.size : Int) ∧ p.fSum = sumOf t := by
  unfold PtrD.fits at h
  cases h1 : p.ok with
  | false => rw [h1] at h; cases h
  | true =>
    cases h2 : p.hole with
    | true => rw [h1, h2] at h; cases h
    | false =>
      cases h3 : (p.fSize == (t.size : Int)) with
      | false => rw [h1, h2, h3] at h; cases h
      | true => rw [h1, h2, h3] at h; exact ⟨rfl, rfl, eq_of_beq h3, eq_of_beq h⟩
theorem PtrD.ok_bounds {p : PtrD} (h : p.ok = true) (h2 : p.hole = false) : 8 ≤ p.fAt ∧ p.fAt ≤ 63 ∧ 1 ≤ p.fSize ∧ p.fSize ≤ 128 := by
  unfold PtrD.ok at h
  rw [h2, Bool.false_or] at h
  simp only [Bool.and_eq_true] at h
  have h1 := inB_true h.1.1.1.1
  have h3 := inB_true h.1.1.2
  omega
/-- A text, so many times. -/
def manyB (s : ByteArray) : Nat → ByteArray
  | 0 => ByteArray.empty
  | n + 1 => s ++ manyB s n
theorem manyB_size (s : ByteArray) (n : Nat) : (manyB s n).size = n * s.size := by
  induction n with
  | zero => simp [manyB]
  | succ n ih => unfold manyB; rw [ByteArray.size_append, ih, Nat.succ_mul]; omega
theorem manyB_two (s : ByteArray) (n : Nat) : manyB (s ++ s) n = manyB s (2 * n) := by
  induction n with
  | zero => rfl
  | succ n ih =>
    rw [show 2 * (n + 1) = 2 * n + 1 + 1 by omega]
    unfold manyB
    rw [ih]
    conv => rhs; rw [show manyB s (2 * n + 1) = s ++ manyB s (2 * n) from rfl]
    apply ba_ext
    simp [list_append]
theorem many_odd (o s : ByteArray) (n : Nat) (h : n % 2 = 1) : o ++ manyB s n = (o ++ s) ++ manyB (s ++ s) (n / 2) := by
  rw [manyB_two]
  obtain ⟨m, rfl⟩ : ∃ m, n = 2 * m + 1 := ⟨n / 2, by omega⟩
  rw [show (2 * m + 1) / 2 = m by omega]
  conv => lhs; rw [show manyB s (2 * m + 1) = s ++ manyB s (2 * m) from rfl]
  apply ba_ext
  simp [list_append]
theorem many_even (o s : ByteArray) (n : Nat) (h : ¬ n % 2 = 1) : o ++ manyB s n = o ++ manyB (s ++ s) (n / 2) := by
  rw [manyB_two, show 2 * (n / 2) = n by omega]

set_option maxHeartbeats 1000000 in
set_option maxRecDepth 100000 in
theorem l6Many_any (s : ByteArray) (n : Nat) (w0 : World) (hn : n ≤ 1000000) (hs : n * s.size ≤ 1000000000) (hs2 : s.size ≤ 1000000000) : Calls Try.prog 117 #[.string s, .int .i64 (n : Int)] w0 fun e w' => e = .returned (.string (manyB s n)) ∧ Below w0.heap.size w0 w' := by
  have HS := Bx.mk (St.start w0)
  refine wc_enter Try.func117 rfl Try.ntmps117 [(0, .string s), (1, .int .i64 (n : Int))] ⟨rfl, rfl, trivial⟩ rfl ?_; intro a HF
  refine wp_seq ?_
  refine wp_region_lit ?_
  refine wl_y rfl HF rfl rfl (yl_assign rfl (HF.ev rfl)) ?_; clear HF; clear a; intro a HF
  refine wpList_nil ?_
  refine ex_then ?_
  refine wp_seq ?_
  refine wp_region_lit ?_
  refine wl_y rfl HF rfl rfl (yl_assign rfl (HF.ev rfl)) ?_; clear HF; clear a; intro a HF
  refine wpList_nil ?_
  refine ex_then ?_
  refine wp_seq ?_
  refine wp_block ?_
  refine wc_loop (ι := Nat) (fun m a w => ∃ (t o : ByteArray), (m ≤ n ∧ o ++ manyB t m = manyB s n ∧ o.size + m * t.size = n * s.size ∧ t.size ≤ 2 * (n * s.size) + s.size) ∧ Fr 20 a [(0, .string t), (1, .int .i64 (m : Int)), (5, .string o)] ∧ St w0 ([]) w) (fun m => m) n ⟨s, ByteArray.empty, ⟨Nat.le_refl _, rfl, by simp, by omega⟩, HF.less _ ⟨rfl, rfl, rfl, trivial⟩, HS.out⟩ ?_
  clear HF HS; clear a
  rintro m a w1 ⟨t, o, ⟨hm, hq, hz, ht⟩, HF, HS⟩
  replace HS := Bx.mk HS
  refine wp_seq ?_
  refine wp_seq ?_
  refine wp_region_lit ?_
  refine wl_y rfl HF rfl rfl (yl_move rfl (HF.ev rfl)) ?_; clear HF; clear a; intro a HF
  refine wl_y rfl HF rfl rfl (yl_gtrI rfl (HF.ev rfl) (HF.ev rfl)) ?_; clear HF; clear a; intro a HF
  refine wpList_nil ?_
  refine ex_then ?_
  refine HF.cases 7 rfl (fun cc1 HF1 => ?_) (fun cc1 HF1 => ?_)
  · clear HF; have HF := HF1; clear HF1
    have dcc1 := of_decide_eq_true cc1
    refine wc_true HF rfl ?_
    refine wp_skip ?_
    refine ex_then ?_
    refine wp_block ?_
    refine wp_seq ?_
    refine wp_seq ?_
    have hm1 : 1 * t.size ≤ m * t.size := Nat.mul_le_mul_right _ (by omega)
    refine wp_region_lit ?_
    refine wl_y rfl HF rfl rfl (yl_move rfl (HF.ev rfl)) ?_; clear HF; clear a; intro a HF
    refine wl_y rfl HF rfl rfl (yl_remI rfl (HF.ev rfl) (HF.ev rfl) (by omega) (rem_pos (by omega) (by omega))) ?_; clear HF; clear a; intro a HF
    refine wl_y rfl HF rfl rfl (yl_eqlI rfl (HF.ev rfl) (HF.ev rfl)) ?_; clear HF; clear a; intro a HF
    refine wpList_nil ?_
    refine ex_then ?_
    refine HF.cases 10 rfl (fun cc2 HF1 => ?_) (fun cc2 HF1 => ?_)
    · clear HF; have HF := HF1; clear HF1
      have dcc2 := eq_of_beq cc2
      refine wc_true HF rfl ?_
      refine wp_region_lit ?_
      refine wl_y rfl HF rfl rfl (yl_move rfl (HF.ev rfl)) ?_; clear HF; clear a; intro a HF
      refine wl_y rfl HF rfl rfl (yl_move rfl (HF.ev rfl)) ?_; clear HF; clear a; intro a HF
      refine wl_y rfl HF rfl rfl (yl_addS rfl (HF.ev rfl) (HF.ev rfl) (by omega)) ?_; clear HF; clear a; intro a HF
      refine wl_y rfl HF rfl rfl (yl_assign rfl (HF.ev rfl)) ?_; clear HF; clear a; intro a HF
      refine wpList_nil ?_
      refine ex_then ?_
      refine wp_seq ?_
      refine wp_region_lit ?_
      refine wl_y rfl HF rfl rfl (yl_move rfl (HF.ev rfl)) ?_; clear HF; clear a; intro a HF
      refine wl_y rfl HF rfl rfl (yl_move rfl (HF.ev rfl)) ?_; clear HF; clear a; intro a HF
      refine wl_y rfl HF rfl rfl (yl_addS rfl (HF.ev rfl) (HF.ev rfl) (by omega)) ?_; clear HF; clear a; intro a HF
      refine wl_y rfl HF rfl rfl (yl_assign rfl (HF.ev rfl)) ?_; clear HF; clear a; intro a HF
      refine wpList_nil ?_
      refine ex_then ?_
      refine wp_region_lit ?_
      refine wl_y rfl HF rfl rfl (yl_move rfl (HF.ev rfl)) ?_; clear HF; clear a; intro a HF
      refine wl_y rfl HF rfl rfl (yl_quoI rfl (HF.ev rfl) (HF.ev rfl) (by omega) (quo_pos (by omega) (by omega) (by omega))) ?_; clear HF; clear a; intro a HF
      refine wl_y rfl HF rfl rfl (yl_assign rfl (HF.ev rfl)) ?_; clear HF; clear a; intro a HF
      refine wpList_nil ?_
      refine ex_block ?_
      refine ex_then ?_
      have hmm : m / 2 + m / 2 + m % 2 = m := by omega
      have ho : m % 2 = 1 := by omega
      rw [many_odd o t m ho] at hq
      have hts : (t ++ t).size = t.size + t.size := ByteArray.size_append
      have hos : (o ++ t).size = o.size + t.size := ByteArray.size_append
      have hmt : (m / 2) * (t.size + t.size) + (m % 2) * t.size = m * t.size := by rw [Nat.mul_add, ← Nat.add_mul, ← Nat.add_mul, hmm]
      have hm1 : 1 * t.size ≤ m * t.size := Nat.mul_le_mul_right _ (by omega)
      rw [ho, Nat.one_mul] at hmt
      exact ⟨m / 2, ⟨_, _, ⟨by omega, hq, by rw [hts, hos]; omega, by rw [hts]; omega⟩, HF.less _ ⟨rfl, (by show _ = some (Value.int .i64 ((m / 2 : Nat) : Int)); rw [show ((m / 2 : Nat) : Int) = (m : Int) / 2 by omega]; rfl), rfl, trivial⟩, HS.out⟩, (by omega)⟩
    · clear HF; have HF := HF1; clear HF1
      have dcc2 := ne_of_beq_false cc2
      refine wc_false HF rfl ?_
      refine wp_skip ?_
      refine ex_then ?_
      refine wp_seq ?_
      refine wp_region_lit ?_
      refine wl_y rfl HF rfl rfl (yl_move rfl (HF.ev rfl)) ?_; clear HF; clear a; intro a HF
      refine wl_y rfl HF rfl rfl (yl_move rfl (HF.ev rfl)) ?_; clear HF; clear a; intro a HF
      refine wl_y rfl HF rfl rfl (yl_addS rfl (HF.ev rfl) (HF.ev rfl) (by omega)) ?_; clear HF; clear a; intro a HF
      refine wl_y rfl HF rfl rfl (yl_assign rfl (HF.ev rfl)) ?_; clear HF; clear a; intro a HF
      refine wpList_nil ?_
      refine ex_then ?_
      refine wp_region_lit ?_
      refine wl_y rfl HF rfl rfl (yl_move rfl (HF.ev rfl)) ?_; clear HF; clear a; intro a HF
      refine wl_y rfl HF rfl rfl (yl_quoI rfl (HF.ev rfl) (HF.ev rfl) (by omega) (quo_pos (by omega) (by omega) (by omega))) ?_; clear HF; clear a; intro a HF
      refine wl_y rfl HF rfl rfl (yl_assign rfl (HF.ev rfl)) ?_; clear HF; clear a; intro a HF
      refine wpList_nil ?_
      refine ex_block ?_
      refine ex_then ?_
      have hmm : m / 2 + m / 2 + m % 2 = m := by omega
      have ho : ¬ m % 2 = 1 := by omega
      rw [many_even o t m ho] at hq
      have hts : (t ++ t).size = t.size + t.size := ByteArray.size_append
      have hmt : (m / 2) * (t.size + t.size) + (m % 2) * t.size = m * t.size := by rw [Nat.mul_add, ← Nat.add_mul, ← Nat.add_mul, hmm]
      have hm1 : 1 * t.size ≤ m * t.size := Nat.mul_le_mul_right _ (by omega)
      rw [show m % 2 = 0 by omega, Nat.zero_mul] at hmt
      exact ⟨m / 2, ⟨_, _, ⟨by omega, hq, by rw [hts]; omega, by rw [hts]; omega⟩, HF.less _ ⟨rfl, (by show _ = some (Value.int .i64 ((m / 2 : Nat) : Int)); rw [show ((m / 2 : Nat) : Int) = (m : Int) / 2 by omega]; rfl), rfl, trivial⟩, HS.out⟩, (by omega)⟩
  · clear HF; have HF := HF1; clear HF1
    have dcc1 := of_decide_eq_false cc1
    refine wc_false HF rfl ?_
    refine wp_exit ?_
    refine ex_then_exit ?_
    refine ex_then_exit ?_
    refine ex_block_hit ?_
    refine ex_then ?_
    refine wp_seq ?_
    refine wp_region_lit ?_
    refine wl_y rfl HF rfl rfl (yl_move rfl (HF.ev rfl)) ?_; clear HF; clear a; intro a HF
    refine wl_y rfl HF rfl rfl (yl_assign rfl (HF.ev rfl)) ?_; clear HF; clear a; intro a HF
    refine wpList_nil ?_
    refine ex_then ?_
    refine wp_ret ?_
    refine bp_ret1 HF Try.results117 (HF.res rfl) ?_
    obtain rfl : m = 0 := by omega
    have ho : o = manyB s n := by rw [← hq]; apply ba_ext; simp [list_append, manyB]
    exact ⟨by rw [ho], HS.out.bel⟩

def goneX : ByteArray := manyB (⟨#[120]⟩ : ByteArray) 200
def colS (d : DiskD) (m : Nat) : ByteArray := bif d.fGone then goneX else d.look m
def colsS (ps : List HD) (m : Nat) : List ByteArray := ps.map fun p => colS p.d m
theorem colsS_succ (ps : List HD) (m k : Nat) (hk : k < ps.length) : colsS (ps.take (k + 1)) m = colsS (ps.take k) m ++ [colS (ps.getD k default).d m] := by
  unfold colsS
  rw [List.take_succ_eq_append_getElem hk, List.map_append, getD_get hk]; rfl

set_option maxHeartbeats 1000000 in
set_option maxRecDepth 100000 in
theorem l4Cols_any (a0 : Option Addr) (c0 : Nat) (ps : List HD) (w0 : World) (hl : ps.length ≤ 1048576) (hok : ∀ k, k < ps.length → (ps.getD k default).d.ok = true) (hR : Rd HD.cells 3 w0 a0 ps.length ps) (hP : ∀ k, k < ps.length → (ps.getD k default).reads w0) (m : Nat) (hm : m < 64) : Calls Try.prog 152 #[.agg #[.slice a0 ps.length c0], .int .i64 (m : Int)] w0 fun e w' => ∃ ao cp, e = .returned (.slice ao ps.length cp) ∧ St w0 [rowA encS 1 9 (.slice ao ps.length cp) (colsS ps m)] w' := by
  have HR := Bx.mk hR; have HP := Bx.mk hP; clear hR hP
  have HS := Bx.mk (St.start w0)
  refine wc_enter Try.func152 rfl Try.ntmps152 [(0, .agg #[.slice a0 ps.length c0]), (1, .int .i64 (m : Int))] ⟨rfl, rfl, trivial⟩ rfl ?_; intro a HF
  refine wp_seq ?_
  refine wp_region_lit ?_
  refine wl_box rfl HF rfl (HF.ev rfl) (Z := [.slice a0 ps.length c0]) rfl rfl rfl rfl HS.out ?_; clear HF HS; clear a; intro a w1 b1 HF HS; replace HS := Bx.mk HS
  refine wl_y rfl HF rfl rfl (yl_assign rfl (HF.ev rfl)) ?_; clear HF; clear a; intro a HF
  refine wpList_nil ?_
  refine ex_then ?_
  refine wp_seq ?_
  refine wp_region_lit ?_
  refine wl_empty (e := 9) (size := 1) rfl HF rfl rfl rfl (by kernel_rfl) HS.out ?_; clear HF HS; clear a; intro a w2 b2 HF HS; replace HS := Bx.mk HS
  refine wl_y rfl HF rfl rfl (yl_assign rfl (HF.ev rfl)) ?_; clear HF; clear a; intro a HF
  refine wpList_nil ?_
  refine ex_then ?_
  refine wp_seq ?_
  refine wp_seq ?_
  refine wp_region_lit ?_
  refine wl_y rfl HF rfl rfl (yl_assign rfl (HF.ev rfl)) ?_; clear HF; clear a; intro a HF
  refine wpList_nil ?_
  refine ex_then ?_
  refine wp_block ?_
  replace HS := Bx.mk (HS.out.nilRow encS 1 9 (some ⟨b2, 0, none⟩))
  refine wc_loop (ι := Nat) (fun k a w => ∃ (ao : Option Addr) (cp : Nat) (xs : List ByteArray), (k ≤ ps.length ∧ xs = colsS (ps.take k) m) ∧ Fr 36 a [(1, .int .i64 (m : Int)), (2, .pointer (some ⟨b1, 0, none⟩)), (5, .slice ao xs.length cp), (6, .int .i64 (k : Int))] ∧ St w0 ([rowA encS 1 9 (.slice ao xs.length cp) xs, boxA b1 1 25 (.agg #[.slice a0 ps.length c0])]) w) (fun k => ps.length - k) 0 ⟨_, _, [], ⟨Nat.zero_le _, rfl⟩, HF.less _ ⟨rfl, rfl, rfl, rfl, trivial⟩, HS.out⟩ ?_
  clear HF HS; clear a
  rintro k a w3 ⟨ao, cp, xs, ⟨hk, hq⟩, HF, HS⟩
  replace HS := Bx.mk HS
  have hxl : xs.length = k := by rw [hq]; unfold colsS; rw [List.length_map, List.length_take]; omega
  refine wp_seq ?_
  refine wp_seq ?_
  refine wp_region_lit ?_
  refine wl_y rfl HF rfl rfl (yl_move rfl (HF.ev rfl)) ?_; clear HF; clear a; intro a HF
  refine wl_y rfl HF rfl rfl (yl_fieldAddr (j := 0) rfl (HF.ev rfl) (by kernel_rfl)) ?_; clear HF; clear a; intro a HF
  refine wl_y rfl HF rfl rfl (yl_load (v := .slice a0 ps.length c0) rfl (HF.ev rfl) (((HS.out.box 1 rfl).cell 0).trans rfl) (by kernel_rfl)) ?_; clear HF; clear a; intro a HF
  refine wl_y rfl HF rfl rfl (yl_lenL (e := 44) (size := 3) rfl (HF.ev rfl) (by kernel_rfl)) ?_; clear HF; clear a; intro a HF
  refine wl_y rfl HF rfl rfl (yl_lssI rfl (HF.ev rfl) (HF.ev rfl)) ?_; clear HF; clear a; intro a HF
  refine wpList_nil ?_
  refine ex_then ?_
  refine HF.cases 12 rfl (fun cc1 HF1 => ?_) (fun cc1 HF1 => ?_)
  · clear HF; have HF := HF1; clear HF1
    have dcc1 := of_decide_eq_true cc1
    refine wc_true HF rfl ?_
    refine wp_skip ?_
    refine ex_then ?_
    refine wp_seq ?_
    refine wp_block ?_
    refine wp_seq ?_
    refine wp_seq ?_
    obtain ⟨g0, o0, r0⟩ := HR.out.opn; have R0 := Bx.mk r0; clear r0
    have hok2 := ok_waits (hok k (by omega))
    refine wp_region_lit ?_
    refine wl_y rfl HF rfl rfl (yl_fieldAddr (j := 0) rfl (HF.ev rfl) (by kernel_rfl)) ?_; clear HF; clear a; intro a HF
    refine wl_y rfl HF rfl rfl (yl_load (v := .slice a0 ps.length c0) rfl (HF.ev rfl) (((HS.out.box 1 rfl).cell 0).trans rfl) (by kernel_rfl)) ?_; clear HF; clear a; intro a HF
    refine wl_y rfl HF rfl rfl (yl_move rfl (HF.ev rfl)) ?_; clear HF; clear a; intro a HF
    refine wl_y rfl HF rfl rfl (yl_indexAddrR (e := 44) (i := k) (size := 3) rfl (HF.ev rfl) (HF.ev rfl) (by kernel_rfl) rfl (by omega) (R0.out.ao k (by omega))) ?_; clear HF; clear a; intro a HF
    refine wl_y rfl HF rfl rfl (yl_fieldAddr (j := 2) rfl (HF.ev rfl) (by kernel_rfl)) ?_; clear HF; clear a; intro a HF
    refine wl_y rfl HF rfl rfl (yl_load (v := .bool ((ps.getD k default).d.fGone)) rfl (HF.ev rfl) (R0.out.elem HS.out (get_getD (xs := ps) (j := k) (d := default) (by omega)) 2 _ rfl) (by kernel_rfl)) ?_; clear HF; clear a; intro a HF
    refine wpList_nil ?_
    refine ex_then ?_
    refine HF.cases 20 rfl (fun cc2 HF1 => ?_) (fun cc2 HF1 => ?_)
    · clear HF; have HF := HF1; clear HF1
      refine wc_true HF rfl ?_
      refine wp_seq ?_
      refine wp_region_lit ?_
      refine wl_y rfl HF rfl rfl (yl_move rfl (HF.ev rfl)) ?_; clear HF; clear a; intro a HF
      refine wl_callB rfl HF rfl (enter_of Try.func117 (by kernel_rfl) rfl) (args := #[.string (⟨#[120]⟩ : ByteArray), .int .i64 200]) rfl (v := .string goneX) (l6Many_any (⟨#[120]⟩ : ByteArray) 200 _ (by decide) (by decide) (by decide)) rfl rfl HS.out ?_; clear HF HS; clear a; intro w4 a HS HF; replace HS := Bx.mk HS
      refine wl_buildS (enc := encS) (e := 9) (size := 1) rfl HF rfl rfl rfl (ps := [(0, .string goneX)]) rfl (cells := [.string goneX]) (by kernel_rfl) [goneX] rfl rfl (by unfold maxLen; omega) rfl HS.out ?_; clear HF HS; clear a; intro b3 a w5 HF HS; replace HS := Bx.mk HS
      refine wl_appL rfl HF rfl rfl rfl (HF.ev rfl) (HF.ev rfl) elemS encS_len HS.out 1 (xs := xs) rfl (ys := [goneX]) (St.rdN HS.out encS_len 0 rfl) (cells_one_S _) (by unfold maxLen; simp only [List.length_cons, List.length_nil]; omega) (by simp only [List.length_cons, List.length_nil]; omega) ?_; clear HF HS; clear a; intro ao4 cp5 w6 a HF HS; replace HS := Bx.mk HS
      replace HS : Bx (St w0 ([rowA encS 1 9 (.slice (some ⟨b3, 0, none⟩) 1 1) ([goneX]), rowA encS 1 9 (.slice ao4 (xs.length + ([goneX]).length) cp5) (xs ++ ([goneX])), boxA b1 1 25 (.agg #[.slice a0 ps.length c0])]) _) := ⟨HS.out⟩
      refine wl_y rfl HF rfl rfl (yl_assign rfl (HF.ev rfl)) ?_; clear HF; clear a; intro a HF
      refine wpList_nil ?_
      refine ex_then ?_
      refine wp_exit ?_
      refine ex_then_exit ?_
      refine ex_block_hit ?_
      refine ex_then ?_
      refine wp_region_lit ?_
      refine wl_y rfl HF rfl rfl (yl_move rfl (HF.ev rfl)) ?_; clear HF; clear a; intro a HF
      refine wl_y rfl HF rfl rfl (yl_addI rfl (HF.ev rfl) (HF.ev rfl) (i64w (by omega))) ?_; clear HF; clear a; intro a HF
      refine wl_y rfl HF rfl rfl (yl_assign rfl (HF.ev rfl)) ?_; clear HF; clear a; intro a HF
      refine wpList_nil ?_
      refine ex_then ?_
      have hz : xs.length + [goneX].length = (xs ++ [goneX]).length := (List.length_append ..).symm
      rw [hz] at HS HF
      have hnext : xs ++ [goneX] = colsS (ps.take (k + 1)) m := by rw [colsS_succ ps m k (by omega), ← hq]; unfold colS; rw [cc2]; rfl
      replace HS : Bx (St w0 ([rowA encS 1 9 (.slice ao4 ((xs ++ [goneX]).length) cp5) (xs ++ ([goneX])), boxA b1 1 25 (.agg #[.slice a0 ps.length c0]), rowA encS 1 9 (.slice (some ⟨b3, 0, none⟩) 1 1) ([goneX])]) _) := ⟨((HS.out).pick 2 rfl).pick 2 rfl⟩
      exact ⟨k + 1, ⟨_, _, xs ++ [goneX], ⟨by omega, hnext⟩, HF.less _ ⟨rfl, rfl, rfl, rfl, trivial⟩, (HS.out.erase 2)⟩, (by omega)⟩
    · clear HF; have HF := HF1; clear HF1
      refine wc_false HF rfl ?_
      refine wp_skip ?_
      refine ex_then ?_
      refine wp_region_lit ?_
      refine wl_y rfl HF rfl rfl (yl_move rfl (HF.ev rfl)) ?_; clear HF; clear a; intro a HF
      refine wl_y rfl HF rfl rfl (yl_fieldAddr (j := 0) rfl (HF.ev rfl) (by kernel_rfl)) ?_; clear HF; clear a; intro a HF
      refine wl_y rfl HF rfl rfl (yl_load (v := .slice a0 ps.length c0) rfl (HF.ev rfl) (((HS.out.box 1 rfl).cell 0).trans rfl) (by kernel_rfl)) ?_; clear HF; clear a; intro a HF
      refine wl_y rfl HF rfl rfl (yl_move rfl (HF.ev rfl)) ?_; clear HF; clear a; intro a HF
      refine wl_y rfl HF rfl rfl (yl_indexAddrR (e := 44) (i := k) (size := 3) rfl (HF.ev rfl) (HF.ev rfl) (by kernel_rfl) rfl (by omega) (R0.out.ao k (by omega))) ?_; clear HF; clear a; intro a HF
      refine wl_y rfl HF rfl rfl (yl_loadR (cs := [.slice ((ps.getD k default).a0) ((ps.getD k default).d.fCells.length) ((ps.getD k default).c0), .slice ((ps.getD k default).a1) ((ps.getD k default).d.fWaits.length) ((ps.getD k default).c1), .bool ((ps.getD k default).d.fGone)]) rfl (HF.ev rfl) (R0.out.elem HS.out (get_getD (xs := ps) (j := k) (d := default) (by omega))) (by kernel_rfl)) ?_; clear HF; clear a; intro a HF
      refine wl_y rfl HF rfl rfl (yl_move rfl (HF.ev rfl)) ?_; clear HF; clear a; intro a HF
      refine wl_callB rfl HF rfl (enter_of Try.func168 (by kernel_rfl) rfl) (args := #[.agg #[.slice ((ps.getD k default).a0) ((ps.getD k default).d.fCells.length) ((ps.getD k default).c0), .slice ((ps.getD k default).a1) ((ps.getD k default).d.fWaits.length) ((ps.getD k default).c1), .bool ((ps.getD k default).d.fGone)], .int .i64 (m : Int)]) rfl (v := .string ((ps.getD k default).d.look m)) (l3Read_any (ps.getD k default).a0 (ps.getD k default).c0 (ps.getD k default).a1 (ps.getD k default).c1 (ps.getD k default).d m _ (by rw [hok2.1]; exact hm) hok2.1 (by omega) ((HP.out k (by omega)).below HS.out.bel).rc ((HP.out k (by omega)).below HS.out.bel).rw) rfl rfl HS.out ?_; clear HF HS; clear a; intro w7 a HS HF; replace HS := Bx.mk HS
      refine wl_buildS (enc := encS) (e := 9) (size := 1) rfl HF rfl rfl rfl (ps := [(0, .string ((ps.getD k default).d.look m))]) rfl (cells := [.string ((ps.getD k default).d.look m)]) (by kernel_rfl) [(ps.getD k default).d.look m] rfl rfl (by unfold maxLen; omega) rfl HS.out ?_; clear HF HS; clear a; intro b6 a w8 HF HS; replace HS := Bx.mk HS
      refine wl_appL rfl HF rfl rfl rfl (HF.ev rfl) (HF.ev rfl) elemS encS_len HS.out 1 (xs := xs) rfl (ys := [(ps.getD k default).d.look m]) (St.rdN HS.out encS_len 0 rfl) (cells_one_S _) (by unfold maxLen; simp only [List.length_cons, List.length_nil]; omega) (by simp only [List.length_cons, List.length_nil]; omega) ?_; clear HF HS; clear a; intro ao7 cp8 w9 a HF HS; replace HS := Bx.mk HS
      replace HS : Bx (St w0 ([rowA encS 1 9 (.slice (some ⟨b6, 0, none⟩) 1 1) ([(ps.getD k default).d.look m]), rowA encS 1 9 (.slice ao7 (xs.length + ([(ps.getD k default).d.look m]).length) cp8) (xs ++ ([(ps.getD k default).d.look m])), boxA b1 1 25 (.agg #[.slice a0 ps.length c0])]) _) := ⟨HS.out⟩
      refine wl_y rfl HF rfl rfl (yl_assign rfl (HF.ev rfl)) ?_; clear HF; clear a; intro a HF
      refine wpList_nil ?_
      refine ex_block ?_
      refine ex_then ?_
      refine wp_region_lit ?_
      refine wl_y rfl HF rfl rfl (yl_move rfl (HF.ev rfl)) ?_; clear HF; clear a; intro a HF
      refine wl_y rfl HF rfl rfl (yl_addI rfl (HF.ev rfl) (HF.ev rfl) (i64w (by omega))) ?_; clear HF; clear a; intro a HF
      refine wl_y rfl HF rfl rfl (yl_assign rfl (HF.ev rfl)) ?_; clear HF; clear a; intro a HF
      refine wpList_nil ?_
      refine ex_then ?_
      have hz : xs.length + [(ps.getD k default).d.look m].length = (xs ++ [(ps.getD k default).d.look m]).length := (List.length_append ..).symm
      rw [hz] at HS HF
      have hnext : xs ++ [(ps.getD k default).d.look m] = colsS (ps.take (k + 1)) m := by rw [colsS_succ ps m k (by omega), ← hq]; unfold colS; rw [cc2]; rfl
      replace HS : Bx (St w0 ([rowA encS 1 9 (.slice ao7 ((xs ++ [(ps.getD k default).d.look m]).length) cp8) (xs ++ ([(ps.getD k default).d.look m])), boxA b1 1 25 (.agg #[.slice a0 ps.length c0]), rowA encS 1 9 (.slice (some ⟨b6, 0, none⟩) 1 1) ([(ps.getD k default).d.look m])]) _) := ⟨((HS.out).pick 2 rfl).pick 2 rfl⟩
      exact ⟨k + 1, ⟨_, _, xs ++ [(ps.getD k default).d.look m], ⟨by omega, hnext⟩, HF.less _ ⟨rfl, rfl, rfl, rfl, trivial⟩, (HS.out.erase 2)⟩, (by omega)⟩
  · clear HF; have HF := HF1; clear HF1
    have dcc1 := of_decide_eq_false cc1
    refine wc_false HF rfl ?_
    refine wp_exit ?_
    refine ex_then_exit ?_
    refine ex_then_exit ?_
    refine ex_block_hit ?_
    refine ex_then ?_
    refine wp_seq ?_
    refine wp_region_lit ?_
    refine wl_y rfl HF rfl rfl (yl_move rfl (HF.ev rfl)) ?_; clear HF; clear a; intro a HF
    refine wl_y rfl HF rfl rfl (yl_assign rfl (HF.ev rfl)) ?_; clear HF; clear a; intro a HF
    refine wpList_nil ?_
    refine ex_then ?_
    refine wp_ret ?_
    refine bp_ret1 HF Try.results152 (HF.res rfl) ?_
    replace HS : Bx (St w0 ([rowA encS 1 9 (.slice ao xs.length cp) xs, boxA b1 1 25 (.agg #[.slice a0 ps.length c0])]) _) := ⟨(HS.out).pick 0 rfl⟩
    obtain rfl : k = ps.length := by omega
    rw [List.take_length] at hq; subst hq
    exact ⟨_, _, by rw [hxl], by rw [← hxl]; exact (HS.out.erase 1)⟩

theorem joinB_le (c0 c1 c2 : ByteArray) (n : Nat) (l : Int) (hn : 1 ≤ n) : ((joinB c0 c1 c2 n l).getD ByteArray.empty).size ≤ n := by
  have hb := half_bounds n hn
  unfold joinB
  split
  · rename_i h; simp only [Option.getD_some, ByteArray.size_append]; omega
  · split
    · rename_i h; simp only [Option.getD_some, ByteArray.size_append, xorB_size]; omega
    · split
      · rename_i h
        simp only [Option.getD_some, ByteArray.size_append]
        rw [size_list (ByteArray.extract _ _ _), list_extract, List.length_take]
        omega
      · simp

def readF (x0 x1 x2 : ByteArray) (p : PtrD) (n : Nat) : ByteArray × Bool := (bif (joinB x0 x1 x2 n (-1)).isSome then (bif p.fits ((joinB x0 x1 x2 n (-1)).getD ByteArray.empty) then ((joinB x0 x1 x2 n (-1)).getD ByteArray.empty, true) else (bif (joinB x0 x1 x2 n (0)).isSome then (bif p.fits ((joinB x0 x1 x2 n (0)).getD ByteArray.empty) then ((joinB x0 x1 x2 n (0)).getD ByteArray.empty, true) else (bif (joinB x0 x1 x2 n (1)).isSome then (bif p.fits ((joinB x0 x1 x2 n (1)).getD ByteArray.empty) then ((joinB x0 x1 x2 n (1)).getD ByteArray.empty, true) else ((⟨#[]⟩ : ByteArray), false)) else ((⟨#[]⟩ : ByteArray), false))) else (bif (joinB x0 x1 x2 n (1)).isSome then (bif p.fits ((joinB x0 x1 x2 n (1)).getD ByteArray.empty) then ((joinB x0 x1 x2 n (1)).getD ByteArray.empty, true) else ((⟨#[]⟩ : ByteArray), false)) else ((⟨#[]⟩ : ByteArray), false)))) else (bif (joinB x0 x1 x2 n (0)).isSome then (bif p.fits ((joinB x0 x1 x2 n (0)).getD ByteArray.empty) then ((joinB x0 x1 x2 n (0)).getD ByteArray.empty, true) else (bif (joinB x0 x1 x2 n (1)).isSome then (bif p.fits ((joinB x0 x1 x2 n (1)).getD ByteArray.empty) then ((joinB x0 x1 x2 n (1)).getD ByteArray.empty, true) else ((⟨#[]⟩ : ByteArray), false)) else ((⟨#[]⟩ : ByteArray), false))) else (bif (joinB x0 x1 x2 n (1)).isSome then (bif p.fits ((joinB x0 x1 x2 n (1)).getD ByteArray.empty) then ((joinB x0 x1 x2 n (1)).getD ByteArray.empty, true) else ((⟨#[]⟩ : ByteArray), false)) else ((⟨#[]⟩ : ByteArray), false))))

set_option maxHeartbeats 1000000 in
set_option maxRecDepth 100000 in
theorem l4Read_any (a0 : Option Addr) (c0 : Nat) (ps : List HD) (w0 : World) (hl : ps.length = 3) (hok : ∀ k, k < ps.length → (ps.getD k default).d.ok = true) (hR : Rd HD.cells 3 w0 a0 ps.length ps) (hP : ∀ k, k < ps.length → (ps.getD k default).reads w0) (p : PtrD) (m n : Nat) (hpa : p.fAt = (m : Int)) (hps : p.fSize = (n : Int)) (hm : m < 64) (hn1 : 1 ≤ n) (hn2 : n ≤ 128) (x0 x1 x2 : ByteArray) (hz0 : x0.size ≤ 1048576) (hz1 : x1.size ≤ 1048576) (hz2 : x2.size ≤ 1048576) (hx : colsS ps m = [x0, x1, x2]) : Calls Try.prog 151 #[.agg #[.slice a0 3 c0], .agg #[.int .i64 p.fAt, .int .i64 p.fBirth, .int .i64 p.fSize, .int .i64 p.fSum, .int .i64 p.fLevel]] w0 fun e w' => e = .returned (.tuple #[.string (readF x0 x1 x2 p n).1, .bool (readF x0 x1 x2 p n).2]) ∧ Below w0.heap.size w0 w' := by
  have HR := Bx.mk hR; have HP := Bx.mk hP; clear hR hP
  have HS := Bx.mk (St.start w0)
  refine wc_enter Try.func151 rfl Try.ntmps151 [(0, .agg #[.slice a0 3 c0]), (1, .agg #[.int .i64 p.fAt, .int .i64 p.fBirth, .int .i64 p.fSize, .int .i64 p.fSum, .int .i64 p.fLevel])] ⟨rfl, rfl, trivial⟩ rfl ?_; intro a HF
  refine wp_seq ?_
  refine wp_region_lit ?_
  refine wl_box rfl HF rfl (HF.ev rfl) (Z := [.slice a0 3 c0]) rfl rfl rfl rfl HS.out ?_; clear HF HS; clear a; intro a w1 b1 HF HS; replace HS := Bx.mk HS
  refine wl_box rfl HF rfl (HF.ev rfl) (Z := [.int .i64 p.fAt, .int .i64 p.fBirth, .int .i64 p.fSize, .int .i64 p.fSum, .int .i64 p.fLevel]) rfl rfl rfl rfl HS.out ?_; clear HF HS; clear a; intro a w2 b2 HF HS; replace HS := Bx.mk HS
  refine wl_y rfl HF rfl rfl (yl_assign rfl (HF.ev rfl)) ?_; clear HF; clear a; intro a HF
  refine wl_y rfl HF rfl rfl (yl_assign rfl (HF.ev rfl)) ?_; clear HF; clear a; intro a HF
  refine wpList_nil ?_
  refine ex_then ?_
  refine wp_seq ?_
  refine wp_region_lit ?_
  refine wl_y rfl HF rfl rfl (yl_loadR (cs := [.slice a0 3 c0]) rfl (HF.ev rfl) ((HS.out.box 1 rfl).sub 0 1) (by kernel_rfl)) ?_; clear HF; clear a; intro a HF
  refine wl_y rfl HF rfl rfl (yl_fieldAddr (j := 0) rfl (HF.ev rfl) (by kernel_rfl)) ?_; clear HF; clear a; intro a HF
  refine wl_y rfl HF rfl rfl (yl_load (v := .int .i64 p.fAt) rfl (HF.ev rfl) (((HS.out.box 0 rfl).cell 0).trans rfl) (by kernel_rfl)) ?_; clear HF; clear a; intro a HF
  refine wl_call rfl HF rfl (enter_of Try.func152 (by kernel_rfl) rfl) (args := #[.agg #[.slice a0 3 c0], .int .i64 p.fAt]) rfl (by have := l4Cols_any a0 c0 ps _ (by omega) hok (HR.out.below HS.out.bel) (fun k hk => (HP.out k hk).below HS.out.bel) m hm; rw [hx, hl, ← hpa] at this; exact this) rfl rfl ?_
  rintro _ w3 ⟨ao, cp, rfl, hs⟩
  refine ⟨_, rfl, ?_⟩; replace HS := Bx.mk (HS.out.add hs); clear hs HF; clear a; intro a HF
  replace HS : Bx (St w0 ([rowA encS 1 9 (.slice ao 3 cp) ([x0, x1, x2]), boxA b2 5 33 (.agg #[.int .i64 p.fAt, .int .i64 p.fBirth, .int .i64 p.fSize, .int .i64 p.fSum, .int .i64 p.fLevel]), boxA b1 1 25 (.agg #[.slice a0 3 c0])]) _) := ⟨HS.out⟩
  refine wl_y rfl HF rfl rfl (yl_assign rfl (HF.ev rfl)) ?_; clear HF; clear a; intro a HF
  refine wpList_nil ?_
  refine ex_then ?_
  refine wp_seq ?_
  refine wp_seq ?_
  refine wp_region_lit ?_
  refine wl_y rfl HF rfl rfl (yl_assign rfl (HF.ev rfl)) ?_; clear HF; clear a; intro a HF
  refine wpList_nil ?_
  refine ex_then ?_
  refine wp_block ?_
  refine wc_rounds 4 ?_
  refine wp_seq ?_
  refine wp_seq ?_
  refine wp_region_lit ?_
  refine wl_y rfl HF rfl rfl (yl_move rfl (HF.ev rfl)) ?_; clear HF; clear a; intro a HF
  refine wl_y rfl HF rfl rfl (yl_leqI rfl (HF.ev rfl) (HF.ev rfl)) ?_; clear HF; clear a; intro a HF
  refine wpList_nil ?_
  refine ex_then ?_
  replace HF := HF.know (k := 15) (c := true) rfl (by decide)
  refine wc_true HF rfl ?_
  refine wp_skip ?_
  refine ex_then ?_
  refine wp_seq ?_
  refine wp_block ?_
  refine wp_seq ?_
  refine wp_region_lit ?_
  refine wl_y rfl HF rfl rfl (yl_move rfl (HF.ev rfl)) ?_; clear HF; clear a; intro a HF
  refine wl_y rfl HF rfl rfl (yl_fieldAddr (j := 2) rfl (HF.ev rfl) (by kernel_rfl)) ?_; clear HF; clear a; intro a HF
  refine wl_y rfl HF rfl rfl (yl_load (v := .int .i64 p.fSize) rfl (HF.ev rfl) (((HS.out.box 1 rfl).cell 2).trans rfl) (by kernel_rfl)) ?_; clear HF; clear a; intro a HF
  refine wl_y rfl HF rfl rfl (yl_move rfl (HF.ev rfl)) ?_; clear HF; clear a; intro a HF
  refine wl_callB rfl HF rfl (enter_of Try.func166 (by kernel_rfl) rfl) (args := #[.slice ao 3 cp, .int .i64 p.fSize, .int .i64 (-1)]) rfl (v := .tuple #[.string ((joinB x0 x1 x2 n (-1)).getD ByteArray.empty), .bool ((joinB x0 x1 x2 n (-1)).isSome)]) ((by have := joinNS_any ao cp x0 x1 x2 n _ hn1 hn2 hz0 hz1 hz2 (St.rdN HS.out encS_len 0 rfl); rw [← hps] at this; exact this)) rfl rfl HS.out ?_; clear HF HS; clear a; intro w4 a HS HF; replace HS := Bx.mk HS
  refine wl_y rfl HF rfl rfl (yl_move rfl (HF.ev rfl)) ?_; clear HF; clear a; intro a HF
  refine wl_y rfl HF rfl rfl (yl_extract rfl (HF.ev rfl) rfl) ?_; clear HF; clear a; intro a HF
  refine wl_y rfl HF rfl rfl (yl_extract rfl (HF.ev rfl) rfl) ?_; clear HF; clear a; intro a HF
  refine wl_y rfl HF rfl rfl (yl_assign rfl (HF.ev rfl)) ?_; clear HF; clear a; intro a HF
  refine wl_y rfl HF rfl rfl (yl_assign rfl (HF.ev rfl)) ?_; clear HF; clear a; intro a HF
  refine wpList_nil ?_
  refine ex_then ?_
  refine wp_seq ?_
  refine wp_region_lit ?_
  refine wl_y rfl HF rfl rfl (yl_move rfl (HF.ev rfl)) ?_; clear HF; clear a; intro a HF
  refine wl_y rfl HF rfl rfl (yl_move rfl (HF.ev rfl)) ?_; clear HF; clear a; intro a HF
  refine HF.cases 27 rfl (fun cc1 HF1 => ?_) (fun cc1 HF1 => ?_)
  · clear HF; have HF := HF1; clear HF1
    refine wl_yg HF rfl rfl rfl rfl rfl (yl_loadR (cs := [.int .i64 p.fAt, .int .i64 p.fBirth, .int .i64 p.fSize, .int .i64 p.fSum, .int .i64 p.fLevel]) rfl (HF.ev rfl) ((HS.out.box 1 rfl).sub 0 5) (by kernel_rfl)) ?_; clear HF; clear a; intro a HF
    refine wl_yg HF rfl rfl rfl rfl rfl (yl_move rfl (HF.ev rfl)) ?_; clear HF; clear a; intro a HF
    refine wl_callBg HF rfl rfl rfl rfl (enter_of Try.func167 (by kernel_rfl) rfl) (args := #[.agg #[.int .i64 p.fAt, .int .i64 p.fBirth, .int .i64 p.fSize, .int .i64 p.fSum, .int .i64 p.fLevel], .string ((joinB x0 x1 x2 n (-1)).getD ByteArray.empty)]) rfl (v := .bool (p.fits ((joinB x0 x1 x2 n (-1)).getD ByteArray.empty))) (specFits_any p ((joinB x0 x1 x2 n (-1)).getD ByteArray.empty) _ (by have := joinB_le x0 x1 x2 n (-1) hn1; omega)) rfl rfl HS.out ?_; clear HF HS; clear a; intro w5 a HS HF; replace HS := Bx.mk HS
    refine wl_y rfl HF rfl rfl (yl_pick_t rfl (HF.ev rfl) (HF.ev rfl)) ?_; clear HF; clear a; intro a HF
    refine wpList_nil ?_
    refine ex_then ?_
    refine HF.cases 31 rfl (fun cc2 HF1 => ?_) (fun cc2 HF1 => ?_)
    · clear HF; have HF := HF1; clear HF1
      refine wc_true HF rfl ?_
      refine wp_seq ?_
      refine wp_region_lit ?_
      refine wl_y rfl HF rfl rfl (yl_move rfl (HF.ev rfl)) ?_; clear HF; clear a; intro a HF
      refine wl_y rfl HF rfl rfl (yl_assign rfl (HF.ev rfl)) ?_; clear HF; clear a; intro a HF
      refine wl_y rfl HF rfl rfl (yl_assign rfl (HF.ev rfl)) ?_; clear HF; clear a; intro a HF
      refine wpList_nil ?_
      refine ex_then ?_
      refine wp_ret ?_
      refine ex_block_ret ?_
      refine ex_then_ret ?_
      refine ex_then_ret ?_
      refine ex_block_ret ?_
      refine ex_then_ret ?_
      refine bp_ret2 HF Try.results151 (HF.res rfl) (HF.res rfl) ?_
      have hfn : readF x0 x1 x2 p n = ((joinB x0 x1 x2 n (-1)).getD ByteArray.empty, true) := by simp only [readF, cc1, cc2, cond_true, cond_false]
      exact ⟨by rw [hfn] <;> rfl, HS.out.bel⟩
    · clear HF; have HF := HF1; clear HF1
      refine wc_false HF rfl ?_
      refine wp_skip ?_
      refine ex_block ?_
      refine ex_then ?_
      refine wp_region_lit ?_
      refine wl_y rfl HF rfl rfl (yl_move rfl (HF.ev rfl)) ?_; clear HF; clear a; intro a HF
      refine wl_y rfl HF rfl rfl (yl_addI (r := 0) rfl (HF.ev rfl) (HF.ev rfl) (by decide)) ?_; clear HF; clear a; intro a HF
      refine wl_y rfl HF rfl rfl (yl_assign rfl (HF.ev rfl)) ?_; clear HF; clear a; intro a HF
      refine wpList_nil ?_
      refine ex_then ?_
      refine wc_round 3 ?_
      refine wp_seq ?_
      refine wp_seq ?_
      refine wp_region_lit ?_
      refine wl_y rfl HF rfl rfl (yl_move rfl (HF.ev rfl)) ?_; clear HF; clear a; intro a HF
      refine wl_y rfl HF rfl rfl (yl_leqI rfl (HF.ev rfl) (HF.ev rfl)) ?_; clear HF; clear a; intro a HF
      refine wpList_nil ?_
      refine ex_then ?_
      replace HF := HF.know (k := 15) (c := true) rfl (by decide)
      refine wc_true HF rfl ?_
      refine wp_skip ?_
      refine ex_then ?_
      refine wp_seq ?_
      refine wp_block ?_
      refine wp_seq ?_
      refine wp_region_lit ?_
      refine wl_y rfl HF rfl rfl (yl_move rfl (HF.ev rfl)) ?_; clear HF; clear a; intro a HF
      refine wl_y rfl HF rfl rfl (yl_fieldAddr (j := 2) rfl (HF.ev rfl) (by kernel_rfl)) ?_; clear HF; clear a; intro a HF
      refine wl_y rfl HF rfl rfl (yl_load (v := .int .i64 p.fSize) rfl (HF.ev rfl) (((HS.out.box 1 rfl).cell 2).trans rfl) (by kernel_rfl)) ?_; clear HF; clear a; intro a HF
      refine wl_y rfl HF rfl rfl (yl_move rfl (HF.ev rfl)) ?_; clear HF; clear a; intro a HF
      refine wl_callB rfl HF rfl (enter_of Try.func166 (by kernel_rfl) rfl) (args := #[.slice ao 3 cp, .int .i64 p.fSize, .int .i64 0]) rfl (v := .tuple #[.string ((joinB x0 x1 x2 n (0)).getD ByteArray.empty), .bool ((joinB x0 x1 x2 n (0)).isSome)]) ((by have := joinZS_any ao cp x0 x1 x2 n _ hn1 hn2 hz0 hz1 hz2 (St.rdN HS.out encS_len 0 rfl); rw [← hps] at this; exact this)) rfl rfl HS.out ?_; clear HF HS; clear a; intro w6 a HS HF; replace HS := Bx.mk HS
      refine wl_y rfl HF rfl rfl (yl_move rfl (HF.ev rfl)) ?_; clear HF; clear a; intro a HF
      refine wl_y rfl HF rfl rfl (yl_extract rfl (HF.ev rfl) rfl) ?_; clear HF; clear a; intro a HF
      refine wl_y rfl HF rfl rfl (yl_extract rfl (HF.ev rfl) rfl) ?_; clear HF; clear a; intro a HF
      refine wl_y rfl HF rfl rfl (yl_assign rfl (HF.ev rfl)) ?_; clear HF; clear a; intro a HF
      refine wl_y rfl HF rfl rfl (yl_assign rfl (HF.ev rfl)) ?_; clear HF; clear a; intro a HF
      refine wpList_nil ?_
      refine ex_then ?_
      refine wp_seq ?_
      refine wp_region_lit ?_
      refine wl_y rfl HF rfl rfl (yl_move rfl (HF.ev rfl)) ?_; clear HF; clear a; intro a HF
      refine wl_y rfl HF rfl rfl (yl_move rfl (HF.ev rfl)) ?_; clear HF; clear a; intro a HF
      refine HF.cases 27 rfl (fun cc3 HF1 => ?_) (fun cc3 HF1 => ?_)
      · clear HF; have HF := HF1; clear HF1
        refine wl_yg HF rfl rfl rfl rfl rfl (yl_loadR (cs := [.int .i64 p.fAt, .int .i64 p.fBirth, .int .i64 p.fSize, .int .i64 p.fSum, .int .i64 p.fLevel]) rfl (HF.ev rfl) ((HS.out.box 1 rfl).sub 0 5) (by kernel_rfl)) ?_; clear HF; clear a; intro a HF
        refine wl_yg HF rfl rfl rfl rfl rfl (yl_move rfl (HF.ev rfl)) ?_; clear HF; clear a; intro a HF
        refine wl_callBg HF rfl rfl rfl rfl (enter_of Try.func167 (by kernel_rfl) rfl) (args := #[.agg #[.int .i64 p.fAt, .int .i64 p.fBirth, .int .i64 p.fSize, .int .i64 p.fSum, .int .i64 p.fLevel], .string ((joinB x0 x1 x2 n (0)).getD ByteArray.empty)]) rfl (v := .bool (p.fits ((joinB x0 x1 x2 n (0)).getD ByteArray.empty))) (specFits_any p ((joinB x0 x1 x2 n (0)).getD ByteArray.empty) _ (by have := joinB_le x0 x1 x2 n (0) hn1; omega)) rfl rfl HS.out ?_; clear HF HS; clear a; intro w7 a HS HF; replace HS := Bx.mk HS
        refine wl_y rfl HF rfl rfl (yl_pick_t rfl (HF.ev rfl) (HF.ev rfl)) ?_; clear HF; clear a; intro a HF
        refine wpList_nil ?_
        refine ex_then ?_
        refine HF.cases 31 rfl (fun cc4 HF1 => ?_) (fun cc4 HF1 => ?_)
        · clear HF; have HF := HF1; clear HF1
          refine wc_true HF rfl ?_
          refine wp_seq ?_
          refine wp_region_lit ?_
          refine wl_y rfl HF rfl rfl (yl_move rfl (HF.ev rfl)) ?_; clear HF; clear a; intro a HF
          refine wl_y rfl HF rfl rfl (yl_assign rfl (HF.ev rfl)) ?_; clear HF; clear a; intro a HF
          refine wl_y rfl HF rfl rfl (yl_assign rfl (HF.ev rfl)) ?_; clear HF; clear a; intro a HF
          refine wpList_nil ?_
          refine ex_then ?_
          refine wp_ret ?_
          refine ex_block_ret ?_
          refine ex_then_ret ?_
          refine ex_then_ret ?_
          refine ex_block_ret ?_
          refine ex_then_ret ?_
          refine bp_ret2 HF Try.results151 (HF.res rfl) (HF.res rfl) ?_
          have hfn : readF x0 x1 x2 p n = ((joinB x0 x1 x2 n (0)).getD ByteArray.empty, true) := by simp only [readF, cc1, cc2, cc3, cc4, cond_true, cond_false]
          exact ⟨by rw [hfn] <;> rfl, HS.out.bel⟩
        · clear HF; have HF := HF1; clear HF1
          refine wc_false HF rfl ?_
          refine wp_skip ?_
          refine ex_block ?_
          refine ex_then ?_
          refine wp_region_lit ?_
          refine wl_y rfl HF rfl rfl (yl_move rfl (HF.ev rfl)) ?_; clear HF; clear a; intro a HF
          refine wl_y rfl HF rfl rfl (yl_addI (r := 1) rfl (HF.ev rfl) (HF.ev rfl) (by decide)) ?_; clear HF; clear a; intro a HF
          refine wl_y rfl HF rfl rfl (yl_assign rfl (HF.ev rfl)) ?_; clear HF; clear a; intro a HF
          refine wpList_nil ?_
          refine ex_then ?_
          refine wc_round 2 ?_
          refine wp_seq ?_
          refine wp_seq ?_
          refine wp_region_lit ?_
          refine wl_y rfl HF rfl rfl (yl_move rfl (HF.ev rfl)) ?_; clear HF; clear a; intro a HF
          refine wl_y rfl HF rfl rfl (yl_leqI rfl (HF.ev rfl) (HF.ev rfl)) ?_; clear HF; clear a; intro a HF
          refine wpList_nil ?_
          refine ex_then ?_
          replace HF := HF.know (k := 15) (c := true) rfl (by decide)
          refine wc_true HF rfl ?_
          refine wp_skip ?_
          refine ex_then ?_
          refine wp_seq ?_
          refine wp_block ?_
          refine wp_seq ?_
          refine wp_region_lit ?_
          refine wl_y rfl HF rfl rfl (yl_move rfl (HF.ev rfl)) ?_; clear HF; clear a; intro a HF
          refine wl_y rfl HF rfl rfl (yl_fieldAddr (j := 2) rfl (HF.ev rfl) (by kernel_rfl)) ?_; clear HF; clear a; intro a HF
          refine wl_y rfl HF rfl rfl (yl_load (v := .int .i64 p.fSize) rfl (HF.ev rfl) (((HS.out.box 1 rfl).cell 2).trans rfl) (by kernel_rfl)) ?_; clear HF; clear a; intro a HF
          refine wl_y rfl HF rfl rfl (yl_move rfl (HF.ev rfl)) ?_; clear HF; clear a; intro a HF
          refine wl_callB rfl HF rfl (enter_of Try.func166 (by kernel_rfl) rfl) (args := #[.slice ao 3 cp, .int .i64 p.fSize, .int .i64 1]) rfl (v := .tuple #[.string ((joinB x0 x1 x2 n (1)).getD ByteArray.empty), .bool ((joinB x0 x1 x2 n (1)).isSome)]) ((by have := joinOS_any ao cp x0 x1 x2 n _ hn1 hn2 hz0 hz1 hz2 (St.rdN HS.out encS_len 0 rfl); rw [← hps] at this; exact this)) rfl rfl HS.out ?_; clear HF HS; clear a; intro w8 a HS HF; replace HS := Bx.mk HS
          refine wl_y rfl HF rfl rfl (yl_move rfl (HF.ev rfl)) ?_; clear HF; clear a; intro a HF
          refine wl_y rfl HF rfl rfl (yl_extract rfl (HF.ev rfl) rfl) ?_; clear HF; clear a; intro a HF
          refine wl_y rfl HF rfl rfl (yl_extract rfl (HF.ev rfl) rfl) ?_; clear HF; clear a; intro a HF
          refine wl_y rfl HF rfl rfl (yl_assign rfl (HF.ev rfl)) ?_; clear HF; clear a; intro a HF
          refine wl_y rfl HF rfl rfl (yl_assign rfl (HF.ev rfl)) ?_; clear HF; clear a; intro a HF
          refine wpList_nil ?_
          refine ex_then ?_
          refine wp_seq ?_
          refine wp_region_lit ?_
          refine wl_y rfl HF rfl rfl (yl_move rfl (HF.ev rfl)) ?_; clear HF; clear a; intro a HF
          refine wl_y rfl HF rfl rfl (yl_move rfl (HF.ev rfl)) ?_; clear HF; clear a; intro a HF
          refine HF.cases 27 rfl (fun cc5 HF1 => ?_) (fun cc5 HF1 => ?_)
          · clear HF; have HF := HF1; clear HF1
            refine wl_yg HF rfl rfl rfl rfl rfl (yl_loadR (cs := [.int .i64 p.fAt, .int .i64 p.fBirth, .int .i64 p.fSize, .int .i64 p.fSum, .int .i64 p.fLevel]) rfl (HF.ev rfl) ((HS.out.box 1 rfl).sub 0 5) (by kernel_rfl)) ?_; clear HF; clear a; intro a HF
            refine wl_yg HF rfl rfl rfl rfl rfl (yl_move rfl (HF.ev rfl)) ?_; clear HF; clear a; intro a HF
            refine wl_callBg HF rfl rfl rfl rfl (enter_of Try.func167 (by kernel_rfl) rfl) (args := #[.agg #[.int .i64 p.fAt, .int .i64 p.fBirth, .int .i64 p.fSize, .int .i64 p.fSum, .int .i64 p.fLevel], .string ((joinB x0 x1 x2 n (1)).getD ByteArray.empty)]) rfl (v := .bool (p.fits ((joinB x0 x1 x2 n (1)).getD ByteArray.empty))) (specFits_any p ((joinB x0 x1 x2 n (1)).getD ByteArray.empty) _ (by have := joinB_le x0 x1 x2 n (1) hn1; omega)) rfl rfl HS.out ?_; clear HF HS; clear a; intro w9 a HS HF; replace HS := Bx.mk HS
            refine wl_y rfl HF rfl rfl (yl_pick_t rfl (HF.ev rfl) (HF.ev rfl)) ?_; clear HF; clear a; intro a HF
            refine wpList_nil ?_
            refine ex_then ?_
            refine HF.cases 31 rfl (fun cc6 HF1 => ?_) (fun cc6 HF1 => ?_)
            · clear HF; have HF := HF1; clear HF1
              refine wc_true HF rfl ?_
              refine wp_seq ?_
              refine wp_region_lit ?_
              refine wl_y rfl HF rfl rfl (yl_move rfl (HF.ev rfl)) ?_; clear HF; clear a; intro a HF
              refine wl_y rfl HF rfl rfl (yl_assign rfl (HF.ev rfl)) ?_; clear HF; clear a; intro a HF
              refine wl_y rfl HF rfl rfl (yl_assign rfl (HF.ev rfl)) ?_; clear HF; clear a; intro a HF
              refine wpList_nil ?_
              refine ex_then ?_
              refine wp_ret ?_
              refine ex_block_ret ?_
              refine ex_then_ret ?_
              refine ex_then_ret ?_
              refine ex_block_ret ?_
              refine ex_then_ret ?_
              refine bp_ret2 HF Try.results151 (HF.res rfl) (HF.res rfl) ?_
              have hfn : readF x0 x1 x2 p n = ((joinB x0 x1 x2 n (1)).getD ByteArray.empty, true) := by simp only [readF, cc1, cc2, cc3, cc4, cc5, cc6, cond_true, cond_false]
              exact ⟨by rw [hfn] <;> rfl, HS.out.bel⟩
            · clear HF; have HF := HF1; clear HF1
              refine wc_false HF rfl ?_
              refine wp_skip ?_
              refine ex_block ?_
              refine ex_then ?_
              refine wp_region_lit ?_
              refine wl_y rfl HF rfl rfl (yl_move rfl (HF.ev rfl)) ?_; clear HF; clear a; intro a HF
              refine wl_y rfl HF rfl rfl (yl_addI (r := 2) rfl (HF.ev rfl) (HF.ev rfl) (by decide)) ?_; clear HF; clear a; intro a HF
              refine wl_y rfl HF rfl rfl (yl_assign rfl (HF.ev rfl)) ?_; clear HF; clear a; intro a HF
              refine wpList_nil ?_
              refine ex_then ?_
              refine wc_round 1 ?_
              refine wp_seq ?_
              refine wp_seq ?_
              refine wp_region_lit ?_
              refine wl_y rfl HF rfl rfl (yl_move rfl (HF.ev rfl)) ?_; clear HF; clear a; intro a HF
              refine wl_y rfl HF rfl rfl (yl_leqI rfl (HF.ev rfl) (HF.ev rfl)) ?_; clear HF; clear a; intro a HF
              refine wpList_nil ?_
              refine ex_then ?_
              replace HF := HF.know (k := 15) (c := false) rfl (by decide)
              refine wc_false HF rfl ?_
              refine wp_exit ?_
              refine ex_then_exit ?_
              refine ex_then_exit ?_
              refine ex_block_hit ?_
              refine ex_then ?_
              refine wp_seq ?_
              refine wp_region_lit ?_
              refine wl_y rfl HF rfl rfl (yl_assign rfl (HF.ev rfl)) ?_; clear HF; clear a; intro a HF
              refine wl_y rfl HF rfl rfl (yl_assign rfl (HF.ev rfl)) ?_; clear HF; clear a; intro a HF
              refine wpList_nil ?_
              refine ex_then ?_
              refine wp_ret ?_
              refine bp_ret2 HF Try.results151 (HF.res rfl) (HF.res rfl) ?_
              have hfn : readF x0 x1 x2 p n = ((⟨#[]⟩ : ByteArray), false) := by simp only [readF, cc1, cc2, cc3, cc4, cc5, cc6, cond_true, cond_false]
              exact ⟨by rw [hfn] <;> rfl, HS.out.bel⟩
          · clear HF; have HF := HF1; clear HF1
            refine wl_skip HF rfl rfl rfl rfl rfl rfl ?_; clear HF; clear a; intro a HF
            refine wl_skip HF rfl rfl rfl rfl rfl rfl ?_; clear HF; clear a; intro a HF
            refine wl_skip HF rfl rfl rfl rfl rfl rfl ?_; clear HF; clear a; intro a HF
            refine wl_y rfl HF rfl rfl (yl_pick_f rfl (HF.ev rfl) (HF.ev rfl)) ?_; clear HF; clear a; intro a HF
            refine wpList_nil ?_
            refine ex_then ?_
            refine wc_false HF rfl ?_
            refine wp_skip ?_
            refine ex_block ?_
            refine ex_then ?_
            refine wp_region_lit ?_
            refine wl_y rfl HF rfl rfl (yl_move rfl (HF.ev rfl)) ?_; clear HF; clear a; intro a HF
            refine wl_y rfl HF rfl rfl (yl_addI (r := 2) rfl (HF.ev rfl) (HF.ev rfl) (by decide)) ?_; clear HF; clear a; intro a HF
            refine wl_y rfl HF rfl rfl (yl_assign rfl (HF.ev rfl)) ?_; clear HF; clear a; intro a HF
            refine wpList_nil ?_
            refine ex_then ?_
            refine wc_round 1 ?_
            refine wp_seq ?_
            refine wp_seq ?_
            refine wp_region_lit ?_
            refine wl_y rfl HF rfl rfl (yl_move rfl (HF.ev rfl)) ?_; clear HF; clear a; intro a HF
            refine wl_y rfl HF rfl rfl (yl_leqI rfl (HF.ev rfl) (HF.ev rfl)) ?_; clear HF; clear a; intro a HF
            refine wpList_nil ?_
            refine ex_then ?_
            replace HF := HF.know (k := 15) (c := false) rfl (by decide)
            refine wc_false HF rfl ?_
            refine wp_exit ?_
            refine ex_then_exit ?_
            refine ex_then_exit ?_
            refine ex_block_hit ?_
            refine ex_then ?_
            refine wp_seq ?_
            refine wp_region_lit ?_
            refine wl_y rfl HF rfl rfl (yl_assign rfl (HF.ev rfl)) ?_; clear HF; clear a; intro a HF
            refine wl_y rfl HF rfl rfl (yl_assign rfl (HF.ev rfl)) ?_; clear HF; clear a; intro a HF
            refine wpList_nil ?_
            refine ex_then ?_
            refine wp_ret ?_
            refine bp_ret2 HF Try.results151 (HF.res rfl) (HF.res rfl) ?_
            have hfn : readF x0 x1 x2 p n = ((⟨#[]⟩ : ByteArray), false) := by simp only [readF, cc1, cc2, cc3, cc4, cc5, cond_true, cond_false]
            exact ⟨by rw [hfn] <;> rfl, HS.out.bel⟩
      · clear HF; have HF := HF1; clear HF1
        refine wl_skip HF rfl rfl rfl rfl rfl rfl ?_; clear HF; clear a; intro a HF
        refine wl_skip HF rfl rfl rfl rfl rfl rfl ?_; clear HF; clear a; intro a HF
        refine wl_skip HF rfl rfl rfl rfl rfl rfl ?_; clear HF; clear a; intro a HF
        refine wl_y rfl HF rfl rfl (yl_pick_f rfl (HF.ev rfl) (HF.ev rfl)) ?_; clear HF; clear a; intro a HF
        refine wpList_nil ?_
        refine ex_then ?_
        refine wc_false HF rfl ?_
        refine wp_skip ?_
        refine ex_block ?_
        refine ex_then ?_
        refine wp_region_lit ?_
        refine wl_y rfl HF rfl rfl (yl_move rfl (HF.ev rfl)) ?_; clear HF; clear a; intro a HF
        refine wl_y rfl HF rfl rfl (yl_addI (r := 1) rfl (HF.ev rfl) (HF.ev rfl) (by decide)) ?_; clear HF; clear a; intro a HF
        refine wl_y rfl HF rfl rfl (yl_assign rfl (HF.ev rfl)) ?_; clear HF; clear a; intro a HF
        refine wpList_nil ?_
        refine ex_then ?_
        refine wc_round 2 ?_
        refine wp_seq ?_
        refine wp_seq ?_
        refine wp_region_lit ?_
        refine wl_y rfl HF rfl rfl (yl_move rfl (HF.ev rfl)) ?_; clear HF; clear a; intro a HF
        refine wl_y rfl HF rfl rfl (yl_leqI rfl (HF.ev rfl) (HF.ev rfl)) ?_; clear HF; clear a; intro a HF
        refine wpList_nil ?_
        refine ex_then ?_
        replace HF := HF.know (k := 15) (c := true) rfl (by decide)
        refine wc_true HF rfl ?_
        refine wp_skip ?_
        refine ex_then ?_
        refine wp_seq ?_
        refine wp_block ?_
        refine wp_seq ?_
        refine wp_region_lit ?_
        refine wl_y rfl HF rfl rfl (yl_move rfl (HF.ev rfl)) ?_; clear HF; clear a; intro a HF
        refine wl_y rfl HF rfl rfl (yl_fieldAddr (j := 2) rfl (HF.ev rfl) (by kernel_rfl)) ?_; clear HF; clear a; intro a HF
        refine wl_y rfl HF rfl rfl (yl_load (v := .int .i64 p.fSize) rfl (HF.ev rfl) (((HS.out.box 1 rfl).cell 2).trans rfl) (by kernel_rfl)) ?_; clear HF; clear a; intro a HF
        refine wl_y rfl HF rfl rfl (yl_move rfl (HF.ev rfl)) ?_; clear HF; clear a; intro a HF
        refine wl_callB rfl HF rfl (enter_of Try.func166 (by kernel_rfl) rfl) (args := #[.slice ao 3 cp, .int .i64 p.fSize, .int .i64 1]) rfl (v := .tuple #[.string ((joinB x0 x1 x2 n (1)).getD ByteArray.empty), .bool ((joinB x0 x1 x2 n (1)).isSome)]) ((by have := joinOS_any ao cp x0 x1 x2 n _ hn1 hn2 hz0 hz1 hz2 (St.rdN HS.out encS_len 0 rfl); rw [← hps] at this; exact this)) rfl rfl HS.out ?_; clear HF HS; clear a; intro w10 a HS HF; replace HS := Bx.mk HS
        refine wl_y rfl HF rfl rfl (yl_move rfl (HF.ev rfl)) ?_; clear HF; clear a; intro a HF
        refine wl_y rfl HF rfl rfl (yl_extract rfl (HF.ev rfl) rfl) ?_; clear HF; clear a; intro a HF
        refine wl_y rfl HF rfl rfl (yl_extract rfl (HF.ev rfl) rfl) ?_; clear HF; clear a; intro a HF
        refine wl_y rfl HF rfl rfl (yl_assign rfl (HF.ev rfl)) ?_; clear HF; clear a; intro a HF
        refine wl_y rfl HF rfl rfl (yl_assign rfl (HF.ev rfl)) ?_; clear HF; clear a; intro a HF
        refine wpList_nil ?_
        refine ex_then ?_
        refine wp_seq ?_
        refine wp_region_lit ?_
        refine wl_y rfl HF rfl rfl (yl_move rfl (HF.ev rfl)) ?_; clear HF; clear a; intro a HF
        refine wl_y rfl HF rfl rfl (yl_move rfl (HF.ev rfl)) ?_; clear HF; clear a; intro a HF
        refine HF.cases 27 rfl (fun cc7 HF1 => ?_) (fun cc7 HF1 => ?_)
        · clear HF; have HF := HF1; clear HF1
          refine wl_yg HF rfl rfl rfl rfl rfl (yl_loadR (cs := [.int .i64 p.fAt, .int .i64 p.fBirth, .int .i64 p.fSize, .int .i64 p.fSum, .int .i64 p.fLevel]) rfl (HF.ev rfl) ((HS.out.box 1 rfl).sub 0 5) (by kernel_rfl)) ?_; clear HF; clear a; intro a HF
          refine wl_yg HF rfl rfl rfl rfl rfl (yl_move rfl (HF.ev rfl)) ?_; clear HF; clear a; intro a HF
          refine wl_callBg HF rfl rfl rfl rfl (enter_of Try.func167 (by kernel_rfl) rfl) (args := #[.agg #[.int .i64 p.fAt, .int .i64 p.fBirth, .int .i64 p.fSize, .int .i64 p.fSum, .int .i64 p.fLevel], .string ((joinB x0 x1 x2 n (1)).getD ByteArray.empty)]) rfl (v := .bool (p.fits ((joinB x0 x1 x2 n (1)).getD ByteArray.empty))) (specFits_any p ((joinB x0 x1 x2 n (1)).getD ByteArray.empty) _ (by have := joinB_le x0 x1 x2 n (1) hn1; omega)) rfl rfl HS.out ?_; clear HF HS; clear a; intro w11 a HS HF; replace HS := Bx.mk HS
          refine wl_y rfl HF rfl rfl (yl_pick_t rfl (HF.ev rfl) (HF.ev rfl)) ?_; clear HF; clear a; intro a HF
          refine wpList_nil ?_
          refine ex_then ?_
          refine HF.cases 31 rfl (fun cc8 HF1 => ?_) (fun cc8 HF1 => ?_)
          · clear HF; have HF := HF1; clear HF1
            refine wc_true HF rfl ?_
            refine wp_seq ?_
            refine wp_region_lit ?_
            refine wl_y rfl HF rfl rfl (yl_move rfl (HF.ev rfl)) ?_; clear HF; clear a; intro a HF
            refine wl_y rfl HF rfl rfl (yl_assign rfl (HF.ev rfl)) ?_; clear HF; clear a; intro a HF
            refine wl_y rfl HF rfl rfl (yl_assign rfl (HF.ev rfl)) ?_; clear HF; clear a; intro a HF
            refine wpList_nil ?_
            refine ex_then ?_
            refine wp_ret ?_
            refine ex_block_ret ?_
            refine ex_then_ret ?_
            refine ex_then_ret ?_
            refine ex_block_ret ?_
            refine ex_then_ret ?_
            refine bp_ret2 HF Try.results151 (HF.res rfl) (HF.res rfl) ?_
            have hfn : readF x0 x1 x2 p n = ((joinB x0 x1 x2 n (1)).getD ByteArray.empty, true) := by simp only [readF, cc1, cc2, cc3, cc7, cc8, cond_true, cond_false]
            exact ⟨by rw [hfn] <;> rfl, HS.out.bel⟩
          · clear HF; have HF := HF1; clear HF1
            refine wc_false HF rfl ?_
            refine wp_skip ?_
            refine ex_block ?_
            refine ex_then ?_
            refine wp_region_lit ?_
            refine wl_y rfl HF rfl rfl (yl_move rfl (HF.ev rfl)) ?_; clear HF; clear a; intro a HF
            refine wl_y rfl HF rfl rfl (yl_addI (r := 2) rfl (HF.ev rfl) (HF.ev rfl) (by decide)) ?_; clear HF; clear a; intro a HF
            refine wl_y rfl HF rfl rfl (yl_assign rfl (HF.ev rfl)) ?_; clear HF; clear a; intro a HF
            refine wpList_nil ?_
            refine ex_then ?_
            refine wc_round 1 ?_
            refine wp_seq ?_
            refine wp_seq ?_
            refine wp_region_lit ?_
            refine wl_y rfl HF rfl rfl (yl_move rfl (HF.ev rfl)) ?_; clear HF; clear a; intro a HF
            refine wl_y rfl HF rfl rfl (yl_leqI rfl (HF.ev rfl) (HF.ev rfl)) ?_; clear HF; clear a; intro a HF
            refine wpList_nil ?_
            refine ex_then ?_
            replace HF := HF.know (k := 15) (c := false) rfl (by decide)
            refine wc_false HF rfl ?_
            refine wp_exit ?_
            refine ex_then_exit ?_
            refine ex_then_exit ?_
            refine ex_block_hit ?_
            refine ex_then ?_
            refine wp_seq ?_
            refine wp_region_lit ?_
            refine wl_y rfl HF rfl rfl (yl_assign rfl (HF.ev rfl)) ?_; clear HF; clear a; intro a HF
            refine wl_y rfl HF rfl rfl (yl_assign rfl (HF.ev rfl)) ?_; clear HF; clear a; intro a HF
            refine wpList_nil ?_
            refine ex_then ?_
            refine wp_ret ?_
            refine bp_ret2 HF Try.results151 (HF.res rfl) (HF.res rfl) ?_
            have hfn : readF x0 x1 x2 p n = ((⟨#[]⟩ : ByteArray), false) := by simp only [readF, cc1, cc2, cc3, cc7, cc8, cond_true, cond_false]
            exact ⟨by rw [hfn] <;> rfl, HS.out.bel⟩
        · clear HF; have HF := HF1; clear HF1
          refine wl_skip HF rfl rfl rfl rfl rfl rfl ?_; clear HF; clear a; intro a HF
          refine wl_skip HF rfl rfl rfl rfl rfl rfl ?_; clear HF; clear a; intro a HF
          refine wl_skip HF rfl rfl rfl rfl rfl rfl ?_; clear HF; clear a; intro a HF
          refine wl_y rfl HF rfl rfl (yl_pick_f rfl (HF.ev rfl) (HF.ev rfl)) ?_; clear HF; clear a; intro a HF
          refine wpList_nil ?_
          refine ex_then ?_
          refine wc_false HF rfl ?_
          refine wp_skip ?_
          refine ex_block ?_
          refine ex_then ?_
          refine wp_region_lit ?_
          refine wl_y rfl HF rfl rfl (yl_move rfl (HF.ev rfl)) ?_; clear HF; clear a; intro a HF
          refine wl_y rfl HF rfl rfl (yl_addI (r := 2) rfl (HF.ev rfl) (HF.ev rfl) (by decide)) ?_; clear HF; clear a; intro a HF
          refine wl_y rfl HF rfl rfl (yl_assign rfl (HF.ev rfl)) ?_; clear HF; clear a; intro a HF
          refine wpList_nil ?_
          refine ex_then ?_
          refine wc_round 1 ?_
          refine wp_seq ?_
          refine wp_seq ?_
          refine wp_region_lit ?_
          refine wl_y rfl HF rfl rfl (yl_move rfl (HF.ev rfl)) ?_; clear HF; clear a; intro a HF
          refine wl_y rfl HF rfl rfl (yl_leqI rfl (HF.ev rfl) (HF.ev rfl)) ?_; clear HF; clear a; intro a HF
          refine wpList_nil ?_
          refine ex_then ?_
          replace HF := HF.know (k := 15) (c := false) rfl (by decide)
          refine wc_false HF rfl ?_
          refine wp_exit ?_
          refine ex_then_exit ?_
          refine ex_then_exit ?_
          refine ex_block_hit ?_
          refine ex_then ?_
          refine wp_seq ?_
          refine wp_region_lit ?_
          refine wl_y rfl HF rfl rfl (yl_assign rfl (HF.ev rfl)) ?_; clear HF; clear a; intro a HF
          refine wl_y rfl HF rfl rfl (yl_assign rfl (HF.ev rfl)) ?_; clear HF; clear a; intro a HF
          refine wpList_nil ?_
          refine ex_then ?_
          refine wp_ret ?_
          refine bp_ret2 HF Try.results151 (HF.res rfl) (HF.res rfl) ?_
          have hfn : readF x0 x1 x2 p n = ((⟨#[]⟩ : ByteArray), false) := by simp only [readF, cc1, cc2, cc3, cc7, cond_true, cond_false]
          exact ⟨by rw [hfn] <;> rfl, HS.out.bel⟩
  · clear HF; have HF := HF1; clear HF1
    refine wl_skip HF rfl rfl rfl rfl rfl rfl ?_; clear HF; clear a; intro a HF
    refine wl_skip HF rfl rfl rfl rfl rfl rfl ?_; clear HF; clear a; intro a HF
    refine wl_skip HF rfl rfl rfl rfl rfl rfl ?_; clear HF; clear a; intro a HF
    refine wl_y rfl HF rfl rfl (yl_pick_f rfl (HF.ev rfl) (HF.ev rfl)) ?_; clear HF; clear a; intro a HF
    refine wpList_nil ?_
    refine ex_then ?_
    refine wc_false HF rfl ?_
    refine wp_skip ?_
    refine ex_block ?_
    refine ex_then ?_
    refine wp_region_lit ?_
    refine wl_y rfl HF rfl rfl (yl_move rfl (HF.ev rfl)) ?_; clear HF; clear a; intro a HF
    refine wl_y rfl HF rfl rfl (yl_addI (r := 0) rfl (HF.ev rfl) (HF.ev rfl) (by decide)) ?_; clear HF; clear a; intro a HF
    refine wl_y rfl HF rfl rfl (yl_assign rfl (HF.ev rfl)) ?_; clear HF; clear a; intro a HF
    refine wpList_nil ?_
    refine ex_then ?_
    refine wc_round 3 ?_
    refine wp_seq ?_
    refine wp_seq ?_
    refine wp_region_lit ?_
    refine wl_y rfl HF rfl rfl (yl_move rfl (HF.ev rfl)) ?_; clear HF; clear a; intro a HF
    refine wl_y rfl HF rfl rfl (yl_leqI rfl (HF.ev rfl) (HF.ev rfl)) ?_; clear HF; clear a; intro a HF
    refine wpList_nil ?_
    refine ex_then ?_
    replace HF := HF.know (k := 15) (c := true) rfl (by decide)
    refine wc_true HF rfl ?_
    refine wp_skip ?_
    refine ex_then ?_
    refine wp_seq ?_
    refine wp_block ?_
    refine wp_seq ?_
    refine wp_region_lit ?_
    refine wl_y rfl HF rfl rfl (yl_move rfl (HF.ev rfl)) ?_; clear HF; clear a; intro a HF
    refine wl_y rfl HF rfl rfl (yl_fieldAddr (j := 2) rfl (HF.ev rfl) (by kernel_rfl)) ?_; clear HF; clear a; intro a HF
    refine wl_y rfl HF rfl rfl (yl_load (v := .int .i64 p.fSize) rfl (HF.ev rfl) (((HS.out.box 1 rfl).cell 2).trans rfl) (by kernel_rfl)) ?_; clear HF; clear a; intro a HF
    refine wl_y rfl HF rfl rfl (yl_move rfl (HF.ev rfl)) ?_; clear HF; clear a; intro a HF
    refine wl_callB rfl HF rfl (enter_of Try.func166 (by kernel_rfl) rfl) (args := #[.slice ao 3 cp, .int .i64 p.fSize, .int .i64 0]) rfl (v := .tuple #[.string ((joinB x0 x1 x2 n (0)).getD ByteArray.empty), .bool ((joinB x0 x1 x2 n (0)).isSome)]) ((by have := joinZS_any ao cp x0 x1 x2 n _ hn1 hn2 hz0 hz1 hz2 (St.rdN HS.out encS_len 0 rfl); rw [← hps] at this; exact this)) rfl rfl HS.out ?_; clear HF HS; clear a; intro w12 a HS HF; replace HS := Bx.mk HS
    refine wl_y rfl HF rfl rfl (yl_move rfl (HF.ev rfl)) ?_; clear HF; clear a; intro a HF
    refine wl_y rfl HF rfl rfl (yl_extract rfl (HF.ev rfl) rfl) ?_; clear HF; clear a; intro a HF
    refine wl_y rfl HF rfl rfl (yl_extract rfl (HF.ev rfl) rfl) ?_; clear HF; clear a; intro a HF
    refine wl_y rfl HF rfl rfl (yl_assign rfl (HF.ev rfl)) ?_; clear HF; clear a; intro a HF
    refine wl_y rfl HF rfl rfl (yl_assign rfl (HF.ev rfl)) ?_; clear HF; clear a; intro a HF
    refine wpList_nil ?_
    refine ex_then ?_
    refine wp_seq ?_
    refine wp_region_lit ?_
    refine wl_y rfl HF rfl rfl (yl_move rfl (HF.ev rfl)) ?_; clear HF; clear a; intro a HF
    refine wl_y rfl HF rfl rfl (yl_move rfl (HF.ev rfl)) ?_; clear HF; clear a; intro a HF
    refine HF.cases 27 rfl (fun cc9 HF1 => ?_) (fun cc9 HF1 => ?_)
    · clear HF; have HF := HF1; clear HF1
      refine wl_yg HF rfl rfl rfl rfl rfl (yl_loadR (cs := [.int .i64 p.fAt, .int .i64 p.fBirth, .int .i64 p.fSize, .int .i64 p.fSum, .int .i64 p.fLevel]) rfl (HF.ev rfl) ((HS.out.box 1 rfl).sub 0 5) (by kernel_rfl)) ?_; clear HF; clear a; intro a HF
      refine wl_yg HF rfl rfl rfl rfl rfl (yl_move rfl (HF.ev rfl)) ?_; clear HF; clear a; intro a HF
      refine wl_callBg HF rfl rfl rfl rfl (enter_of Try.func167 (by kernel_rfl) rfl) (args := #[.agg #[.int .i64 p.fAt, .int .i64 p.fBirth, .int .i64 p.fSize, .int .i64 p.fSum, .int .i64 p.fLevel], .string ((joinB x0 x1 x2 n (0)).getD ByteArray.empty)]) rfl (v := .bool (p.fits ((joinB x0 x1 x2 n (0)).getD ByteArray.empty))) (specFits_any p ((joinB x0 x1 x2 n (0)).getD ByteArray.empty) _ (by have := joinB_le x0 x1 x2 n (0) hn1; omega)) rfl rfl HS.out ?_; clear HF HS; clear a; intro w13 a HS HF; replace HS := Bx.mk HS
      refine wl_y rfl HF rfl rfl (yl_pick_t rfl (HF.ev rfl) (HF.ev rfl)) ?_; clear HF; clear a; intro a HF
      refine wpList_nil ?_
      refine ex_then ?_
      refine HF.cases 31 rfl (fun cc10 HF1 => ?_) (fun cc10 HF1 => ?_)
      · clear HF; have HF := HF1; clear HF1
        refine wc_true HF rfl ?_
        refine wp_seq ?_
        refine wp_region_lit ?_
        refine wl_y rfl HF rfl rfl (yl_move rfl (HF.ev rfl)) ?_; clear HF; clear a; intro a HF
        refine wl_y rfl HF rfl rfl (yl_assign rfl (HF.ev rfl)) ?_; clear HF; clear a; intro a HF
        refine wl_y rfl HF rfl rfl (yl_assign rfl (HF.ev rfl)) ?_; clear HF; clear a; intro a HF
        refine wpList_nil ?_
        refine ex_then ?_
        refine wp_ret ?_
        refine ex_block_ret ?_
        refine ex_then_ret ?_
        refine ex_then_ret ?_
        refine ex_block_ret ?_
        refine ex_then_ret ?_
        refine bp_ret2 HF Try.results151 (HF.res rfl) (HF.res rfl) ?_
        have hfn : readF x0 x1 x2 p n = ((joinB x0 x1 x2 n (0)).getD ByteArray.empty, true) := by simp only [readF, cc1, cc9, cc10, cond_true, cond_false]
        exact ⟨by rw [hfn] <;> rfl, HS.out.bel⟩
      · clear HF; have HF := HF1; clear HF1
        refine wc_false HF rfl ?_
        refine wp_skip ?_
        refine ex_block ?_
        refine ex_then ?_
        refine wp_region_lit ?_
        refine wl_y rfl HF rfl rfl (yl_move rfl (HF.ev rfl)) ?_; clear HF; clear a; intro a HF
        refine wl_y rfl HF rfl rfl (yl_addI (r := 1) rfl (HF.ev rfl) (HF.ev rfl) (by decide)) ?_; clear HF; clear a; intro a HF
        refine wl_y rfl HF rfl rfl (yl_assign rfl (HF.ev rfl)) ?_; clear HF; clear a; intro a HF
        refine wpList_nil ?_
        refine ex_then ?_
        refine wc_round 2 ?_
        refine wp_seq ?_
        refine wp_seq ?_
        refine wp_region_lit ?_
        refine wl_y rfl HF rfl rfl (yl_move rfl (HF.ev rfl)) ?_; clear HF; clear a; intro a HF
        refine wl_y rfl HF rfl rfl (yl_leqI rfl (HF.ev rfl) (HF.ev rfl)) ?_; clear HF; clear a; intro a HF
        refine wpList_nil ?_
        refine ex_then ?_
        replace HF := HF.know (k := 15) (c := true) rfl (by decide)
        refine wc_true HF rfl ?_
        refine wp_skip ?_
        refine ex_then ?_
        refine wp_seq ?_
        refine wp_block ?_
        refine wp_seq ?_
        refine wp_region_lit ?_
        refine wl_y rfl HF rfl rfl (yl_move rfl (HF.ev rfl)) ?_; clear HF; clear a; intro a HF
        refine wl_y rfl HF rfl rfl (yl_fieldAddr (j := 2) rfl (HF.ev rfl) (by kernel_rfl)) ?_; clear HF; clear a; intro a HF
        refine wl_y rfl HF rfl rfl (yl_load (v := .int .i64 p.fSize) rfl (HF.ev rfl) (((HS.out.box 1 rfl).cell 2).trans rfl) (by kernel_rfl)) ?_; clear HF; clear a; intro a HF
        refine wl_y rfl HF rfl rfl (yl_move rfl (HF.ev rfl)) ?_; clear HF; clear a; intro a HF
        refine wl_callB rfl HF rfl (enter_of Try.func166 (by kernel_rfl) rfl) (args := #[.slice ao 3 cp, .int .i64 p.fSize, .int .i64 1]) rfl (v := .tuple #[.string ((joinB x0 x1 x2 n (1)).getD ByteArray.empty), .bool ((joinB x0 x1 x2 n (1)).isSome)]) ((by have := joinOS_any ao cp x0 x1 x2 n _ hn1 hn2 hz0 hz1 hz2 (St.rdN HS.out encS_len 0 rfl); rw [← hps] at this; exact this)) rfl rfl HS.out ?_; clear HF HS; clear a; intro w14 a HS HF; replace HS := Bx.mk HS
        refine wl_y rfl HF rfl rfl (yl_move rfl (HF.ev rfl)) ?_; clear HF; clear a; intro a HF
        refine wl_y rfl HF rfl rfl (yl_extract rfl (HF.ev rfl) rfl) ?_; clear HF; clear a; intro a HF
        refine wl_y rfl HF rfl rfl (yl_extract rfl (HF.ev rfl) rfl) ?_; clear HF; clear a; intro a HF
        refine wl_y rfl HF rfl rfl (yl_assign rfl (HF.ev rfl)) ?_; clear HF; clear a; intro a HF
        refine wl_y rfl HF rfl rfl (yl_assign rfl (HF.ev rfl)) ?_; clear HF; clear a; intro a HF
        refine wpList_nil ?_
        refine ex_then ?_
        refine wp_seq ?_
        refine wp_region_lit ?_
        refine wl_y rfl HF rfl rfl (yl_move rfl (HF.ev rfl)) ?_; clear HF; clear a; intro a HF
        refine wl_y rfl HF rfl rfl (yl_move rfl (HF.ev rfl)) ?_; clear HF; clear a; intro a HF
        refine HF.cases 27 rfl (fun cc11 HF1 => ?_) (fun cc11 HF1 => ?_)
        · clear HF; have HF := HF1; clear HF1
          refine wl_yg HF rfl rfl rfl rfl rfl (yl_loadR (cs := [.int .i64 p.fAt, .int .i64 p.fBirth, .int .i64 p.fSize, .int .i64 p.fSum, .int .i64 p.fLevel]) rfl (HF.ev rfl) ((HS.out.box 1 rfl).sub 0 5) (by kernel_rfl)) ?_; clear HF; clear a; intro a HF
          refine wl_yg HF rfl rfl rfl rfl rfl (yl_move rfl (HF.ev rfl)) ?_; clear HF; clear a; intro a HF
          refine wl_callBg HF rfl rfl rfl rfl (enter_of Try.func167 (by kernel_rfl) rfl) (args := #[.agg #[.int .i64 p.fAt, .int .i64 p.fBirth, .int .i64 p.fSize, .int .i64 p.fSum, .int .i64 p.fLevel], .string ((joinB x0 x1 x2 n (1)).getD ByteArray.empty)]) rfl (v := .bool (p.fits ((joinB x0 x1 x2 n (1)).getD ByteArray.empty))) (specFits_any p ((joinB x0 x1 x2 n (1)).getD ByteArray.empty) _ (by have := joinB_le x0 x1 x2 n (1) hn1; omega)) rfl rfl HS.out ?_; clear HF HS; clear a; intro w15 a HS HF; replace HS := Bx.mk HS
          refine wl_y rfl HF rfl rfl (yl_pick_t rfl (HF.ev rfl) (HF.ev rfl)) ?_; clear HF; clear a; intro a HF
          refine wpList_nil ?_
          refine ex_then ?_
          refine HF.cases 31 rfl (fun cc12 HF1 => ?_) (fun cc12 HF1 => ?_)
          · clear HF; have HF := HF1; clear HF1
            refine wc_true HF rfl ?_
            refine wp_seq ?_
            refine wp_region_lit ?_
            refine wl_y rfl HF rfl rfl (yl_move rfl (HF.ev rfl)) ?_; clear HF; clear a; intro a HF
            refine wl_y rfl HF rfl rfl (yl_assign rfl (HF.ev rfl)) ?_; clear HF; clear a; intro a HF
            refine wl_y rfl HF rfl rfl (yl_assign rfl (HF.ev rfl)) ?_; clear HF; clear a; intro a HF
            refine wpList_nil ?_
            refine ex_then ?_
            refine wp_ret ?_
            refine ex_block_ret ?_
            refine ex_then_ret ?_
            refine ex_then_ret ?_
            refine ex_block_ret ?_
            refine ex_then_ret ?_
            refine bp_ret2 HF Try.results151 (HF.res rfl) (HF.res rfl) ?_
            have hfn : readF x0 x1 x2 p n = ((joinB x0 x1 x2 n (1)).getD ByteArray.empty, true) := by simp only [readF, cc1, cc9, cc10, cc11, cc12, cond_true, cond_false]
            exact ⟨by rw [hfn] <;> rfl, HS.out.bel⟩
          · clear HF; have HF := HF1; clear HF1
            refine wc_false HF rfl ?_
            refine wp_skip ?_
            refine ex_block ?_
            refine ex_then ?_
            refine wp_region_lit ?_
            refine wl_y rfl HF rfl rfl (yl_move rfl (HF.ev rfl)) ?_; clear HF; clear a; intro a HF
            refine wl_y rfl HF rfl rfl (yl_addI (r := 2) rfl (HF.ev rfl) (HF.ev rfl) (by decide)) ?_; clear HF; clear a; intro a HF
            refine wl_y rfl HF rfl rfl (yl_assign rfl (HF.ev rfl)) ?_; clear HF; clear a; intro a HF
            refine wpList_nil ?_
            refine ex_then ?_
            refine wc_round 1 ?_
            refine wp_seq ?_
            refine wp_seq ?_
            refine wp_region_lit ?_
            refine wl_y rfl HF rfl rfl (yl_move rfl (HF.ev rfl)) ?_; clear HF; clear a; intro a HF
            refine wl_y rfl HF rfl rfl (yl_leqI rfl (HF.ev rfl) (HF.ev rfl)) ?_; clear HF; clear a; intro a HF
            refine wpList_nil ?_
            refine ex_then ?_
            replace HF := HF.know (k := 15) (c := false) rfl (by decide)
            refine wc_false HF rfl ?_
            refine wp_exit ?_
            refine ex_then_exit ?_
            refine ex_then_exit ?_
            refine ex_block_hit ?_
            refine ex_then ?_
            refine wp_seq ?_
            refine wp_region_lit ?_
            refine wl_y rfl HF rfl rfl (yl_assign rfl (HF.ev rfl)) ?_; clear HF; clear a; intro a HF
            refine wl_y rfl HF rfl rfl (yl_assign rfl (HF.ev rfl)) ?_; clear HF; clear a; intro a HF
            refine wpList_nil ?_
            refine ex_then ?_
            refine wp_ret ?_
            refine bp_ret2 HF Try.results151 (HF.res rfl) (HF.res rfl) ?_
            have hfn : readF x0 x1 x2 p n = ((⟨#[]⟩ : ByteArray), false) := by simp only [readF, cc1, cc9, cc10, cc11, cc12, cond_true, cond_false]
            exact ⟨by rw [hfn] <;> rfl, HS.out.bel⟩
        · clear HF; have HF := HF1; clear HF1
          refine wl_skip HF rfl rfl rfl rfl rfl rfl ?_; clear HF; clear a; intro a HF
          refine wl_skip HF rfl rfl rfl rfl rfl rfl ?_; clear HF; clear a; intro a HF
          refine wl_skip HF rfl rfl rfl rfl rfl rfl ?_; clear HF; clear a; intro a HF
          refine wl_y rfl HF rfl rfl (yl_pick_f rfl (HF.ev rfl) (HF.ev rfl)) ?_; clear HF; clear a; intro a HF
          refine wpList_nil ?_
          refine ex_then ?_
          refine wc_false HF rfl ?_
          refine wp_skip ?_
          refine ex_block ?_
          refine ex_then ?_
          refine wp_region_lit ?_
          refine wl_y rfl HF rfl rfl (yl_move rfl (HF.ev rfl)) ?_; clear HF; clear a; intro a HF
          refine wl_y rfl HF rfl rfl (yl_addI (r := 2) rfl (HF.ev rfl) (HF.ev rfl) (by decide)) ?_; clear HF; clear a; intro a HF
          refine wl_y rfl HF rfl rfl (yl_assign rfl (HF.ev rfl)) ?_; clear HF; clear a; intro a HF
          refine wpList_nil ?_
          refine ex_then ?_
          refine wc_round 1 ?_
          refine wp_seq ?_
          refine wp_seq ?_
          refine wp_region_lit ?_
          refine wl_y rfl HF rfl rfl (yl_move rfl (HF.ev rfl)) ?_; clear HF; clear a; intro a HF
          refine wl_y rfl HF rfl rfl (yl_leqI rfl (HF.ev rfl) (HF.ev rfl)) ?_; clear HF; clear a; intro a HF
          refine wpList_nil ?_
          refine ex_then ?_
          replace HF := HF.know (k := 15) (c := false) rfl (by decide)
          refine wc_false HF rfl ?_
          refine wp_exit ?_
          refine ex_then_exit ?_
          refine ex_then_exit ?_
          refine ex_block_hit ?_
          refine ex_then ?_
          refine wp_seq ?_
          refine wp_region_lit ?_
          refine wl_y rfl HF rfl rfl (yl_assign rfl (HF.ev rfl)) ?_; clear HF; clear a; intro a HF
          refine wl_y rfl HF rfl rfl (yl_assign rfl (HF.ev rfl)) ?_; clear HF; clear a; intro a HF
          refine wpList_nil ?_
          refine ex_then ?_
          refine wp_ret ?_
          refine bp_ret2 HF Try.results151 (HF.res rfl) (HF.res rfl) ?_
          have hfn : readF x0 x1 x2 p n = ((⟨#[]⟩ : ByteArray), false) := by simp only [readF, cc1, cc9, cc10, cc11, cond_true, cond_false]
          exact ⟨by rw [hfn] <;> rfl, HS.out.bel⟩
    · clear HF; have HF := HF1; clear HF1
      refine wl_skip HF rfl rfl rfl rfl rfl rfl ?_; clear HF; clear a; intro a HF
      refine wl_skip HF rfl rfl rfl rfl rfl rfl ?_; clear HF; clear a; intro a HF
      refine wl_skip HF rfl rfl rfl rfl rfl rfl ?_; clear HF; clear a; intro a HF
      refine wl_y rfl HF rfl rfl (yl_pick_f rfl (HF.ev rfl) (HF.ev rfl)) ?_; clear HF; clear a; intro a HF
      refine wpList_nil ?_
      refine ex_then ?_
      refine wc_false HF rfl ?_
      refine wp_skip ?_
      refine ex_block ?_
      refine ex_then ?_
      refine wp_region_lit ?_
      refine wl_y rfl HF rfl rfl (yl_move rfl (HF.ev rfl)) ?_; clear HF; clear a; intro a HF
      refine wl_y rfl HF rfl rfl (yl_addI (r := 1) rfl (HF.ev rfl) (HF.ev rfl) (by decide)) ?_; clear HF; clear a; intro a HF
      refine wl_y rfl HF rfl rfl (yl_assign rfl (HF.ev rfl)) ?_; clear HF; clear a; intro a HF
      refine wpList_nil ?_
      refine ex_then ?_
      refine wc_round 2 ?_
      refine wp_seq ?_
      refine wp_seq ?_
      refine wp_region_lit ?_
      refine wl_y rfl HF rfl rfl (yl_move rfl (HF.ev rfl)) ?_; clear HF; clear a; intro a HF
      refine wl_y rfl HF rfl rfl (yl_leqI rfl (HF.ev rfl) (HF.ev rfl)) ?_; clear HF; clear a; intro a HF
      refine wpList_nil ?_
      refine ex_then ?_
      replace HF := HF.know (k := 15) (c := true) rfl (by decide)
      refine wc_true HF rfl ?_
      refine wp_skip ?_
      refine ex_then ?_
      refine wp_seq ?_
      refine wp_block ?_
      refine wp_seq ?_
      refine wp_region_lit ?_
      refine wl_y rfl HF rfl rfl (yl_move rfl (HF.ev rfl)) ?_; clear HF; clear a; intro a HF
      refine wl_y rfl HF rfl rfl (yl_fieldAddr (j := 2) rfl (HF.ev rfl) (by kernel_rfl)) ?_; clear HF; clear a; intro a HF
      refine wl_y rfl HF rfl rfl (yl_load (v := .int .i64 p.fSize) rfl (HF.ev rfl) (((HS.out.box 1 rfl).cell 2).trans rfl) (by kernel_rfl)) ?_; clear HF; clear a; intro a HF
      refine wl_y rfl HF rfl rfl (yl_move rfl (HF.ev rfl)) ?_; clear HF; clear a; intro a HF
      refine wl_callB rfl HF rfl (enter_of Try.func166 (by kernel_rfl) rfl) (args := #[.slice ao 3 cp, .int .i64 p.fSize, .int .i64 1]) rfl (v := .tuple #[.string ((joinB x0 x1 x2 n (1)).getD ByteArray.empty), .bool ((joinB x0 x1 x2 n (1)).isSome)]) ((by have := joinOS_any ao cp x0 x1 x2 n _ hn1 hn2 hz0 hz1 hz2 (St.rdN HS.out encS_len 0 rfl); rw [← hps] at this; exact this)) rfl rfl HS.out ?_; clear HF HS; clear a; intro w16 a HS HF; replace HS := Bx.mk HS
      refine wl_y rfl HF rfl rfl (yl_move rfl (HF.ev rfl)) ?_; clear HF; clear a; intro a HF
      refine wl_y rfl HF rfl rfl (yl_extract rfl (HF.ev rfl) rfl) ?_; clear HF; clear a; intro a HF
      refine wl_y rfl HF rfl rfl (yl_extract rfl (HF.ev rfl) rfl) ?_; clear HF; clear a; intro a HF
      refine wl_y rfl HF rfl rfl (yl_assign rfl (HF.ev rfl)) ?_; clear HF; clear a; intro a HF
      refine wl_y rfl HF rfl rfl (yl_assign rfl (HF.ev rfl)) ?_; clear HF; clear a; intro a HF
      refine wpList_nil ?_
      refine ex_then ?_
      refine wp_seq ?_
      refine wp_region_lit ?_
      refine wl_y rfl HF rfl rfl (yl_move rfl (HF.ev rfl)) ?_; clear HF; clear a; intro a HF
      refine wl_y rfl HF rfl rfl (yl_move rfl (HF.ev rfl)) ?_; clear HF; clear a; intro a HF
      refine HF.cases 27 rfl (fun cc13 HF1 => ?_) (fun cc13 HF1 => ?_)
      · clear HF; have HF := HF1; clear HF1
        refine wl_yg HF rfl rfl rfl rfl rfl (yl_loadR (cs := [.int .i64 p.fAt, .int .i64 p.fBirth, .int .i64 p.fSize, .int .i64 p.fSum, .int .i64 p.fLevel]) rfl (HF.ev rfl) ((HS.out.box 1 rfl).sub 0 5) (by kernel_rfl)) ?_; clear HF; clear a; intro a HF
        refine wl_yg HF rfl rfl rfl rfl rfl (yl_move rfl (HF.ev rfl)) ?_; clear HF; clear a; intro a HF
        refine wl_callBg HF rfl rfl rfl rfl (enter_of Try.func167 (by kernel_rfl) rfl) (args := #[.agg #[.int .i64 p.fAt, .int .i64 p.fBirth, .int .i64 p.fSize, .int .i64 p.fSum, .int .i64 p.fLevel], .string ((joinB x0 x1 x2 n (1)).getD ByteArray.empty)]) rfl (v := .bool (p.fits ((joinB x0 x1 x2 n (1)).getD ByteArray.empty))) (specFits_any p ((joinB x0 x1 x2 n (1)).getD ByteArray.empty) _ (by have := joinB_le x0 x1 x2 n (1) hn1; omega)) rfl rfl HS.out ?_; clear HF HS; clear a; intro w17 a HS HF; replace HS := Bx.mk HS
        refine wl_y rfl HF rfl rfl (yl_pick_t rfl (HF.ev rfl) (HF.ev rfl)) ?_; clear HF; clear a; intro a HF
        refine wpList_nil ?_
        refine ex_then ?_
        refine HF.cases 31 rfl (fun cc14 HF1 => ?_) (fun cc14 HF1 => ?_)
        · clear HF; have HF := HF1; clear HF1
          refine wc_true HF rfl ?_
          refine wp_seq ?_
          refine wp_region_lit ?_
          refine wl_y rfl HF rfl rfl (yl_move rfl (HF.ev rfl)) ?_; clear HF; clear a; intro a HF
          refine wl_y rfl HF rfl rfl (yl_assign rfl (HF.ev rfl)) ?_; clear HF; clear a; intro a HF
          refine wl_y rfl HF rfl rfl (yl_assign rfl (HF.ev rfl)) ?_; clear HF; clear a; intro a HF
          refine wpList_nil ?_
          refine ex_then ?_
          refine wp_ret ?_
          refine ex_block_ret ?_
          refine ex_then_ret ?_
          refine ex_then_ret ?_
          refine ex_block_ret ?_
          refine ex_then_ret ?_
          refine bp_ret2 HF Try.results151 (HF.res rfl) (HF.res rfl) ?_
          have hfn : readF x0 x1 x2 p n = ((joinB x0 x1 x2 n (1)).getD ByteArray.empty, true) := by simp only [readF, cc1, cc9, cc13, cc14, cond_true, cond_false]
          exact ⟨by rw [hfn] <;> rfl, HS.out.bel⟩
        · clear HF; have HF := HF1; clear HF1
          refine wc_false HF rfl ?_
          refine wp_skip ?_
          refine ex_block ?_
          refine ex_then ?_
          refine wp_region_lit ?_
          refine wl_y rfl HF rfl rfl (yl_move rfl (HF.ev rfl)) ?_; clear HF; clear a; intro a HF
          refine wl_y rfl HF rfl rfl (yl_addI (r := 2) rfl (HF.ev rfl) (HF.ev rfl) (by decide)) ?_; clear HF; clear a; intro a HF
          refine wl_y rfl HF rfl rfl (yl_assign rfl (HF.ev rfl)) ?_; clear HF; clear a; intro a HF
          refine wpList_nil ?_
          refine ex_then ?_
          refine wc_round 1 ?_
          refine wp_seq ?_
          refine wp_seq ?_
          refine wp_region_lit ?_
          refine wl_y rfl HF rfl rfl (yl_move rfl (HF.ev rfl)) ?_; clear HF; clear a; intro a HF
          refine wl_y rfl HF rfl rfl (yl_leqI rfl (HF.ev rfl) (HF.ev rfl)) ?_; clear HF; clear a; intro a HF
          refine wpList_nil ?_
          refine ex_then ?_
          replace HF := HF.know (k := 15) (c := false) rfl (by decide)
          refine wc_false HF rfl ?_
          refine wp_exit ?_
          refine ex_then_exit ?_
          refine ex_then_exit ?_
          refine ex_block_hit ?_
          refine ex_then ?_
          refine wp_seq ?_
          refine wp_region_lit ?_
          refine wl_y rfl HF rfl rfl (yl_assign rfl (HF.ev rfl)) ?_; clear HF; clear a; intro a HF
          refine wl_y rfl HF rfl rfl (yl_assign rfl (HF.ev rfl)) ?_; clear HF; clear a; intro a HF
          refine wpList_nil ?_
          refine ex_then ?_
          refine wp_ret ?_
          refine bp_ret2 HF Try.results151 (HF.res rfl) (HF.res rfl) ?_
          have hfn : readF x0 x1 x2 p n = ((⟨#[]⟩ : ByteArray), false) := by simp only [readF, cc1, cc9, cc13, cc14, cond_true, cond_false]
          exact ⟨by rw [hfn] <;> rfl, HS.out.bel⟩
      · clear HF; have HF := HF1; clear HF1
        refine wl_skip HF rfl rfl rfl rfl rfl rfl ?_; clear HF; clear a; intro a HF
        refine wl_skip HF rfl rfl rfl rfl rfl rfl ?_; clear HF; clear a; intro a HF
        refine wl_skip HF rfl rfl rfl rfl rfl rfl ?_; clear HF; clear a; intro a HF
        refine wl_y rfl HF rfl rfl (yl_pick_f rfl (HF.ev rfl) (HF.ev rfl)) ?_; clear HF; clear a; intro a HF
        refine wpList_nil ?_
        refine ex_then ?_
        refine wc_false HF rfl ?_
        refine wp_skip ?_
        refine ex_block ?_
        refine ex_then ?_
        refine wp_region_lit ?_
        refine wl_y rfl HF rfl rfl (yl_move rfl (HF.ev rfl)) ?_; clear HF; clear a; intro a HF
        refine wl_y rfl HF rfl rfl (yl_addI (r := 2) rfl (HF.ev rfl) (HF.ev rfl) (by decide)) ?_; clear HF; clear a; intro a HF
        refine wl_y rfl HF rfl rfl (yl_assign rfl (HF.ev rfl)) ?_; clear HF; clear a; intro a HF
        refine wpList_nil ?_
        refine ex_then ?_
        refine wc_round 1 ?_
        refine wp_seq ?_
        refine wp_seq ?_
        refine wp_region_lit ?_
        refine wl_y rfl HF rfl rfl (yl_move rfl (HF.ev rfl)) ?_; clear HF; clear a; intro a HF
        refine wl_y rfl HF rfl rfl (yl_leqI rfl (HF.ev rfl) (HF.ev rfl)) ?_; clear HF; clear a; intro a HF
        refine wpList_nil ?_
        refine ex_then ?_
        replace HF := HF.know (k := 15) (c := false) rfl (by decide)
        refine wc_false HF rfl ?_
        refine wp_exit ?_
        refine ex_then_exit ?_
        refine ex_then_exit ?_
        refine ex_block_hit ?_
        refine ex_then ?_
        refine wp_seq ?_
        refine wp_region_lit ?_
        refine wl_y rfl HF rfl rfl (yl_assign rfl (HF.ev rfl)) ?_; clear HF; clear a; intro a HF
        refine wl_y rfl HF rfl rfl (yl_assign rfl (HF.ev rfl)) ?_; clear HF; clear a; intro a HF
        refine wpList_nil ?_
        refine ex_then ?_
        refine wp_ret ?_
        refine bp_ret2 HF Try.results151 (HF.res rfl) (HF.res rfl) ?_
        have hfn : readF x0 x1 x2 p n = ((⟨#[]⟩ : ByteArray), false) := by simp only [readF, cc1, cc9, cc13, cond_true, cond_false]
        exact ⟨by rw [hfn] <;> rfl, HS.out.bel⟩

end Go.Proofs.Ytfijfjjleelphaa

/- Healing, by the reference. -/
namespace Go.Proofs.Ytfijfjjleelphaa
open Go.RowKit

theorem elemL : ElemT Try.prog 100 4 1 1 := by
  obtain ⟨i0, hi, hz0, hz1, hz2⟩ := info_parts (P := Try.prog) (e := 4) (z := .bool false) (size := 1) (bytes := 1) (by kernel_rfl)
  exact ⟨Try.underlying100, ⟨i0, _, hi, hz0, hz1, hz2, rfl⟩, by decide⟩
theorem cells_one_L (xs : List Bool) : ∀ u ∈ xs.flatMap encL, u.oneCell' = true := by
  intro u hu
  obtain ⟨x, _, hx⟩ := List.mem_flatMap.1 hu
  simp only [encL, List.mem_singleton] at hx
  subst hx; rfl
theorem readF_ok {x0 x1 x2 : ByteArray} {p : PtrD} {n : Nat} (h : (readF x0 x1 x2 p n).2 = true) : p.fits (readF x0 x1 x2 p n).1 = true := by
  unfold readF at h ⊢
  cases h1 : (joinB x0 x1 x2 n (-1)).isSome <;> cases h2 : p.fits ((joinB x0 x1 x2 n (-1)).getD ByteArray.empty) <;> cases h3 : (joinB x0 x1 x2 n 0).isSome <;> cases h4 : p.fits ((joinB x0 x1 x2 n 0).getD ByteArray.empty) <;> cases h5 : (joinB x0 x1 x2 n 1).isSome <;> cases h6 : p.fits ((joinB x0 x1 x2 n 1).getD ByteArray.empty) <;> simp_all
def colOf (t : ByteArray) (i : Nat) : ByteArray := [col0 t, col1 t, col2 t].getD i ByteArray.empty
/-- A disk of the set is there, and has another text than it must. -/
def badH (ds : List DiskD) (t : ByteArray) (m i : Nat) : Bool := !(ds.getD i default).fGone && !(((ds.getD i default).look m).toList == (colOf t i).toList)
def badsH (ds : List DiskD) (t : ByteArray) (m k : Nat) : List Bool := (List.range k).map (badH ds t m)
def cntH (ds : List DiskD) (t : ByteArray) (m k : Nat) : Nat := ((List.range k).filter (badH ds t m)).length
theorem badsH_succ (ds : List DiskD) (t : ByteArray) (m k : Nat) : badsH ds t m (k + 1) = badsH ds t m k ++ [badH ds t m k] := by simp [badsH, List.range_succ]
theorem cntH_succ (ds : List DiskD) (t : ByteArray) (m k : Nat) : cntH ds t m (k + 1) = cntH ds t m k + (badH ds t m k).toNat := by
  unfold cntH
  rw [List.range_succ, List.filter_append]
  cases h : badH ds t m k <;> simp [h]
theorem cntH_le (ds : List DiskD) (t : ByteArray) (m k : Nat) : cntH ds t m k ≤ k := by
  unfold cntH
  exact Nat.le_trans (List.length_filter_le _ _) (by simp)
theorem colsS_get (ps : List HD) (m k : Nat) (hk : k < ps.length) : (colsS ps m).getD k ByteArray.empty = colS (ps.getD k default).d m := by
  unfold colsS
  simp [List.getD, hk]
/-- What healing makes. -/
def healD (ds : List DiskD) (t : ByteArray) (m : Nat) : Option (List DiskD) := eachTo (stepPut (m : Int) (colOf t) (badH ds t m)) ds 3

theorem col_le (t : ByteArray) (i : Nat) (h : t.size ≤ 128) : ([col0 t, col1 t, col2 t].getD i ByteArray.empty).size ≤ 128 := by
  have h0 : (col0 t).size ≤ 128 := by rw [size_list]; unfold col0; rw [list_extract, List.length_take, List.length_drop, ← size_list]; omega
  have h1 : (col1 t).size ≤ 128 := by rw [size_list]; unfold col1; rw [list_extract, List.length_take, List.length_drop, ← size_list]; omega
  have h2 : (col2 t).size ≤ 128 := by rw [col2_size]; unfold half; omega
  match i with
  | 0 => exact h0
  | 1 => exact h1
  | 2 => exact h2
  | i + 3 => simp [List.getD]

set_option maxHeartbeats 1000000 in
set_option maxRecDepth 100000 in
theorem l4Heal_any (w0 w : World) (g c0 : Nat) (ps : List HD) (F : List Asr) (hl : ps.length = 3) (hok : ∀ k, k < ps.length → (ps.getD k default).d.ok = true) (hpw : ∀ k, (ps.getD k default).d.fWaits.length ≤ 1000) (p : PtrD) (m n : Nat) (hpa : p.fAt = (m : Int)) (hps : p.fSize = (n : Int)) (hm : m < 64) (hn1 : 1 ≤ n) (hn2 : n ≤ 128) (x0 x1 x2 : ByteArray) (hz0 : x0.size ≤ 1048576) (hz1 : x1.size ≤ 1048576) (hz2 : x2.size ≤ 1048576) (hx : colsS ps m = [x0, x1, x2]) (hS : St w0 (rowA HD.cells 3 44 (.slice (some ⟨g, 0, none⟩) 3 c0) ps :: sepA (ps.map HD.asr) :: F) w) : Calls Try.prog 103 #[.agg #[.slice (some ⟨g, 0, none⟩) 3 c0], .agg #[.int .i64 p.fAt, .int .i64 p.fBirth, .int .i64 p.fSize, .int .i64 p.fSum, .int .i64 p.fLevel]] w fun e w' => (((readF x0 x1 x2 p n).2 = false ∨ ((readF x0 x1 x2 p n).2 = true ∧ healD (dsOf ps) (readF x0 x1 x2 p n).1 m = none)) ∧ e = .returned (.tuple #[.agg #[.slice none 0 0], .int .i64 0, .bool false]) ∧ St w0 F w') ∨ ((readF x0 x1 x2 p n).2 = true ∧ ∃ qs : List HD, healD (dsOf ps) (readF x0 x1 x2 p n).1 m = some (dsOf qs) ∧ e = .returned (.tuple #[.agg #[.slice (some ⟨g, 0, none⟩) 3 c0], .int .i64 (cntH (dsOf ps) (readF x0 x1 x2 p n).1 m 3 : Nat), .bool true]) ∧ St w0 (rowA HD.cells 3 44 (.slice (some ⟨g, 0, none⟩) 3 c0) qs :: sepA (qs.map HD.asr) :: F) w') := by
  have HS := Bx.mk hS; clear hS
  refine wc_enter Try.func103 rfl Try.ntmps103 [(0, .agg #[.slice (some ⟨g, 0, none⟩) 3 c0]), (1, .agg #[.int .i64 p.fAt, .int .i64 p.fBirth, .int .i64 p.fSize, .int .i64 p.fSum, .int .i64 p.fLevel])] ⟨rfl, rfl, trivial⟩ rfl ?_; intro a HF
  refine wp_seq ?_
  refine wp_region_lit ?_
  refine wl_box rfl HF rfl (HF.ev rfl) (Z := [.slice (some ⟨g, 0, none⟩) 3 c0]) rfl rfl rfl rfl HS.out ?_; clear HF HS; clear a; intro a w1 b1 HF HS; replace HS := Bx.mk HS
  refine wl_box rfl HF rfl (HF.ev rfl) (Z := [.int .i64 p.fAt, .int .i64 p.fBirth, .int .i64 p.fSize, .int .i64 p.fSum, .int .i64 p.fLevel]) rfl rfl rfl rfl HS.out ?_; clear HF HS; clear a; intro a w2 b2 HF HS; replace HS := Bx.mk HS
  refine wl_alloc rfl HF rfl rfl rfl (Z := [.slice none 0 0]) (by kernel_rfl) rfl HS.out ?_; clear HF HS; clear a; intro a w3 b3 HF HS; replace HS := Bx.mk HS
  refine wl_y rfl HF rfl rfl (yl_assign rfl (HF.ev rfl)) ?_; clear HF; clear a; intro a HF
  refine wl_y rfl HF rfl rfl (yl_assign rfl (HF.ev rfl)) ?_; clear HF; clear a; intro a HF
  refine wpList_nil ?_
  refine ex_then ?_
  refine wp_seq ?_
  refine wp_region_lit ?_
  refine wl_y rfl HF rfl rfl (yl_loadR (cs := [.slice (some ⟨g, 0, none⟩) 3 c0]) rfl (HF.ev rfl) ((HS.out.box 2 rfl).sub 0 1) (by kernel_rfl)) ?_; clear HF; clear a; intro a HF
  refine wl_y rfl HF rfl rfl (yl_loadR (cs := [.int .i64 p.fAt, .int .i64 p.fBirth, .int .i64 p.fSize, .int .i64 p.fSum, .int .i64 p.fLevel]) rfl (HF.ev rfl) ((HS.out.box 1 rfl).sub 0 5) (by kernel_rfl)) ?_; clear HF; clear a; intro a HF
  refine wl_callB rfl HF rfl (enter_of Try.func151 (by kernel_rfl) rfl) (args := #[.agg #[.slice (some ⟨g, 0, none⟩) 3 c0], .agg #[.int .i64 p.fAt, .int .i64 p.fBirth, .int .i64 p.fSize, .int .i64 p.fSum, .int .i64 p.fLevel]]) rfl (v := .tuple #[.string ((readF x0 x1 x2 p n).1), .bool ((readF x0 x1 x2 p n).2)]) (l4Read_any _ c0 ps _ hl hok (by have h := St.rdOf HS.out HD.cells_len 3 rfl; exact h) (St.hdReads HS.out 4 rfl) p m n hpa hps hm hn1 hn2 x0 x1 x2 hz0 hz1 hz2 hx) rfl rfl HS.out ?_; clear HF HS; clear a; intro w4 a HS HF; replace HS := Bx.mk HS
  refine wl_y rfl HF rfl rfl (yl_move rfl (HF.ev rfl)) ?_; clear HF; clear a; intro a HF
  refine wl_y rfl HF rfl rfl (yl_extract rfl (HF.ev rfl) rfl) ?_; clear HF; clear a; intro a HF
  refine wl_y rfl HF rfl rfl (yl_extract rfl (HF.ev rfl) rfl) ?_; clear HF; clear a; intro a HF
  refine wl_y rfl HF rfl rfl (yl_assign rfl (HF.ev rfl)) ?_; clear HF; clear a; intro a HF
  refine wl_y rfl HF rfl rfl (yl_assign rfl (HF.ev rfl)) ?_; clear HF; clear a; intro a HF
  refine wpList_nil ?_
  refine ex_then ?_
  refine wp_seq ?_
  refine wp_seq ?_
  refine wp_region_lit ?_
  refine wl_y rfl HF rfl rfl (yl_move rfl (HF.ev rfl)) ?_; clear HF; clear a; intro a HF
  refine wl_y rfl HF rfl rfl (yl_not rfl (HF.ev rfl)) ?_; clear HF; clear a; intro a HF
  refine wpList_nil ?_
  refine ex_then ?_
  refine HF.cases 24 rfl (fun cc1 HF1 => ?_) (fun cc1 HF1 => ?_)
  · clear HF; have HF := HF1; clear HF1
    have hrd : (readF x0 x1 x2 p n).2 = false := by simpa using cc1
    refine wc_true HF rfl ?_
    refine wp_seq ?_
    refine wp_region_lit ?_
    refine wl_y rfl HF rfl rfl (yl_build HF rfl (ps := []) rfl (cs := #[.slice none 0 0]) (by kernel_rfl)) ?_; clear HF; clear a; intro a HF
    refine wl_storeBox rfl HF rfl rfl (HF.ev rfl) (HF.ev rfl) HS.out 0 rfl (cells_lit [.slice none 0 0] rfl rfl) (by kernel_rfl) ?_; clear HS; intro w5 HS; replace HS := Bx.mk HS
    have HS : Bx (St w0 (boxA b3 1 25 (.agg #[.slice none 0 0]) :: boxA b2 5 33 (.agg #[.int .i64 p.fAt, .int .i64 p.fBirth, .int .i64 p.fSize, .int .i64 p.fSum, .int .i64 p.fLevel]) :: boxA b1 1 25 (.agg #[.slice (some ⟨g, 0, none⟩) 3 c0]) :: rowA HD.cells 3 44 (.slice (some ⟨g, 0, none⟩) 3 c0) ps :: sepA (ps.map HD.asr) :: F) _) := HS
    refine wl_y rfl HF rfl rfl (yl_assign rfl (HF.ev rfl)) ?_; clear HF; clear a; intro a HF
    refine wl_y rfl HF rfl rfl (yl_assign rfl (HF.ev rfl)) ?_; clear HF; clear a; intro a HF
    refine wpList_nil ?_
    refine ex_then ?_
    refine wp_ret ?_
    refine ex_then_ret ?_
    refine bp_ret3 HF Try.results103 (HF.resBox rfl (HS.out.box 0 rfl) (by kernel_rfl)) (HF.res rfl) (HF.res rfl) ?_
    refine .inl ⟨.inl hrd, rfl, (((((HS.out.erase 4).erase 3).erase 2).erase 1).erase 0)⟩
  · clear HF; have HF := HF1; clear HF1
    have hrd : (readF x0 x1 x2 p n).2 = true := by simpa using cc1
    have hf1 := (PtrD.fits_size (readF_ok hrd)).2.2.1; rw [hps] at hf1
    refine wc_false HF rfl ?_
    refine wp_skip ?_
    refine ex_then ?_
    refine wp_seq ?_
    refine wp_region_lit ?_
    refine wl_y rfl HF rfl rfl (yl_move rfl (HF.ev rfl)) ?_; clear HF; clear a; intro a HF
    refine wl_call rfl HF rfl (enter_of Try.func56 (by kernel_rfl) rfl) (args := #[.string ((readF x0 x1 x2 p n).1)]) rfl (l4Cut_any (readF x0 x1 x2 p n).1 _ (by omega) (by omega)) rfl rfl ?_
    rintro _ w6 ⟨gw, rfl, hs⟩
    refine ⟨_, rfl, ?_⟩; replace HS := Bx.mk (HS.out.add hs); clear hs HF; clear a; intro a HF
    replace HS : Bx (St w0 (rowA encS 1 9 (.slice (some ⟨gw, 0, none⟩) 3 3) ([col0 (readF x0 x1 x2 p n).1, col1 (readF x0 x1 x2 p n).1, col2 (readF x0 x1 x2 p n).1]) :: boxA b3 1 25 (.agg #[.slice none 0 0]) :: boxA b2 5 33 (.agg #[.int .i64 p.fAt, .int .i64 p.fBirth, .int .i64 p.fSize, .int .i64 p.fSum, .int .i64 p.fLevel]) :: boxA b1 1 25 (.agg #[.slice (some ⟨g, 0, none⟩) 3 c0]) :: rowA HD.cells 3 44 (.slice (some ⟨g, 0, none⟩) 3 c0) ps :: sepA (ps.map HD.asr) :: F) _) := ⟨HS.out⟩
    obtain ⟨t, ht⟩ : ∃ t, t = (readF x0 x1 x2 p n).1 := ⟨_, rfl⟩; rw [← ht] at HF HS hf1
    have hwl : [col0 t, col1 t, col2 t].length = 3 := rfl
    refine wl_y rfl HF rfl rfl (yl_assign rfl (HF.ev rfl)) ?_; clear HF; clear a; intro a HF
    refine wpList_nil ?_
    refine ex_then ?_
    refine wp_seq ?_
    refine wp_region_lit ?_
    refine wl_y rfl HF rfl rfl (yl_loadR (cs := [.slice (some ⟨g, 0, none⟩) 3 c0]) rfl (HF.ev rfl) ((HS.out.box 3 rfl).sub 0 1) (by kernel_rfl)) ?_; clear HF; clear a; intro a HF
    refine wl_y rfl HF rfl rfl (yl_fieldAddr (j := 0) rfl (HF.ev rfl) (by kernel_rfl)) ?_; clear HF; clear a; intro a HF
    refine wl_y rfl HF rfl rfl (yl_load (v := .int .i64 p.fAt) rfl (HF.ev rfl) (((HS.out.box 2 rfl).cell 0).trans rfl) (by kernel_rfl)) ?_; clear HF; clear a; intro a HF
    refine wl_call rfl HF rfl (enter_of Try.func152 (by kernel_rfl) rfl) (args := #[.agg #[.slice (some ⟨g, 0, none⟩) 3 c0], .int .i64 p.fAt]) rfl (by have := l4Cols_any _ c0 ps _ (by omega) hok (by have h := St.rdOf HS.out HD.cells_len 4 rfl; exact h) (St.hdReads HS.out 5 rfl) m hm; rw [hl, ← hpa] at this; exact this) rfl rfl ?_
    rintro _ w7 ⟨aoc, cpc, rfl, hs⟩
    refine ⟨_, rfl, ?_⟩; replace HS := Bx.mk (HS.out.add hs); clear hs HF; clear a; intro a HF
    replace HS : Bx (St w0 (rowA encS 1 9 (.slice aoc 3 cpc) (colsS ps m) :: rowA encS 1 9 (.slice (some ⟨gw, 0, none⟩) 3 3) ([col0 t, col1 t, col2 t]) :: boxA b3 1 25 (.agg #[.slice none 0 0]) :: boxA b2 5 33 (.agg #[.int .i64 p.fAt, .int .i64 p.fBirth, .int .i64 p.fSize, .int .i64 p.fSum, .int .i64 p.fLevel]) :: boxA b1 1 25 (.agg #[.slice (some ⟨g, 0, none⟩) 3 c0]) :: rowA HD.cells 3 44 (.slice (some ⟨g, 0, none⟩) 3 c0) ps :: sepA (ps.map HD.asr) :: F) _) := ⟨HS.out⟩
    have hcl : (colsS ps m).length = 3 := by unfold colsS; rw [List.length_map, hl]
    obtain ⟨g4, rfl, _, _, _, _⟩ := HS.out.rowOpen 0 rfl (by omega)
    refine wl_y rfl HF rfl rfl (yl_assign rfl (HF.ev rfl)) ?_; clear HF; clear a; intro a HF
    refine wpList_nil ?_
    refine ex_then ?_
    refine wp_seq ?_
    refine wp_region_lit ?_
    refine wl_empty (e := 4) (size := 1) rfl HF rfl rfl rfl (by kernel_rfl) HS.out ?_; clear HF HS; clear a; intro a w8 b5 HF HS; replace HS := Bx.mk HS
    refine wl_y rfl HF rfl rfl (yl_assign rfl (HF.ev rfl)) ?_; clear HF; clear a; intro a HF
    refine wpList_nil ?_
    refine ex_then ?_
    refine wp_seq ?_
    refine wp_region_lit ?_
    refine wl_y rfl HF rfl rfl (yl_assign rfl (HF.ev rfl)) ?_; clear HF; clear a; intro a HF
    refine wpList_nil ?_
    refine ex_then ?_
    refine wp_seq ?_
    refine wp_seq ?_
    refine wp_region_lit ?_
    refine wl_y rfl HF rfl rfl (yl_assign rfl (HF.ev rfl)) ?_; clear HF; clear a; intro a HF
    refine wpList_nil ?_
    refine ex_then ?_
    refine wp_block ?_
    replace HS := Bx.mk (HS.out.nilRow encL 1 4 (some ⟨b5, 0, none⟩))
    refine wc_loop (ι := Nat) (fun k a w => ∃ (ao : Option Addr) (cp : Nat) (xs : List Bool), (k ≤ 3 ∧ xs = badsH (dsOf ps) t m k) ∧ Fr 78 a [(2, .pointer (some ⟨b1, 0, none⟩)), (3, .pointer (some ⟨b2, 0, none⟩)), (4, .pointer (some ⟨b3, 0, none⟩)), (5, .int .i64 0), (6, .bool false), (9, .slice (some ⟨gw, 0, none⟩) 3 3), (10, .slice (some ⟨g4, 0, none⟩) 3 cpc), (11, .slice ao xs.length cp), (12, .int .i64 (cntH (dsOf ps) t m k : Int)), (13, .int .i64 (k : Int))] ∧ St w0 (rowA encL 1 4 (.slice ao xs.length cp) xs :: rowA encS 1 9 (.slice (some ⟨g4, 0, none⟩) 3 cpc) (colsS ps m) :: rowA encS 1 9 (.slice (some ⟨gw, 0, none⟩) 3 3) ([col0 t, col1 t, col2 t]) :: boxA b3 1 25 (.agg #[.slice none 0 0]) :: boxA b2 5 33 (.agg #[.int .i64 p.fAt, .int .i64 p.fBirth, .int .i64 p.fSize, .int .i64 p.fSum, .int .i64 p.fLevel]) :: boxA b1 1 25 (.agg #[.slice (some ⟨g, 0, none⟩) 3 c0]) :: rowA HD.cells 3 44 (.slice (some ⟨g, 0, none⟩) 3 c0) ps :: sepA (ps.map HD.asr) :: F) w) (fun k => 3 - k) 0 ⟨_, _, [], ⟨Nat.zero_le _, rfl⟩, HF.less _ ⟨rfl, rfl, rfl, rfl, rfl, rfl, rfl, rfl, rfl, rfl, trivial⟩, HS.out⟩ ?_
    clear HF HS; clear a
    rintro k a w9 ⟨ao, cp, xs, ⟨hk, hq⟩, HF, HS⟩
    replace HS := Bx.mk HS
    have hxl : xs.length = k := by rw [hq]; unfold badsH; simp
    have hcle := cntH_le (dsOf ps) t m k
    refine wp_seq ?_
    refine wp_seq ?_
    refine wp_region_lit ?_
    refine wl_y rfl HF rfl rfl (yl_move rfl (HF.ev rfl)) ?_; clear HF; clear a; intro a HF
    refine wl_y rfl HF rfl rfl (yl_move rfl (HF.ev rfl)) ?_; clear HF; clear a; intro a HF
    refine wl_y rfl HF rfl rfl (yl_lenL (e := 9) (size := 1) rfl (HF.ev rfl) (by kernel_rfl)) ?_; clear HF; clear a; intro a HF
    refine wl_y rfl HF rfl rfl (yl_lssI rfl (HF.ev rfl) (HF.ev rfl)) ?_; clear HF; clear a; intro a HF
    refine wpList_nil ?_
    refine ex_then ?_
    refine HF.cases 36 rfl (fun cc2 HF1 => ?_) (fun cc2 HF1 => ?_)
    · clear HF; have HF := HF1; clear HF1
      have dcc2 := of_decide_eq_true cc2
      refine wc_true HF rfl ?_
      refine wp_skip ?_
      refine ex_then ?_
      refine wp_seq ?_
      refine wp_block ?_
      refine wp_seq ?_
      refine wr_quiet (by kernel_rfl) (by kernel_rfl) HS.out ?_
      refine wq_y rfl HF rfl rfl (fun _ HS => (yl_fieldAddr (j := 0) rfl (HF.ev rfl) (by kernel_rfl))) ?_; clear HF; clear a; intro a HF
      refine wq_y rfl HF rfl rfl (fun _ HS => (yl_load (v := .slice (some ⟨g, 0, none⟩) 3 c0) rfl (HF.ev rfl) (((HS.box 5 rfl).cell 0).trans rfl) (by kernel_rfl))) ?_; clear HF; clear a; intro a HF
      refine wq_y rfl HF rfl rfl (fun _ HS => (yl_move rfl (HF.ev rfl))) ?_; clear HF; clear a; intro a HF
      refine wq_y rfl HF rfl rfl (fun _ HS => (yl_indexAddr (e := 44) (i := k) (size := 3) rfl (HF.ev rfl) (HF.ev rfl) (by kernel_rfl) rfl (by omega))) ?_; clear HF; clear a; intro a HF
      refine wq_y rfl HF rfl rfl (fun _ HS => (yl_fieldAddr (j := 2) rfl (HF.ev rfl) (by kernel_rfl))) ?_; clear HF; clear a; intro a HF
      refine wq_y rfl HF rfl rfl (fun _ HS => (yl_load (v := .bool ((ps.getD k default).d.fGone)) rfl (HF.ev rfl) (HS.elem HD.cells_len 6 rfl (get_getD (xs := ps) (j := k) (d := default) (by omega)) 2 _ rfl) (by kernel_rfl))) ?_; clear HF; clear a; intro a HF
      refine wq_y rfl HF rfl rfl (fun _ HS => (yl_not rfl (HF.ev rfl))) ?_; clear HF; clear a; intro a HF
      refine wq_y rfl HF rfl rfl (fun _ HS => (yl_move rfl (HF.ev rfl))) ?_; clear HF; clear a; intro a HF
      refine HF.cases 46 rfl (fun cc3 HF1 => ?_) (fun cc3 HF1 => ?_)
      · clear HF; have HF := HF1; clear HF1
        refine wq_yg HF rfl rfl rfl rfl rfl (fun _ HS => (yl_move rfl (HF.ev rfl))) ?_; clear HF; clear a; intro a HF
        refine wq_yg HF rfl rfl rfl rfl rfl (fun _ HS => (yl_move rfl (HF.ev rfl))) ?_; clear HF; clear a; intro a HF
        refine wq_yg HF rfl rfl rfl rfl rfl (fun _ HS => (yl_indexAddr (e := 9) (i := k) (size := 1) rfl (HF.ev rfl) (HF.ev rfl) (by kernel_rfl) rfl (by omega))) ?_; clear HF; clear a; intro a HF
        refine wq_yg HF rfl rfl rfl rfl rfl (fun _ HS => (yl_load (v := .string ((colsS ps m).getD k ByteArray.empty)) rfl (HF.ev rfl) (HS.elem1 encS_len 1 rfl (get_getD (xs := colsS ps m) (j := k) (d := ByteArray.empty) (by omega)) rfl) (by kernel_rfl))) ?_; clear HF; clear a; intro a HF
        refine wq_yg HF rfl rfl rfl rfl rfl (fun _ HS => (yl_move rfl (HF.ev rfl))) ?_; clear HF; clear a; intro a HF
        refine wq_yg HF rfl rfl rfl rfl rfl (fun _ HS => (yl_move rfl (HF.ev rfl))) ?_; clear HF; clear a; intro a HF
        refine wq_yg HF rfl rfl rfl rfl rfl (fun _ HS => (yl_indexAddr (e := 9) (i := k) (size := 1) rfl (HF.ev rfl) (HF.ev rfl) (by kernel_rfl) rfl (by omega))) ?_; clear HF; clear a; intro a HF
        refine wq_yg HF rfl rfl rfl rfl rfl (fun _ HS => (yl_load (v := .string (([col0 t, col1 t, col2 t]).getD k ByteArray.empty)) rfl (HF.ev rfl) (HS.elem1 encS_len 2 rfl (get_getD (xs := [col0 t, col1 t, col2 t]) (j := k) (d := ByteArray.empty) (by omega)) rfl) (by kernel_rfl))) ?_; clear HF; clear a; intro a HF
        refine wq_yg HF rfl rfl rfl rfl rfl (fun _ HS => (yl_neqS rfl (HF.ev rfl) (HF.ev rfl))) ?_; clear HF; clear a; intro a HF
        refine wq_y rfl HF rfl rfl (fun _ HS => (yl_pick_t rfl (HF.ev rfl) (HF.ev rfl))) ?_; clear HF; clear a; intro a HF
        refine wq_y rfl HF rfl rfl (fun _ HS => (yl_assign rfl (HF.ev rfl))) ?_; clear HF; clear a; intro a HF
        refine wpQuiet_nil ?_; intro w10 HS; replace HS := Bx.mk HS
        refine ex_then ?_
        refine wp_seq ?_
        refine wp_region_lit ?_
        refine wl_y rfl HF rfl rfl (yl_move rfl (HF.ev rfl)) ?_; clear HF; clear a; intro a HF
        refine wl_y rfl HF rfl rfl (yl_move rfl (HF.ev rfl)) ?_; clear HF; clear a; intro a HF
        refine wl_buildS (enc := encL) (e := 4) (size := 1) rfl HF rfl rfl rfl (ps := [(0, .bool (!(((colsS ps m).getD k ByteArray.empty).toList == (([col0 t, col1 t, col2 t]).getD k ByteArray.empty).toList)))]) rfl (cells := [.bool (!(((colsS ps m).getD k ByteArray.empty).toList == (([col0 t, col1 t, col2 t]).getD k ByteArray.empty).toList))]) (by kernel_rfl) [(!(((colsS ps m).getD k ByteArray.empty).toList == (([col0 t, col1 t, col2 t]).getD k ByteArray.empty).toList))] rfl rfl (by unfold maxLen; omega) rfl HS.out ?_; clear HF HS; clear a; intro b6 a w11 HF HS; replace HS := Bx.mk HS
        refine wl_appL rfl HF rfl rfl rfl (HF.ev rfl) (HF.ev rfl) elemL encL_len HS.out 1 (xs := xs) rfl (ys := [(!(((colsS ps m).getD k ByteArray.empty).toList == (([col0 t, col1 t, col2 t]).getD k ByteArray.empty).toList))]) (St.rdN HS.out encL_len 0 rfl) (cells_one_L _) (by unfold maxLen; simp only [List.length_cons, List.length_nil]; omega) (by simp only [List.length_cons, List.length_nil]; omega) ?_; clear HF HS; clear a; intro ao7 cp8 w12 a HF HS; replace HS := Bx.mk HS
        replace HS : Bx (St w0 (rowA encL 1 4 (.slice (some ⟨b6, 0, none⟩) 1 1) ([(!(((colsS ps m).getD k ByteArray.empty).toList == (([col0 t, col1 t, col2 t]).getD k ByteArray.empty).toList))]) :: rowA encL 1 4 (.slice ao7 (xs.length + ([(!(((colsS ps m).getD k ByteArray.empty).toList == (([col0 t, col1 t, col2 t]).getD k ByteArray.empty).toList))]).length) cp8) (xs ++ ([(!(((colsS ps m).getD k ByteArray.empty).toList == (([col0 t, col1 t, col2 t]).getD k ByteArray.empty).toList))])) :: rowA encS 1 9 (.slice (some ⟨g4, 0, none⟩) 3 cpc) (colsS ps m) :: rowA encS 1 9 (.slice (some ⟨gw, 0, none⟩) 3 3) ([col0 t, col1 t, col2 t]) :: boxA b3 1 25 (.agg #[.slice none 0 0]) :: boxA b2 5 33 (.agg #[.int .i64 p.fAt, .int .i64 p.fBirth, .int .i64 p.fSize, .int .i64 p.fSum, .int .i64 p.fLevel]) :: boxA b1 1 25 (.agg #[.slice (some ⟨g, 0, none⟩) 3 c0]) :: rowA HD.cells 3 44 (.slice (some ⟨g, 0, none⟩) 3 c0) ps :: sepA (ps.map HD.asr) :: F) _) := ⟨HS.out⟩
        refine wl_y rfl HF rfl rfl (yl_assign rfl (HF.ev rfl)) ?_; clear HF; clear a; intro a HF
        refine wpList_nil ?_
        refine ex_then ?_
        refine wp_seq ?_
        refine wp_region_lit ?_
        refine wl_y rfl HF rfl rfl (yl_move rfl (HF.ev rfl)) ?_; clear HF; clear a; intro a HF
        refine wpList_nil ?_
        refine ex_then ?_
        refine HF.cases 61 rfl (fun cc4 HF1 => ?_) (fun cc4 HF1 => ?_)
        · clear HF; have HF := HF1; clear HF1
          refine wc_true HF rfl ?_
          refine wp_region_lit ?_
          refine wl_y rfl HF rfl rfl (yl_move rfl (HF.ev rfl)) ?_; clear HF; clear a; intro a HF
          refine wl_y rfl HF rfl rfl (yl_addI rfl (HF.ev rfl) (HF.ev rfl) (i64w (by omega))) ?_; clear HF; clear a; intro a HF
          refine wl_y rfl HF rfl rfl (yl_assign rfl (HF.ev rfl)) ?_; clear HF; clear a; intro a HF
          refine wpList_nil ?_
          refine ex_block ?_
          refine ex_then ?_
          refine wp_region_lit ?_
          refine wl_y rfl HF rfl rfl (yl_move rfl (HF.ev rfl)) ?_; clear HF; clear a; intro a HF
          refine wl_y rfl HF rfl rfl (yl_addI rfl (HF.ev rfl) (HF.ev rfl) (i64w (by omega))) ?_; clear HF; clear a; intro a HF
          refine wl_y rfl HF rfl rfl (yl_assign rfl (HF.ev rfl)) ?_; clear HF; clear a; intro a HF
          refine wpList_nil ?_
          refine ex_then ?_
          have hz : xs.length + [(!(((colsS ps m).getD k ByteArray.empty).toList == (([col0 t, col1 t, col2 t]).getD k ByteArray.empty).toList))].length = (xs ++ [(!(((colsS ps m).getD k ByteArray.empty).toList == (([col0 t, col1 t, col2 t]).getD k ByteArray.empty).toList))]).length := (List.length_append ..).symm
          rw [hz] at HS HF
          have hgn : (ps.getD k default).d.fGone = false := by simpa using cc3
          have hcg : (colsS ps m).getD k ByteArray.empty = (ps.getD k default).d.look m := by rw [colsS_get ps m k (by omega)]; unfold colS; rw [hgn]; rfl
          have hbad : badH (dsOf ps) t m k = true := by unfold badH; rw [dsOf_get, hgn]; rw [Bool.not_false, Bool.true_and, ← hcg]; exact cc4
          have hnext : xs ++ [(!(((colsS ps m).getD k ByteArray.empty).toList == (([col0 t, col1 t, col2 t]).getD k ByteArray.empty).toList))] = badsH (dsOf ps) t m (k + 1) := by rw [badsH_succ, ← hq, hbad]; rw [cc4]
          have hcnt : cntH (dsOf ps) t m (k + 1) = cntH (dsOf ps) t m k + 1 := by rw [cntH_succ, hbad]; rfl
          replace HS : Bx (St w0 (rowA encL 1 4 (.slice ao7 ((xs ++ [(!(((colsS ps m).getD k ByteArray.empty).toList == (([col0 t, col1 t, col2 t]).getD k ByteArray.empty).toList))]).length) cp8) (xs ++ ([(!(((colsS ps m).getD k ByteArray.empty).toList == (([col0 t, col1 t, col2 t]).getD k ByteArray.empty).toList))])) :: rowA encS 1 9 (.slice (some ⟨g4, 0, none⟩) 3 cpc) (colsS ps m) :: rowA encS 1 9 (.slice (some ⟨gw, 0, none⟩) 3 3) ([col0 t, col1 t, col2 t]) :: boxA b3 1 25 (.agg #[.slice none 0 0]) :: boxA b2 5 33 (.agg #[.int .i64 p.fAt, .int .i64 p.fBirth, .int .i64 p.fSize, .int .i64 p.fSum, .int .i64 p.fLevel]) :: boxA b1 1 25 (.agg #[.slice (some ⟨g, 0, none⟩) 3 c0]) :: rowA HD.cells 3 44 (.slice (some ⟨g, 0, none⟩) 3 c0) ps :: sepA (ps.map HD.asr) :: rowA encL 1 4 (.slice (some ⟨b6, 0, none⟩) 1 1) ([(!(((colsS ps m).getD k ByteArray.empty).toList == (([col0 t, col1 t, col2 t]).getD k ByteArray.empty).toList))]) :: F) _) := ⟨((((((((HS.out).pick 8 rfl).pick 8 rfl).pick 8 rfl).pick 8 rfl).pick 8 rfl).pick 8 rfl).pick 8 rfl).pick 8 rfl⟩
          exact ⟨k + 1, ⟨_, _, xs ++ [(!(((colsS ps m).getD k ByteArray.empty).toList == (([col0 t, col1 t, col2 t]).getD k ByteArray.empty).toList))], ⟨by omega, hnext⟩, HF.less _ ⟨rfl, rfl, rfl, rfl, rfl, rfl, rfl, rfl, (by show _ = some (Value.int .i64 ((cntH (dsOf ps) t m (k + 1) : Nat) : Int)); rw [hcnt]; rfl), rfl, trivial⟩, (HS.out.erase 8)⟩, (by omega)⟩
        · clear HF; have HF := HF1; clear HF1
          refine wc_false HF rfl ?_
          refine wp_skip ?_
          refine ex_block ?_
          refine ex_then ?_
          refine wp_region_lit ?_
          refine wl_y rfl HF rfl rfl (yl_move rfl (HF.ev rfl)) ?_; clear HF; clear a; intro a HF
          refine wl_y rfl HF rfl rfl (yl_addI rfl (HF.ev rfl) (HF.ev rfl) (i64w (by omega))) ?_; clear HF; clear a; intro a HF
          refine wl_y rfl HF rfl rfl (yl_assign rfl (HF.ev rfl)) ?_; clear HF; clear a; intro a HF
          refine wpList_nil ?_
          refine ex_then ?_
          have hz : xs.length + [(!(((colsS ps m).getD k ByteArray.empty).toList == (([col0 t, col1 t, col2 t]).getD k ByteArray.empty).toList))].length = (xs ++ [(!(((colsS ps m).getD k ByteArray.empty).toList == (([col0 t, col1 t, col2 t]).getD k ByteArray.empty).toList))]).length := (List.length_append ..).symm
          rw [hz] at HS HF
          have hgn : (ps.getD k default).d.fGone = false := by simpa using cc3
          have hcg : (colsS ps m).getD k ByteArray.empty = (ps.getD k default).d.look m := by rw [colsS_get ps m k (by omega)]; unfold colS; rw [hgn]; rfl
          have hbad : badH (dsOf ps) t m k = false := by unfold badH; rw [dsOf_get, hgn]; rw [Bool.not_false, Bool.true_and, ← hcg]; exact cc4
          have hnext : xs ++ [(!(((colsS ps m).getD k ByteArray.empty).toList == (([col0 t, col1 t, col2 t]).getD k ByteArray.empty).toList))] = badsH (dsOf ps) t m (k + 1) := by rw [badsH_succ, ← hq, hbad]; rw [cc4]
          have hcnt : cntH (dsOf ps) t m (k + 1) = cntH (dsOf ps) t m k + 0 := by rw [cntH_succ, hbad]; rfl
          replace HS : Bx (St w0 (rowA encL 1 4 (.slice ao7 ((xs ++ [(!(((colsS ps m).getD k ByteArray.empty).toList == (([col0 t, col1 t, col2 t]).getD k ByteArray.empty).toList))]).length) cp8) (xs ++ ([(!(((colsS ps m).getD k ByteArray.empty).toList == (([col0 t, col1 t, col2 t]).getD k ByteArray.empty).toList))])) :: rowA encS 1 9 (.slice (some ⟨g4, 0, none⟩) 3 cpc) (colsS ps m) :: rowA encS 1 9 (.slice (some ⟨gw, 0, none⟩) 3 3) ([col0 t, col1 t, col2 t]) :: boxA b3 1 25 (.agg #[.slice none 0 0]) :: boxA b2 5 33 (.agg #[.int .i64 p.fAt, .int .i64 p.fBirth, .int .i64 p.fSize, .int .i64 p.fSum, .int .i64 p.fLevel]) :: boxA b1 1 25 (.agg #[.slice (some ⟨g, 0, none⟩) 3 c0]) :: rowA HD.cells 3 44 (.slice (some ⟨g, 0, none⟩) 3 c0) ps :: sepA (ps.map HD.asr) :: rowA encL 1 4 (.slice (some ⟨b6, 0, none⟩) 1 1) ([(!(((colsS ps m).getD k ByteArray.empty).toList == (([col0 t, col1 t, col2 t]).getD k ByteArray.empty).toList))]) :: F) _) := ⟨((((((((HS.out).pick 8 rfl).pick 8 rfl).pick 8 rfl).pick 8 rfl).pick 8 rfl).pick 8 rfl).pick 8 rfl).pick 8 rfl⟩
          exact ⟨k + 1, ⟨_, _, xs ++ [(!(((colsS ps m).getD k ByteArray.empty).toList == (([col0 t, col1 t, col2 t]).getD k ByteArray.empty).toList))], ⟨by omega, hnext⟩, HF.less _ ⟨rfl, rfl, rfl, rfl, rfl, rfl, rfl, rfl, (by show _ = some (Value.int .i64 ((cntH (dsOf ps) t m (k + 1) : Nat) : Int)); rw [hcnt]; rfl), rfl, trivial⟩, (HS.out.erase 8)⟩, (by omega)⟩
      · clear HF; have HF := HF1; clear HF1
        refine wq_skip HF rfl rfl rfl rfl rfl rfl ?_; clear HF; clear a; intro a HF
        refine wq_skip HF rfl rfl rfl rfl rfl rfl ?_; clear HF; clear a; intro a HF
        refine wq_skip HF rfl rfl rfl rfl rfl rfl ?_; clear HF; clear a; intro a HF
        refine wq_skip HF rfl rfl rfl rfl rfl rfl ?_; clear HF; clear a; intro a HF
        refine wq_skip HF rfl rfl rfl rfl rfl rfl ?_; clear HF; clear a; intro a HF
        refine wq_skip HF rfl rfl rfl rfl rfl rfl ?_; clear HF; clear a; intro a HF
        refine wq_skip HF rfl rfl rfl rfl rfl rfl ?_; clear HF; clear a; intro a HF
        refine wq_skip HF rfl rfl rfl rfl rfl rfl ?_; clear HF; clear a; intro a HF
        refine wq_skip HF rfl rfl rfl rfl rfl rfl ?_; clear HF; clear a; intro a HF
        refine wq_y rfl HF rfl rfl (fun _ HS => (yl_pick_f rfl (HF.ev rfl) (HF.ev rfl))) ?_; clear HF; clear a; intro a HF
        refine wq_y rfl HF rfl rfl (fun _ HS => (yl_assign rfl (HF.ev rfl))) ?_; clear HF; clear a; intro a HF
        refine wpQuiet_nil ?_; intro w13 HS; replace HS := Bx.mk HS
        refine ex_then ?_
        refine wp_seq ?_
        refine wp_region_lit ?_
        refine wl_y rfl HF rfl rfl (yl_move rfl (HF.ev rfl)) ?_; clear HF; clear a; intro a HF
        refine wl_y rfl HF rfl rfl (yl_move rfl (HF.ev rfl)) ?_; clear HF; clear a; intro a HF
        refine wl_buildS (enc := encL) (e := 4) (size := 1) rfl HF rfl rfl rfl (ps := [(0, .bool false)]) rfl (cells := [.bool false]) (by kernel_rfl) [false] rfl rfl (by unfold maxLen; omega) rfl HS.out ?_; clear HF HS; clear a; intro b9 a w14 HF HS; replace HS := Bx.mk HS
        refine wl_appL rfl HF rfl rfl rfl (HF.ev rfl) (HF.ev rfl) elemL encL_len HS.out 1 (xs := xs) rfl (ys := [false]) (St.rdN HS.out encL_len 0 rfl) (cells_one_L _) (by unfold maxLen; simp only [List.length_cons, List.length_nil]; omega) (by simp only [List.length_cons, List.length_nil]; omega) ?_; clear HF HS; clear a; intro ao10 cp11 w15 a HF HS; replace HS := Bx.mk HS
        replace HS : Bx (St w0 (rowA encL 1 4 (.slice (some ⟨b9, 0, none⟩) 1 1) ([false]) :: rowA encL 1 4 (.slice ao10 (xs.length + ([false]).length) cp11) (xs ++ ([false])) :: rowA encS 1 9 (.slice (some ⟨g4, 0, none⟩) 3 cpc) (colsS ps m) :: rowA encS 1 9 (.slice (some ⟨gw, 0, none⟩) 3 3) ([col0 t, col1 t, col2 t]) :: boxA b3 1 25 (.agg #[.slice none 0 0]) :: boxA b2 5 33 (.agg #[.int .i64 p.fAt, .int .i64 p.fBirth, .int .i64 p.fSize, .int .i64 p.fSum, .int .i64 p.fLevel]) :: boxA b1 1 25 (.agg #[.slice (some ⟨g, 0, none⟩) 3 c0]) :: rowA HD.cells 3 44 (.slice (some ⟨g, 0, none⟩) 3 c0) ps :: sepA (ps.map HD.asr) :: F) _) := ⟨HS.out⟩
        refine wl_y rfl HF rfl rfl (yl_assign rfl (HF.ev rfl)) ?_; clear HF; clear a; intro a HF
        refine wpList_nil ?_
        refine ex_then ?_
        refine wp_seq ?_
        refine wp_region_lit ?_
        refine wl_y rfl HF rfl rfl (yl_move rfl (HF.ev rfl)) ?_; clear HF; clear a; intro a HF
        refine wpList_nil ?_
        refine ex_then ?_
        refine wc_false HF rfl ?_
        refine wp_skip ?_
        refine ex_block ?_
        refine ex_then ?_
        refine wp_region_lit ?_
        refine wl_y rfl HF rfl rfl (yl_move rfl (HF.ev rfl)) ?_; clear HF; clear a; intro a HF
        refine wl_y rfl HF rfl rfl (yl_addI rfl (HF.ev rfl) (HF.ev rfl) (i64w (by omega))) ?_; clear HF; clear a; intro a HF
        refine wl_y rfl HF rfl rfl (yl_assign rfl (HF.ev rfl)) ?_; clear HF; clear a; intro a HF
        refine wpList_nil ?_
        refine ex_then ?_
        have hz : xs.length + [false].length = (xs ++ [false]).length := (List.length_append ..).symm
        rw [hz] at HS HF
        have hgn : (ps.getD k default).d.fGone = true := by simpa using cc3
        have hbad : badH (dsOf ps) t m k = false := by unfold badH; rw [dsOf_get, hgn]; rfl
        have hnext : xs ++ [false] = badsH (dsOf ps) t m (k + 1) := by rw [badsH_succ, ← hq, hbad]
        have hcnt : cntH (dsOf ps) t m (k + 1) = cntH (dsOf ps) t m k + 0 := by rw [cntH_succ, hbad]; rfl
        replace HS : Bx (St w0 (rowA encL 1 4 (.slice ao10 ((xs ++ [false]).length) cp11) (xs ++ ([false])) :: rowA encS 1 9 (.slice (some ⟨g4, 0, none⟩) 3 cpc) (colsS ps m) :: rowA encS 1 9 (.slice (some ⟨gw, 0, none⟩) 3 3) ([col0 t, col1 t, col2 t]) :: boxA b3 1 25 (.agg #[.slice none 0 0]) :: boxA b2 5 33 (.agg #[.int .i64 p.fAt, .int .i64 p.fBirth, .int .i64 p.fSize, .int .i64 p.fSum, .int .i64 p.fLevel]) :: boxA b1 1 25 (.agg #[.slice (some ⟨g, 0, none⟩) 3 c0]) :: rowA HD.cells 3 44 (.slice (some ⟨g, 0, none⟩) 3 c0) ps :: sepA (ps.map HD.asr) :: rowA encL 1 4 (.slice (some ⟨b9, 0, none⟩) 1 1) ([false]) :: F) _) := ⟨((((((((HS.out).pick 8 rfl).pick 8 rfl).pick 8 rfl).pick 8 rfl).pick 8 rfl).pick 8 rfl).pick 8 rfl).pick 8 rfl⟩
        exact ⟨k + 1, ⟨_, _, xs ++ [false], ⟨by omega, hnext⟩, HF.less _ ⟨rfl, rfl, rfl, rfl, rfl, rfl, rfl, rfl, (by show _ = some (Value.int .i64 ((cntH (dsOf ps) t m (k + 1) : Nat) : Int)); rw [hcnt]; rfl), rfl, trivial⟩, (HS.out.erase 8)⟩, (by omega)⟩
    · clear HF; have HF := HF1; clear HF1
      have dcc2 := of_decide_eq_false cc2
      refine wc_false HF rfl ?_
      refine wp_exit ?_
      refine ex_then_exit ?_
      refine ex_then_exit ?_
      refine ex_block_hit ?_
      refine ex_then ?_
      refine wp_seq ?_
      refine wp_region_lit ?_
      refine wl_y rfl HF rfl rfl (yl_loadR (cs := [.slice (some ⟨g, 0, none⟩) 3 c0]) rfl (HF.ev rfl) ((HS.out.box 5 rfl).sub 0 1) (by kernel_rfl)) ?_; clear HF; clear a; intro a HF
      refine wl_y rfl HF rfl rfl (yl_fieldAddr (j := 0) rfl (HF.ev rfl) (by kernel_rfl)) ?_; clear HF; clear a; intro a HF
      refine wl_y rfl HF rfl rfl (yl_load (v := .int .i64 p.fAt) rfl (HF.ev rfl) (((HS.out.box 4 rfl).cell 0).trans rfl) (by kernel_rfl)) ?_; clear HF; clear a; intro a HF
      refine wl_y rfl HF rfl rfl (yl_move rfl (HF.ev rfl)) ?_; clear HF; clear a; intro a HF
      refine wl_y rfl HF rfl rfl (yl_move rfl (HF.ev rfl)) ?_; clear HF; clear a; intro a HF
      obtain rfl : k = 3 := by omega
      obtain ⟨g12, rfl, _, _, _, _⟩ := HS.out.rowOpen 0 rfl (by omega)
      rw [hxl] at HS HF
      replace HS : Bx (St w0 (rowA HD.cells 3 44 (.slice (some ⟨g, 0, none⟩) 3 c0) ps :: sepA (ps.map HD.asr) :: rowA encS 1 9 (.slice (some ⟨gw, 0, none⟩) 3 3) ([col0 t, col1 t, col2 t]) :: rowA encL 1 4 (.slice (some ⟨g12, 0, none⟩) 3 cp) xs :: rowA encS 1 9 (.slice (some ⟨g4, 0, none⟩) 3 cpc) (colsS ps m) :: boxA b3 1 25 (.agg #[.slice none 0 0]) :: boxA b2 5 33 (.agg #[.int .i64 p.fAt, .int .i64 p.fBirth, .int .i64 p.fSize, .int .i64 p.fSum, .int .i64 p.fLevel]) :: boxA b1 1 25 (.agg #[.slice (some ⟨g, 0, none⟩) 3 c0]) :: F) _) := ⟨((((HS.out).pick 0 rfl).pick 2 rfl).pick 7 rfl).pick 7 rfl⟩
      have hxg : ∀ i, i < 3 → xs.getD i false = badH (dsOf ps) t m i := fun i hi => by rw [hq]; simp [badsH, List.getD, hi]
      have hcong : eachTo (stepPut (m : Int) (fun i => [col0 t, col1 t, col2 t].getD i ByteArray.empty) (fun i => xs.getD i false)) (dsOf ps) 3 = healD (dsOf ps) t m := eachTo_congr fun i hi => by have h9 := hxg i hi; simp only [stepPut, h9, colOf]
      refine wl_call rfl HF rfl (enter_of Try.func54 (by kernel_rfl) rfl) (args := #[.agg #[.slice (some ⟨g, 0, none⟩) 3 c0], .int .i64 p.fAt, .slice (some ⟨gw, 0, none⟩) 3 3, .slice (some ⟨g12, 0, none⟩) 3 cp]) rfl (by have := l4Put_any w0 _ g c0 gw 3 g12 cp ps (m : Int) [col0 t, col1 t, col2 t] xs _ (by omega) (by rw [hl]; exact Nat.le_refl 3) (by omega) hpw (fun i => Nat.le_trans (col_le t i (by omega)) (by decide)) (by rw [hl, hxl]; exact HS.out); rw [hl, hcong, hxl, ← hpa] at this; exact this) rfl rfl ?_
      rintro _ w16 (⟨hev, rfl, hs⟩ | ⟨qs, hev, rfl, hs⟩)
      · skip
        refine ⟨_, rfl, ?_⟩; replace HS := Bx.mk hs; clear hs HF; clear a; intro a HF
        replace HS : Bx (St w0 (rowA encS 1 9 (.slice (some ⟨gw, 0, none⟩) 3 3) ([col0 t, col1 t, col2 t]) :: rowA encL 1 4 (.slice (some ⟨g12, 0, none⟩) 3 cp) xs :: rowA encS 1 9 (.slice (some ⟨g4, 0, none⟩) 3 cpc) (colsS ps m) :: boxA b3 1 25 (.agg #[.slice none 0 0]) :: boxA b2 5 33 (.agg #[.int .i64 p.fAt, .int .i64 p.fBirth, .int .i64 p.fSize, .int .i64 p.fSum, .int .i64 p.fLevel]) :: boxA b1 1 25 (.agg #[.slice (some ⟨g, 0, none⟩) 3 c0]) :: F) _) := ⟨HS.out⟩
        refine wl_y rfl HF rfl rfl (yl_move rfl (HF.ev rfl)) ?_; clear HF; clear a; intro a HF
        refine wl_y rfl HF rfl rfl (yl_extract rfl (HF.ev rfl) rfl) ?_; clear HF; clear a; intro a HF
        refine wl_y rfl HF rfl rfl (yl_extract rfl (HF.ev rfl) rfl) ?_; clear HF; clear a; intro a HF
        refine wl_alloc rfl HF rfl rfl rfl (Z := [.slice none 0 0]) (by kernel_rfl) rfl HS.out ?_; clear HF HS; clear a; intro a w17 b13 HF HS; replace HS := Bx.mk HS
        refine wl_storeBox rfl HF rfl rfl (HF.ev rfl) (HF.ev rfl) HS.out 0 rfl (cells_lit [.slice none 0 0] rfl rfl) (by kernel_rfl) ?_; clear HS; intro w18 HS; replace HS := Bx.mk HS
        have HS : Bx (St w0 (boxA b13 1 25 (.agg #[.slice none 0 0]) :: rowA encS 1 9 (.slice (some ⟨gw, 0, none⟩) 3 3) ([col0 t, col1 t, col2 t]) :: rowA encL 1 4 (.slice (some ⟨g12, 0, none⟩) 3 cp) xs :: rowA encS 1 9 (.slice (some ⟨g4, 0, none⟩) 3 cpc) (colsS ps m) :: boxA b3 1 25 (.agg #[.slice none 0 0]) :: boxA b2 5 33 (.agg #[.int .i64 p.fAt, .int .i64 p.fBirth, .int .i64 p.fSize, .int .i64 p.fSum, .int .i64 p.fLevel]) :: boxA b1 1 25 (.agg #[.slice (some ⟨g, 0, none⟩) 3 c0]) :: F) _) := HS
        refine wl_y rfl HF rfl rfl (yl_assign rfl (HF.ev rfl)) ?_; clear HF; clear a; intro a HF
        refine wpList_nil ?_
        refine ex_then ?_
        refine wp_seq ?_
        refine wp_seq ?_
        refine wp_region_lit ?_
        refine wl_y rfl HF rfl rfl (yl_move rfl (HF.ev rfl)) ?_; clear HF; clear a; intro a HF
        refine wl_y rfl HF rfl rfl (yl_not rfl (HF.ev rfl)) ?_; clear HF; clear a; intro a HF
        refine wpList_nil ?_
        refine ex_then ?_
        refine wc_true HF rfl ?_
        refine wp_seq ?_
        refine wp_region_lit ?_
        refine wl_y rfl HF rfl rfl (yl_build HF rfl (ps := []) rfl (cs := #[.slice none 0 0]) (by kernel_rfl)) ?_; clear HF; clear a; intro a HF
        refine wl_storeBox rfl HF rfl rfl (HF.ev rfl) (HF.ev rfl) HS.out 4 rfl (cells_lit [.slice none 0 0] rfl rfl) (by kernel_rfl) ?_; clear HS; intro w19 HS; replace HS := Bx.mk HS
        have HS : Bx (St w0 (boxA b13 1 25 (.agg #[.slice none 0 0]) :: rowA encS 1 9 (.slice (some ⟨gw, 0, none⟩) 3 3) ([col0 t, col1 t, col2 t]) :: rowA encL 1 4 (.slice (some ⟨g12, 0, none⟩) 3 cp) xs :: rowA encS 1 9 (.slice (some ⟨g4, 0, none⟩) 3 cpc) (colsS ps m) :: boxA b3 1 25 (.agg #[.slice none 0 0]) :: boxA b2 5 33 (.agg #[.int .i64 p.fAt, .int .i64 p.fBirth, .int .i64 p.fSize, .int .i64 p.fSum, .int .i64 p.fLevel]) :: boxA b1 1 25 (.agg #[.slice (some ⟨g, 0, none⟩) 3 c0]) :: F) _) := HS
        refine wl_y rfl HF rfl rfl (yl_assign rfl (HF.ev rfl)) ?_; clear HF; clear a; intro a HF
        refine wl_y rfl HF rfl rfl (yl_assign rfl (HF.ev rfl)) ?_; clear HF; clear a; intro a HF
        refine wpList_nil ?_
        refine ex_then ?_
        refine wp_ret ?_
        refine ex_then_ret ?_
        refine bp_ret3 HF Try.results103 (HF.resBox rfl (HS.out.box 4 rfl) (by kernel_rfl)) (HF.res rfl) (HF.res rfl) ?_
        refine .inl ⟨.inr ⟨hrd, by rw [← ht]; exact hev⟩, rfl, (((((((HS.out.erase 6).erase 5).erase 4).erase 3).erase 2).erase 1).erase 0)⟩
      · skip
        refine ⟨_, rfl, ?_⟩; replace HS := Bx.mk hs; clear hs HF; clear a; intro a HF
        replace HS : Bx (St w0 (rowA HD.cells 3 44 (.slice (some ⟨g, 0, none⟩) 3 c0) qs :: sepA (qs.map HD.asr) :: rowA encS 1 9 (.slice (some ⟨gw, 0, none⟩) 3 3) ([col0 t, col1 t, col2 t]) :: rowA encL 1 4 (.slice (some ⟨g12, 0, none⟩) 3 cp) xs :: rowA encS 1 9 (.slice (some ⟨g4, 0, none⟩) 3 cpc) (colsS ps m) :: boxA b3 1 25 (.agg #[.slice none 0 0]) :: boxA b2 5 33 (.agg #[.int .i64 p.fAt, .int .i64 p.fBirth, .int .i64 p.fSize, .int .i64 p.fSum, .int .i64 p.fLevel]) :: boxA b1 1 25 (.agg #[.slice (some ⟨g, 0, none⟩) 3 c0]) :: F) _) := ⟨HS.out⟩
        refine wl_y rfl HF rfl rfl (yl_move rfl (HF.ev rfl)) ?_; clear HF; clear a; intro a HF
        refine wl_y rfl HF rfl rfl (yl_extract rfl (HF.ev rfl) rfl) ?_; clear HF; clear a; intro a HF
        refine wl_y rfl HF rfl rfl (yl_extract rfl (HF.ev rfl) rfl) ?_; clear HF; clear a; intro a HF
        refine wl_alloc rfl HF rfl rfl rfl (Z := [.slice none 0 0]) (by kernel_rfl) rfl HS.out ?_; clear HF HS; clear a; intro a w20 b14 HF HS; replace HS := Bx.mk HS
        refine wl_storeBox rfl HF rfl rfl (HF.ev rfl) (HF.ev rfl) HS.out 0 rfl (cells_lit [.slice (some ⟨g, 0, none⟩) 3 c0] rfl rfl) (by kernel_rfl) ?_; clear HS; intro w21 HS; replace HS := Bx.mk HS
        have HS : Bx (St w0 (boxA b14 1 25 (.agg #[.slice (some ⟨g, 0, none⟩) 3 c0]) :: rowA HD.cells 3 44 (.slice (some ⟨g, 0, none⟩) 3 c0) qs :: sepA (qs.map HD.asr) :: rowA encS 1 9 (.slice (some ⟨gw, 0, none⟩) 3 3) ([col0 t, col1 t, col2 t]) :: rowA encL 1 4 (.slice (some ⟨g12, 0, none⟩) 3 cp) xs :: rowA encS 1 9 (.slice (some ⟨g4, 0, none⟩) 3 cpc) (colsS ps m) :: boxA b3 1 25 (.agg #[.slice none 0 0]) :: boxA b2 5 33 (.agg #[.int .i64 p.fAt, .int .i64 p.fBirth, .int .i64 p.fSize, .int .i64 p.fSum, .int .i64 p.fLevel]) :: boxA b1 1 25 (.agg #[.slice (some ⟨g, 0, none⟩) 3 c0]) :: F) _) := HS
        refine wl_y rfl HF rfl rfl (yl_assign rfl (HF.ev rfl)) ?_; clear HF; clear a; intro a HF
        refine wpList_nil ?_
        refine ex_then ?_
        refine wp_seq ?_
        refine wp_seq ?_
        refine wp_region_lit ?_
        refine wl_y rfl HF rfl rfl (yl_move rfl (HF.ev rfl)) ?_; clear HF; clear a; intro a HF
        refine wl_y rfl HF rfl rfl (yl_not rfl (HF.ev rfl)) ?_; clear HF; clear a; intro a HF
        refine wpList_nil ?_
        refine ex_then ?_
        refine wc_false HF rfl ?_
        refine wp_skip ?_
        refine ex_then ?_
        refine wp_seq ?_
        refine wp_region_lit ?_
        refine wl_y rfl HF rfl rfl (yl_loadR (cs := [.slice (some ⟨g, 0, none⟩) 3 c0]) rfl (HF.ev rfl) ((HS.out.box 0 rfl).sub 0 1) (by kernel_rfl)) ?_; clear HF; clear a; intro a HF
        refine wl_y rfl HF rfl rfl (yl_move rfl (HF.ev rfl)) ?_; clear HF; clear a; intro a HF
        refine wl_storeBox rfl HF rfl rfl (HF.ev rfl) (HF.ev rfl) HS.out 6 rfl (cells_lit [.slice (some ⟨g, 0, none⟩) 3 c0] rfl rfl) (by kernel_rfl) ?_; clear HS; intro w22 HS; replace HS := Bx.mk HS
        have HS : Bx (St w0 (boxA b14 1 25 (.agg #[.slice (some ⟨g, 0, none⟩) 3 c0]) :: rowA HD.cells 3 44 (.slice (some ⟨g, 0, none⟩) 3 c0) qs :: sepA (qs.map HD.asr) :: rowA encS 1 9 (.slice (some ⟨gw, 0, none⟩) 3 3) ([col0 t, col1 t, col2 t]) :: rowA encL 1 4 (.slice (some ⟨g12, 0, none⟩) 3 cp) xs :: rowA encS 1 9 (.slice (some ⟨g4, 0, none⟩) 3 cpc) (colsS ps m) :: boxA b3 1 25 (.agg #[.slice (some ⟨g, 0, none⟩) 3 c0]) :: boxA b2 5 33 (.agg #[.int .i64 p.fAt, .int .i64 p.fBirth, .int .i64 p.fSize, .int .i64 p.fSum, .int .i64 p.fLevel]) :: boxA b1 1 25 (.agg #[.slice (some ⟨g, 0, none⟩) 3 c0]) :: F) _) := HS
        refine wl_y rfl HF rfl rfl (yl_assign rfl (HF.ev rfl)) ?_; clear HF; clear a; intro a HF
        refine wl_y rfl HF rfl rfl (yl_assign rfl (HF.ev rfl)) ?_; clear HF; clear a; intro a HF
        refine wpList_nil ?_
        refine ex_then ?_
        refine wp_ret ?_
        refine bp_ret3 HF Try.results103 (HF.resBox rfl (HS.out.box 6 rfl) (by kernel_rfl)) (HF.res rfl) (HF.res rfl) ?_
        replace HS : Bx (St w0 (rowA HD.cells 3 44 (.slice (some ⟨g, 0, none⟩) 3 c0) qs :: sepA (qs.map HD.asr) :: boxA b14 1 25 (.agg #[.slice (some ⟨g, 0, none⟩) 3 c0]) :: rowA encS 1 9 (.slice (some ⟨gw, 0, none⟩) 3 3) ([col0 t, col1 t, col2 t]) :: rowA encL 1 4 (.slice (some ⟨g12, 0, none⟩) 3 cp) xs :: rowA encS 1 9 (.slice (some ⟨g4, 0, none⟩) 3 cpc) (colsS ps m) :: boxA b3 1 25 (.agg #[.slice (some ⟨g, 0, none⟩) 3 c0]) :: boxA b2 5 33 (.agg #[.int .i64 p.fAt, .int .i64 p.fBirth, .int .i64 p.fSize, .int .i64 p.fSum, .int .i64 p.fLevel]) :: boxA b1 1 25 (.agg #[.slice (some ⟨g, 0, none⟩) 3 c0]) :: F) _) := ⟨((HS.out).pick 2 rfl).pick 2 rfl⟩
        exact .inr ⟨hrd, qs, by rw [← ht]; exact hev, by rw [← ht], (((((((HS.out.erase 8).erase 7).erase 6).erase 5).erase 4).erase 3).erase 2)⟩

end Go.Proofs.Ytfijfjjleelphaa
